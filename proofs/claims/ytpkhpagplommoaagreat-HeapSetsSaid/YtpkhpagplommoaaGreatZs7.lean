/- Part 7 of the proof that is ended in the last text: small logic, what the functions compute, walks, plain laws. -/
import Derived.Test.YtpkhpagplommoaaGreatZs6
namespace Go.Proofs.YtpkhpagplommoaaGreat
open Go Go.RowKit a2
set_option maxHeartbeats 4000000
set_option maxRecDepth 20000
theorem ajx {W:World} {X:List Nat} {F:Nat} {h_:J.bp} {aa:J.bt} {r:Int} {ag:aT} {ah:Nat} {aJ:aT} {aQ:Nat} {aS:aT} {aV:Nat} {bk:aT} {bl:Nat} {bg:aT} {bj:Nat} {bz:aT} {bA:Nat} {bD:aT} {bE:Nat} {M0:List Nat} (hm:aw W M0 X W [] [U (ai .i64) ag ah h_.Words,U (ai .i64) aJ aQ h_.au,U J.bc aS aV aa.aG,U (ai .i64) bk bl aa.aE,U (aH J.aW) bg bj aa.Fields,U (aH bF) bz bA aa.Names,U (aH J.bV) bD bE aa.aD]) (h:J.B7 F h_ aa=some r) :
 Calls Tryz.prog 50 [.agg #[.q ag ah h_.Words,.i h_.aq,.i h_.aA,.i h_.aP,.i h_.aM,.q aJ aQ h_.au,.i h_.Next],.agg #[.q aS aV aa.aG,.q bk bl aa.aE,.q bg bj aa.Fields,.q bz bA aa.Names,.q bD bE aa.aD]].toArray W (fun e aF=>e= .returned (.i r)/\aw W M0 X aF [] []):=by
 refine enter Tryz.func50 rfl Tryz.ntmps50 rfl fun a I=>?_;rw [J.B7] at h;refine wp_seq_k fun K c2=>aZ <| cz (cs:=[.q ag ah h_.Words,.i h_.aq,.i h_.aA,.i h_.aP,.i h_.aM,.q aJ aQ h_.au,.i h_.Next]) wn (ef rfl rfl (I.g rfl)) I hm rfl rfl fun a bY w _ I hm=>cz (cs:=[.q aS aV aa.aG,.q bk bl aa.aE,.q bg bj aa.Fields,.q bz bA aa.Names,.q bD bE aa.aD]) wn (ef rfl rfl (I.g rfl)) I hm rfl rfl fun a cx w _ I hm=>aN 1 [] [] I fun a I=>wpList_nil (c2 _ _ ?_);refine wp_seq_k fun K bO=>?_
 refine wp_seq_k fun K cc=>aZ <| bf 2 [0,1] [(21,.i h_.aq)] [bY,1] (ay (a1 (hm.e 1 rfl)) ax) I fun a I=>?_;obtain ⟨bX,kt,h⟩:=J.aI h;have hc:=hm;refine bR (vs:=[.i h_.aq,.i 3,.i 2000]) wn rfl Tryz.call41 ⟨(I.g rfl),(c0 _ _),(c0 _ _),trivial⟩ (nB ((hc.into 0).pick trivial) kt) I rfl rfl ?_;rintro _ w ⟨rfl,af⟩;refine ⟨_,rfl,fun a I=>?_⟩;have hm:=hc.back 0 af;clear af hc;refine aN 2 [] [(24,.bool (!bX))] I fun a I=>?_;rcases Bool.eq_false_or_eq_true (!bX) with rc | rc
 · have h:=J.c5 rc h;have I:=I.b1 24 rfl rc;refine aN 5 [1,1,1,1,1] [(29,.bool true)] I fun a I=>wpList_nil (cc _ _ ?_);refine eJ (I.g rfl) rfl <| bu [] [(4,.i 3)] I fun a I=>wp_ret ?_;obtain rfl:=aC h;refine al <| bq Tryz.results50 I rfl ?_;exact ⟨rfl,hm.aX [] []⟩
 have h:=J.c4 rc h;have I:=I.b1 24 rfl rc;refine bf 2 [1,1,0,2] [(26,.i h_.aA)] [bY,2] (ay (a1 (hm.e 1 rfl)) ax) I fun a I=>?_;obtain ⟨nZ,rq,h⟩:=J.aI h;have hc:=hm;refine bR (vs:=[.i h_.aA,.i 3,.i 2000]) (cS I rfl rfl rfl rfl) rfl Tryz.call41 ⟨(I.g rfl),(c0 _ _),(c0 _ _),trivial⟩ (nB ((hc.into 0).pick trivial) rq) I rfl rfl ?_;rintro _ w ⟨rfl,af⟩;refine ⟨_,rfl,fun a I=>?_⟩;have hm:=hc.back 0 af;clear af hc;refine aN 2 [1,1] [(29,.bool (!nZ))] I fun a I=>wpList_nil (cc _ _ ?_);refine bn (I.g rfl) h (fun aqv h=>?_) (fun aqv h=>?_)
 · refine bu [] [(4,.i 3)] I fun a I=>wp_ret ?_;obtain rfl:=aC h;refine al <| bq Tryz.results50 I rfl ?_;exact ⟨rfl,hm.aX [] []⟩
 refine wp_skip <| bO _ _ <| wp_seq_k fun K dK=>wp_seq_k fun K dm=>eH [0,0,0,1,0,2] [(39,.bool (!decide ((h_.Words.length:Int)=(J.av ((J.av (1 +h_.aq))+h_.aA)))))] [bY,2,bY,1,bY,0] (ay (a1 (hm.e 1 rfl)) ax) I fun a I=>dm _ _ <| bn (I.g rfl) h (fun R4 h=>?_) (fun R4 h=>?_)
 · refine bu [] [(4,.i 1)] I fun a I=>wp_ret ?_;obtain rfl:=aC h;refine al <| bq Tryz.results50 I rfl ?_;exact ⟨rfl,hm.aX [] []⟩
 refine wp_skip <| dK _ _ <| wp_seq_k fun K dj=>wp_seq_k fun K df=>aZ <| bf 5 [0,3,0,1] [(41,.i h_.aP),(44,.i (J.av (h_.aq+ 1)))] [bY,1,bY,3] (ay (a1 (hm.e 1 rfl)) ax) I fun a I=>?_;obtain ⟨eO,H_,h⟩:=J.aI h;have hc:=hm;refine bR (vs:=[.i h_.aP,.i 1,.i (J.av (h_.aq+ 1))]) wn rfl Tryz.call41 ⟨(I.g rfl),(c0 _ _),(I.g rfl),trivial⟩ (nB ((hc.into 0).pick trivial) H_) I rfl rfl ?_;rintro _ w ⟨rfl,af⟩;refine ⟨_,rfl,fun a I=>?_⟩;have hm:=hc.back 0 af;clear af hc
 refine aN 2 [] [(47,.bool (!eO))] I fun a I=>?_;rcases Bool.eq_false_or_eq_true (!eO) with uq | uq
 · have h:=J.c5 uq h;have I:=I.b1 47 rfl uq;refine aN 19 [1,1,1,1,1,1,1,1,1,1,1,1,1,1,1,1,1,1] [(66,.bool true)] I fun a I=>wpList_nil (df _ _ ?_);refine eJ (I.g rfl) rfl <| bu [] [(4,.i 3)] I fun a I=>wp_ret ?_;obtain rfl:=aC h;refine al <| bq Tryz.results50 I rfl ?_;exact ⟨rfl,hm.aX [] []⟩
 have h:=J.c4 uq h;have I:=I.b1 47 rfl uq;refine bf 11 [1,1,0,4,1,1,0,1,1,1,1,0,1,1,1,0,2,1,1] [(49,.i h_.aM),(52,.i (J.av (h_.aq+ 1))),(58,.i (J.av ((J.av (h_.aq+h_.aA))+ 1)))] [bY,2,bY,1,bY,1,bY,4] (ay (a1 (hm.e 1 rfl)) ax) I fun a I=>?_;obtain ⟨gj,Ia,h⟩:=J.aI h;have hc:=hm;refine bR (vs:=[.i h_.aM,.i (J.av (h_.aq+ 1)),.i (J.av ((J.av (h_.aq+h_.aA))+ 1))]) (cS I rfl rfl rfl rfl) rfl Tryz.call41 ⟨(I.g rfl),(I.g rfl),(I.g rfl),trivial⟩ (nB ((hc.into 0).pick trivial) Ia) I rfl rfl ?_;rintro _ w ⟨rfl,af⟩;refine ⟨_,rfl,fun a I=>?_⟩;have ad:a7 [] _ w:=af.ev;have hm:=hc.back 0 af
 clear af hc;clear ad;refine bf 7 [1,1,0,0,0,6,0,0] [(66,.bool ((!gj) || (decide (h_.Next < 1))))] [bY,6] (ay (a1 (hm.e 1 rfl)) ax) I fun a I=>wpList_nil (df _ _ ?_);refine bn (I.g rfl) h (fun rf h=>?_) (fun rf h=>?_)
 · refine bu [] [(4,.i 3)] I fun a I=>wp_ret ?_;obtain rfl:=aC h;refine al <| bq Tryz.results50 I rfl ?_;exact ⟨rfl,hm.aX [] []⟩
 refine wp_skip <| dj _ _ <| wp_seq_k fun K dS=>aZ <| bf 2 [0,0,1,0] [(68,.agg #[.q ag ah h_.Words,.i h_.aq,.i h_.aA,.i h_.aP,.i h_.aM,.q aJ aQ h_.au,.i h_.Next]),(69,.agg #[.q aS aV aa.aG,.q bk bl aa.aE,.q bg bj aa.Fields,.q bz bA aa.Names,.q bD bE aa.aD])] [cx,0,bY,0] (ay (a1 (hm.e 1 rfl)) (ay (a1 (hm.e 0 rfl)) ax)) I fun a I=>?_;obtain ⟨cu,Ib,h⟩:=J.aI h;have hc:=hm
 refine bR (vs:=[.agg #[.q ag ah h_.Words,.i h_.aq,.i h_.aA,.i h_.aP,.i h_.aM,.q aJ aQ h_.au,.i h_.Next],.agg #[.q aS aV aa.aG,.q bk bl aa.aE,.q bg bj aa.Fields,.q bz bA aa.Names,.q bD bE aa.aD]]) wn rfl Tryz.call61 ⟨(I.g rfl),(I.g rfl),trivial⟩ (acg ((hc.into 0).pick ⟨⟨0,rfl⟩,⟨1,rfl⟩,⟨2,rfl⟩,⟨3,rfl⟩,⟨4,rfl⟩,⟨5,rfl⟩,⟨6,rfl⟩,trivial⟩) Ib) I rfl rfl ?_;rintro _ w ⟨gN,gO,v5,dZ,en,aLT,rfl,af⟩;refine ⟨_,rfl,fun a I=>?_⟩;have hm:=hc.back 0 af;clear af hc
 refine aN 7 [] [(5,.q gN gO cu.1),(6,.q dZ en cu.2.1),(7,.bool cu.2.2)] I fun a I=>wpList_nil (dS _ _ ?_);refine wp_seq_k fun K fo=>bd [] [(75,.bool (!cu.2.2))] I fun a I=>bn (I.g rfl) h (fun R8 h=>?_) (fun R8 h=>?_)
 · refine bu [] [(4,.i 1)] I fun a I=>wp_ret ?_;obtain rfl:=aC h;refine al <| bq Tryz.results50 I rfl ?_;exact ⟨rfl,hm.aX [] []⟩
 refine wp_skip <| fo _ _ <| wp_seq_k fun K hk=>aZ <| gy (cs:=[]) wn (r5 Tryz.underlying22 Tryz.sizeOf3 rfl) I hm rfl rfl fun a adn w _ I hm=>aN 1 [] [(77,.q gN gO cu.1)] I fun a I=>?_;obtain ⟨afV,azW,h⟩:=J.aI h;have hm:=hm.freeze 1 0 rfl rfl;have hm:=hm.jC (sz:=1) 0 ([]:eI) rfl rfl rfl rfl;have hm:=hm.more (y:=ak.rows (ai .i64) [] []) rfl;refine n3 (T:=(ai .i64)) 0 0 1 hm rfl rfl rfl Tryz.underlying22 jb rfl rfl azW rfl wn rfl (I.g rfl) (I.g rfl) I rfl rfl fun a wl xt aLY w I hm=>?_
 refine aN 1 [] [(79,.q dZ en cu.2.1)] I fun a I=>?_;obtain ⟨cw,az0,h⟩:=J.aI h;have hm:=hm.freeze 1 4 rfl rfl;refine n3 (T:=(ai .i64)) 0 1 0 hm rfl rfl rfl Tryz.underlying22 jb rfl rfl az0 rfl wn rfl (I.g rfl) (I.g rfl) I rfl rfl fun a eQ fj fu w I hm=>aN 1 [] [(8,.q eQ fj cw)] I fun a I=>wpList_nil (hk _ _ ?_);refine wp_seq_k fun K fx=>bd [] [(9,.i 0)] I fun a I=>?_;obtain ⟨VA,h,SZ⟩:=J.ei h
 refine cd (fun a w=>Fr ⟨288,[]⟩ [(2,.aK bY),(3,.aK cx),(6,.q dZ en cu.2.1),(8,.q eQ fj cw)] a/\aw W M0 X w [ap.row 3 1 (.q eQ fj cw) cw fu,ap.bm cx 30 [.q aS aV aa.aG,.q bk bl aa.aE,.q bg bj aa.Fields,.q bz bA aa.Names,.q bD bE aa.aD],ap.bm bY 24 [.q ag ah h_.Words,.i h_.aq,.i h_.aA,.i h_.aP,.i h_.aM,.q aJ aQ h_.au,.i h_.Next]] [ak.rows (ai .i64) fu cw,U (ai .i64) dZ en cu.2.1,U (ai .i64) gN gO cu.1,U (ai .i64) ag ah h_.Words,U (ai .i64) aJ aQ h_.au,U J.bc aS aV aa.aG,U (ai .i64) bk bl aa.aE,U (aH J.aW) bg bj aa.Fields,U (aH bF) bz bA aa.Names,U (aH J.bV) bD bE aa.aD]/\VA=(.go ())) (fun K fW=>?_) ?_
 · refine cB (fun (bw:Nat) a w=>∃ (o4:Int),Fr ⟨288,[]⟩ [(2,.aK bY),(3,.aK cx),(6,.q dZ en cu.2.1),(8,.q eQ fj cw),(9,.i o4)] a/\aw W M0 X w [ap.row 3 1 (.q eQ fj cw) cw fu,ap.bm cx 30 [.q aS aV aa.aG,.q bk bl aa.aE,.q bg bj aa.Fields,.q bz bA aa.Names,.q bD bE aa.aD],ap.bm bY 24 [.q ag ah h_.Words,.i h_.aq,.i h_.aA,.i h_.aP,.i h_.aM,.q aJ aQ h_.au,.i h_.Next]] [ak.rows (ai .i64) fu cw,U (ai .i64) dZ en cu.2.1,U (ai .i64) gN gO cu.1,U (ai .i64) ag ah h_.Words,U (ai .i64) aJ aQ h_.au,U J.bc aS aV aa.aG,U (ai .i64) bk bl aa.aE,U (aH J.aW) bg bj aa.Fields,U (aH bF) bz bA aa.Names,U (aH J.bV) bD bE aa.aD]/\J.wG h_ cw bw o4=some VA) F ⟨0,I.cut,hm.eg [0,1,4,7,8,9,10,11,12,13],h⟩ ?_ ?_
   · rintro a w ⟨o4,I,hm,h⟩;exact absurd h (by simp [J.wG])
   rintro bw a w ⟨o4,I,hm,h⟩ K gv;rw [J.wG] at h;refine wp_seq_k fun K gQ=>bd [] [(84,.bool (decide (o4 <(cw.length:Int))))] I fun a I=>bn (I.g rfl) h (fun apT h=>?_) (fun apT h=>?_)
   · refine wp_skip <| gQ _ _ <| wp_seq_k fun K h6=>wp_block <| wp_seq_k fun K hA=>g1 (m:=14) 14 (a7 []) (by kernel_rfl) rfl fun w ad=>?_;have hm:=hm.dz ad;clear ad;have a8:=hm;have ar:=a7.refl [] w;refine b7 [0,1,2,3,9,10,11] 7 [0,0,0,6] [(88,.q ag ah h_.Words),(89,.q eQ fj cw),(90,.i o4),(98,.i (J.av (h_.Next - 1)))] [bY,6,bY,0] (fun a5 ad=>(ay (b6 ad (a1 (a8.e 2 rfl))) ax)) I ar fun a I=>?_;obtain ⟨vT,Vi,h⟩:=J.aI h;obtain ⟨RE,SR,_,rfl,Sl⟩:=gk (a8.e 0 rfl) (a8.d 0 rfl) Vi
     refine eM 4 rfl (by kernel_rfl) wn (fun a5=>bI Tryz.underlying22 Tryz.sizeOf3 rfl (I.g rfl) (I.g rfl) RE SR) ar I rfl rfl fun a I=>b7 [5,6] 2 [0,0] [(93,.i (J.av (vT+ 2)))] [bG eQ,bH eQ+(o4).toNat* 1] (fun a5 ad=>(ay (b6 ad Sl) ax)) I ar fun a I=>?_;obtain ⟨ij,AJ,h⟩:=J.aI h;obtain ⟨zX,As,_,rfl,Ai⟩:=b3 _ (a8.d 3 rfl) AJ;refine eM 7 rfl (by kernel_rfl) wn (fun a5=>bI Tryz.underlying22 Tryz.sizeOf3 rfl (I.g rfl) (I.g rfl) zX As) ar I rfl rfl fun a I=>?_
     refine b7 [8] 1 [0,0] [(95,.i ij)] [bG ag,bH ag+(J.av (vT+ 2)).toNat* 1] (fun a5 ad=>(ay (b6 ad Ai) ax)) I ar fun a I=>cy 12 rfl (by kernel_rfl) (fun _=>ar) ?_;obtain ⟨XM,sJ,h⟩:=J.aI h;have hc:=hm;refine bR (vs:=[.i ij,.i 1,.i (J.av (h_.Next - 1))]) wn rfl Tryz.call41 ⟨(I.g rfl),(c0 _ _),(I.g rfl),trivial⟩ (nB ((hc.into 0).pick trivial) sJ) I rfl rfl ?_;rintro _ w ⟨rfl,af⟩;refine ⟨_,rfl,fun a I=>?_⟩;have ad:a7 [] _ w:=af.ev;have hm:=hc.back 0 af;clear af hc;have ar:=eW ar ad;clear ad;refine cq ?_
     refine b7 [13] 1 [] [(100,.bool (!XM))] [] (fun a5 ad=>ax) I ar fun a I=>eU (by kernel_rfl) ?_ (fun _=>ar);clear a8 ar;refine hA _ _ <| bn (I.g rfl) h (fun apY h=>?_) (fun apY h=>?_)
     · refine bu [] [(4,.i 3)] I fun a I=>wp_ret ?_;obtain rfl:=aC h;obtain rfl:=aC SZ;refine a' (al (al (a' (al (al ?_)))));refine bq Tryz.results50 I rfl ?_;exact ⟨rfl,hm.aX [] []⟩
     refine wp_skip <| h6 _ _ <| D0 [] [(2,.aK bY),(3,.aK cx),(6,.q dZ en cu.2.1),(8,.q eQ fj cw),(9,.i (J.av (o4+ 1)))] I fun a I=>?_;exact gv _ _ ⟨J.av (o4+ 1),I.cut,hm,h⟩
   refine wp_exit <| bC (bC (cv ?_));exact fW _ _ ⟨I.cut,hm,(os h)⟩
 rintro a w ⟨I,hm,bb⟩;subst VA;have h:=SZ;clear SZ;dsimp only [J.ec] at h;refine fx _ _ <| wp_seq_k fun K hC=>bd [] [(10,.i 0)] I fun a I=>?_;obtain ⟨WW,h,Uw⟩:=J.ei h
 refine cd (fun a w=>Fr ⟨288,[]⟩ [(2,.aK bY),(3,.aK cx),(6,.q dZ en cu.2.1),(8,.q eQ fj cw)] a/\aw W M0 X w [ap.row 3 1 (.q eQ fj cw) cw fu,ap.bm cx 30 [.q aS aV aa.aG,.q bk bl aa.aE,.q bg bj aa.Fields,.q bz bA aa.Names,.q bD bE aa.aD],ap.bm bY 24 [.q ag ah h_.Words,.i h_.aq,.i h_.aA,.i h_.aP,.i h_.aM,.q aJ aQ h_.au,.i h_.Next]] [ak.rows (ai .i64) fu cw,U (ai .i64) dZ en cu.2.1,U (ai .i64) gN gO cu.1,U (ai .i64) ag ah h_.Words,U (ai .i64) aJ aQ h_.au,U J.bc aS aV aa.aG,U (ai .i64) bk bl aa.aE,U (aH J.aW) bg bj aa.Fields,U (aH bF) bz bA aa.Names,U (aH J.bV) bD bE aa.aD]/\WW=(.go ())) (fun K jy=>?_) ?_
 · refine cB (fun (c7:Nat) a w=>∃ (iP:Int),Fr ⟨288,[]⟩ [(2,.aK bY),(3,.aK cx),(6,.q dZ en cu.2.1),(8,.q eQ fj cw),(10,.i iP)] a/\aw W M0 X w [ap.row 3 1 (.q eQ fj cw) cw fu,ap.bm cx 30 [.q aS aV aa.aG,.q bk bl aa.aE,.q bg bj aa.Fields,.q bz bA aa.Names,.q bD bE aa.aD],ap.bm bY 24 [.q ag ah h_.Words,.i h_.aq,.i h_.aA,.i h_.aP,.i h_.aM,.q aJ aQ h_.au,.i h_.Next]] [ak.rows (ai .i64) fu cw,U (ai .i64) dZ en cu.2.1,U (ai .i64) gN gO cu.1,U (ai .i64) ag ah h_.Words,U (ai .i64) aJ aQ h_.au,U J.bc aS aV aa.aG,U (ai .i64) bk bl aa.aE,U (aH J.aW) bg bj aa.Fields,U (aH bF) bz bA aa.Names,U (aH J.bV) bD bE aa.aD]/\J.tt F h_ cw c7 iP=some WW) F ⟨0,I.cut,hm,h⟩ ?_ ?_
   · rintro a w ⟨iP,I,hm,h⟩;exact absurd h (by simp [J.tt])
   rintro c7 a w ⟨iP,I,hm,h⟩ K mI;rw [J.tt] at h;refine wp_seq_k fun K jN=>bd [] [(104,.bool (decide (iP <(cw.length:Int))))] I fun a I=>bn (I.g rfl) h (fun apK h=>?_) (fun apK h=>?_)
   · refine wp_skip <| jN _ _ <| wp_seq_k fun K kn=>?_;obtain ⟨afb,h,S6⟩:=J.e3 h
     refine cd (fun a w=>Fr ⟨288,[]⟩ [(2,.aK bY),(3,.aK cx),(6,.q dZ en cu.2.1),(8,.q eQ fj cw),(10,.i iP)] a/\aw W M0 X w [ap.row 3 1 (.q eQ fj cw) cw fu,ap.bm cx 30 [.q aS aV aa.aG,.q bk bl aa.aE,.q bg bj aa.Fields,.q bz bA aa.Names,.q bD bE aa.aD],ap.bm bY 24 [.q ag ah h_.Words,.i h_.aq,.i h_.aA,.i h_.aP,.i h_.aM,.q aJ aQ h_.au,.i h_.Next]] [ak.rows (ai .i64) fu cw,U (ai .i64) dZ en cu.2.1,U (ai .i64) gN gO cu.1,U (ai .i64) ag ah h_.Words,U (ai .i64) aJ aQ h_.au,U J.bc aS aV aa.aG,U (ai .i64) bk bl aa.aE,U (aH J.aW) bg bj aa.Fields,U (aH bF) bz bA aa.Names,U (aH J.bV) bD bE aa.aD]/\afb=(.go ())) (fun K ko=>?_) ?_
     · refine bd [] [(11,.i 0)] I fun a I=>?_;obtain ⟨VH,h,S9⟩:=J.e3 h
       refine cd (fun a w=>Fr ⟨288,[]⟩ [(2,.aK bY),(3,.aK cx),(6,.q dZ en cu.2.1),(8,.q eQ fj cw),(10,.i iP)] a/\aw W M0 X w [ap.row 3 1 (.q eQ fj cw) cw fu,ap.bm cx 30 [.q aS aV aa.aG,.q bk bl aa.aE,.q bg bj aa.Fields,.q bz bA aa.Names,.q bD bE aa.aD],ap.bm bY 24 [.q ag ah h_.Words,.i h_.aq,.i h_.aA,.i h_.aP,.i h_.aM,.q aJ aQ h_.au,.i h_.Next]] [ak.rows (ai .i64) fu cw,U (ai .i64) dZ en cu.2.1,U (ai .i64) gN gO cu.1,U (ai .i64) ag ah h_.Words,U (ai .i64) aJ aQ h_.au,U J.bc aS aV aa.aG,U (ai .i64) bk bl aa.aE,U (aH J.aW) bg bj aa.Fields,U (aH bF) bz bA aa.Names,U (aH J.bV) bD bE aa.aD]/\VH=(.go ())) (fun K oL=>?_) ?_
       · refine cB (fun (eB:Nat) a w=>∃ (nU:Int),Fr ⟨288,[]⟩ [(2,.aK bY),(3,.aK cx),(6,.q dZ en cu.2.1),(8,.q eQ fj cw),(10,.i iP),(11,.i nU)] a/\aw W M0 X w [ap.row 3 1 (.q eQ fj cw) cw fu,ap.bm cx 30 [.q aS aV aa.aG,.q bk bl aa.aE,.q bg bj aa.Fields,.q bz bA aa.Names,.q bD bE aa.aD],ap.bm bY 24 [.q ag ah h_.Words,.i h_.aq,.i h_.aA,.i h_.aP,.i h_.aM,.q aJ aQ h_.au,.i h_.Next]] [ak.rows (ai .i64) fu cw,U (ai .i64) dZ en cu.2.1,U (ai .i64) gN gO cu.1,U (ai .i64) ag ah h_.Words,U (ai .i64) aJ aQ h_.au,U J.bc aS aV aa.aG,U (ai .i64) bk bl aa.aE,U (aH J.aW) bg bj aa.Fields,U (aH bF) bz bA aa.Names,U (aH J.bV) bD bE aa.aD]/\J.wH h_ cw iP eB nU=some VH) F ⟨0,I.cut,hm,h⟩ ?_ ?_
         · rintro a w ⟨nU,I,hm,h⟩;exact absurd h (by simp [J.wH])
         rintro eB a w ⟨nU,I,hm,h⟩ K lW;rw [J.wH] at h;refine wp_seq_k fun K oM=>bd [] [(109,.bool (decide (nU <iP)))] I fun a I=>bn (I.g rfl) h (fun apV h=>?_) (fun apV h=>?_)
         · refine wp_skip <| oM _ _ <| wp_seq_k fun K mJ=>wp_block <| wp_seq_k fun K ra=>h5 (by kernel_rfl) (by kernel_rfl) <| dQ 4 [0,0] [(113,.q ag ah h_.Words),(114,.q eQ fj cw),(115,.i iP)] [bY,0] (fun a5 ad=>(ay (b6 ad (a1 (hm.e 2 rfl))) ax)) I fun a I=>?_;obtain ⟨Od,aC3,h⟩:=J.aI h;obtain ⟨al1,awT,_,rfl,asx⟩:=gk (hm.e 0 rfl) (hm.d 0 rfl) aC3;refine eK wn (fun a5 ad=>bI Tryz.underlying22 Tryz.sizeOf3 rfl (I.g rfl) (I.g rfl) al1 awT) I rfl rfl fun a I=>dQ 2 [0,0] [(118,.i (J.av (Od+ 2)))] [bG eQ,bH eQ+(iP).toNat* 1] (fun a5 ad=>(ay (b6 ad asx) ax)) I fun a I=>?_
           obtain ⟨Of,aC4,h⟩:=J.aI h;obtain ⟨al2,awU,_,rfl,asy⟩:=b3 _ (hm.d 3 rfl) aC4;refine eK wn (fun a5 ad=>bI Tryz.underlying22 Tryz.sizeOf3 rfl (I.g rfl) (I.g rfl) al2 awU) I rfl rfl fun a I=>Nc 5 [0,0,1,0] [(2,.aK bY),(3,.aK cx),(6,.q dZ en cu.2.1),(8,.q eQ fj cw),(10,.i iP),(11,.i nU),(120,.i Of),(122,.q ag ah h_.Words),(123,.q eQ fj cw),(124,.i nU)] [bY,0,bG ag,bH ag+(J.av (Od+ 2)).toNat* 1] (fun a5 ad=>(ay (b6 ad asy) (ay (b6 ad (a1 (hm.e 2 rfl))) ax))) I fun a I=>?_;obtain ⟨Og,aC5,h⟩:=J.aI h
           obtain ⟨al3,awV,_,rfl,asz⟩:=gk (hm.e 0 rfl) (hm.d 0 rfl) aC5;refine eK wn (fun a5 ad=>bI Tryz.underlying22 Tryz.sizeOf3 rfl (I.g rfl) (I.g rfl) al3 awV) I rfl rfl fun a I=>dQ 2 [0,0] [(127,.i (J.av (Og+ 2)))] [bG eQ,bH eQ+(nU).toNat* 1] (fun a5 ad=>(ay (b6 ad asz) ax)) I fun a I=>?_;obtain ⟨Y7,aC6,h⟩:=J.aI h;obtain ⟨al4,awW,_,rfl,asA⟩:=b3 _ (hm.d 3 rfl) aC6;refine eK wn (fun a5 ad=>bI Tryz.underlying22 Tryz.sizeOf3 rfl (I.g rfl) (I.g rfl) al4 awW) I rfl rfl fun a I=>?_
           refine dQ 2 [0,0] [(130,.bool (decide (Of=Y7)))] [bG ag,bH ag+(J.av (Og+ 2)).toNat* 1] (fun a5 ad=>(ay (b6 ad asA) ax)) I fun a I=>wpQuiet_nil fun w ad=>?_;have hm:=hm.dz ad;clear ad;refine ra _ _ <| bn (I.g rfl) h (fun apW h=>?_) (fun apW h=>?_)
           · refine bu [] [(4,.i 6)] I fun a I=>wp_ret ?_;obtain rfl:=aC h;obtain rfl:=aC S9;obtain rfl:=aC S6;obtain rfl:=aC Uw;refine a' (al (al (a' (al (a' (al (al (al (a' (al (al ?_)))))))))));refine bq Tryz.results50 I rfl ?_;exact ⟨rfl,hm.aX [] []⟩
           refine wp_skip <| mJ _ _ <| cg [] [(11,.i (J.av (nU+ 1)))] I fun a I=>?_;exact lW _ _ ⟨J.av (nU+ 1),I.cut,hm,h⟩
         refine wp_exit <| bC (bC (cv ?_));exact oL _ _ ⟨I.cut,hm,(os h)⟩
       rintro a w ⟨I,hm,bb⟩;subst VH;have h:=S9;clear S9;dsimp only [J.eV] at h;exact ko _ _ ⟨I.cut,hm,(os h)⟩
     rintro a w ⟨I,hm,bb⟩;subst afb;have h:=S6;clear S6;dsimp only [J.eV] at h;refine kn _ _ <| cg [] [(10,.i (J.av (iP+ 1)))] I fun a I=>?_;exact mI _ _ ⟨J.av (iP+ 1),I.cut,hm,h⟩
   refine wp_exit <| bC (bC (cv ?_));exact jy _ _ ⟨I.cut,hm,(os h)⟩
 rintro a w ⟨I,hm,bb⟩;subst WW;have h:=Uw;clear Uw;dsimp only [J.ec] at h;refine hC _ _ <| wp_seq_k fun K mK=>bd [] [(12,.i 0)] I fun a I=>?_;obtain ⟨V4,h,Tw⟩:=J.ei h
 refine cd (fun a w=>Fr ⟨288,[]⟩ [(2,.aK bY),(3,.aK cx),(6,.q dZ en cu.2.1)] a/\aw W M0 X w [ap.row 3 1 (.q eQ fj cw) cw fu,ap.bm cx 30 [.q aS aV aa.aG,.q bk bl aa.aE,.q bg bj aa.Fields,.q bz bA aa.Names,.q bD bE aa.aD],ap.bm bY 24 [.q ag ah h_.Words,.i h_.aq,.i h_.aA,.i h_.aP,.i h_.aM,.q aJ aQ h_.au,.i h_.Next]] [ak.rows (ai .i64) fu cw,U (ai .i64) dZ en cu.2.1,U (ai .i64) gN gO cu.1,U (ai .i64) ag ah h_.Words,U (ai .i64) aJ aQ h_.au,U J.bc aS aV aa.aG,U (ai .i64) bk bl aa.aE,U (aH J.aW) bg bj aa.Fields,U (aH bF) bz bA aa.Names,U (aH J.bV) bD bE aa.aD]/\V4=(.go ())) (fun K rb=>?_) ?_
 · refine cB (fun (fB:Nat) a w=>∃ (lz:Int),Fr ⟨288,[]⟩ [(2,.aK bY),(3,.aK cx),(6,.q dZ en cu.2.1),(8,.q eQ fj cw),(12,.i lz)] a/\aw W M0 X w [ap.row 3 1 (.q eQ fj cw) cw fu,ap.bm cx 30 [.q aS aV aa.aG,.q bk bl aa.aE,.q bg bj aa.Fields,.q bz bA aa.Names,.q bD bE aa.aD],ap.bm bY 24 [.q ag ah h_.Words,.i h_.aq,.i h_.aA,.i h_.aP,.i h_.aM,.q aJ aQ h_.au,.i h_.Next]] [ak.rows (ai .i64) fu cw,U (ai .i64) dZ en cu.2.1,U (ai .i64) gN gO cu.1,U (ai .i64) ag ah h_.Words,U (ai .i64) aJ aQ h_.au,U J.bc aS aV aa.aG,U (ai .i64) bk bl aa.aE,U (aH J.aW) bg bj aa.Fields,U (aH bF) bz bA aa.Names,U (aH J.bV) bD bE aa.aD]/\J.wI F h_ aa cw fB lz=some V4) F ⟨0,I.cut,hm,h⟩ ?_ ?_
   · rintro a w ⟨lz,I,hm,h⟩;exact absurd h (by simp [J.wI])
   rintro fB a w ⟨lz,I,hm,h⟩ K oN;rw [J.wI] at h;refine wp_seq_k fun K oO=>bd [] [(134,.bool (decide (lz <(cw.length:Int))))] I fun a I=>bn (I.g rfl) h (fun aqN h=>?_) (fun aqN h=>?_)
   · refine wp_skip <| oO _ _ <| wp_seq_k fun K sC=>?_;obtain ⟨afs,h,TF⟩:=J.e3 h
     refine cd (fun a w=>Fr ⟨288,[]⟩ [(2,.aK bY),(3,.aK cx),(6,.q dZ en cu.2.1),(8,.q eQ fj cw),(12,.i lz)] a/\aw W M0 X w [ap.row 3 1 (.q eQ fj cw) cw fu,ap.bm cx 30 [.q aS aV aa.aG,.q bk bl aa.aE,.q bg bj aa.Fields,.q bz bA aa.Names,.q bD bE aa.aD],ap.bm bY 24 [.q ag ah h_.Words,.i h_.aq,.i h_.aA,.i h_.aP,.i h_.aM,.q aJ aQ h_.au,.i h_.Next]] [ak.rows (ai .i64) fu cw,U (ai .i64) dZ en cu.2.1,U (ai .i64) gN gO cu.1,U (ai .i64) ag ah h_.Words,U (ai .i64) aJ aQ h_.au,U J.bc aS aV aa.aG,U (ai .i64) bk bl aa.aE,U (aH J.aW) bg bj aa.Fields,U (aH bF) bz bA aa.Names,U (aH J.bV) bD bE aa.aD]/\afs=(.go ())) (fun K ug=>?_) ?_
     · refine wp_seq_k fun K uh=>g1 (m:=8) 8 (a7 []) (by kernel_rfl) rfl fun w ad=>?_;have hm:=hm.dz ad;clear ad;have a8:=hm;have ar:=a7.refl [] w
       refine b7 [0,1,2,3] 4 [0,0,1,0] [(137,.agg #[.q ag ah h_.Words,.i h_.aq,.i h_.aA,.i h_.aP,.i h_.aM,.q aJ aQ h_.au,.i h_.Next]),(138,.agg #[.q aS aV aa.aG,.q bk bl aa.aE,.q bg bj aa.Fields,.q bz bA aa.Names,.q bD bE aa.aD]),(139,.q eQ fj cw),(140,.i lz)] [cx,0,bY,0] (fun a5 ad=>(ay (b6 ad (a1 (a8.e 2 rfl))) (ay (b6 ad (a1 (a8.e 1 rfl))) ax))) I ar fun a I=>?_;obtain ⟨Oo,aDP,h⟩:=J.aI h;obtain ⟨amS,axK,_,rfl,ato⟩:=gk (a8.e 0 rfl) (a8.d 0 rfl) aDP
       refine eM 4 rfl (by kernel_rfl) wn (fun a5=>bI Tryz.underlying22 Tryz.sizeOf3 rfl (I.g rfl) (I.g rfl) amS axK) ar I rfl rfl fun a I=>b7 [5] 1 [0,0] [(142,.i Oo)] [bG eQ,bH eQ+(lz).toNat* 1] (fun a5 ad=>(ay (b6 ad ato) ax)) I ar fun a I=>cy 6 rfl (by kernel_rfl) (fun _=>ar) ?_;obtain ⟨j5,aBs,h⟩:=J.aI h;have hc:=hm
       refine bR (vs:=[.agg #[.q ag ah h_.Words,.i h_.aq,.i h_.aA,.i h_.aP,.i h_.aM,.q aJ aQ h_.au,.i h_.Next],.agg #[.q aS aV aa.aG,.q bk bl aa.aE,.q bg bj aa.Fields,.q bz bA aa.Names,.q bD bE aa.aD],.i Oo]) wn rfl Tryz.call43 ⟨(I.g rfl),(I.g rfl),(I.g rfl),trivial⟩ (Lm ((hc.into 0).pick ⟨⟨3,rfl⟩,⟨4,rfl⟩,⟨5,rfl⟩,⟨6,rfl⟩,⟨7,rfl⟩,⟨8,rfl⟩,⟨9,rfl⟩,trivial⟩) aBs) I rfl rfl ?_;rintro _ w ⟨r',Cy,Po,rfl,af⟩;refine ⟨_,rfl,fun a I=>?_⟩;have ad:a7 [] _ w:=af.ev;have hm:=hc.back 0 af;clear af hc;have ar:=eW ar ad;clear ad
       refine cq <| a0 [7] 1 [] [(2,.aK bY),(3,.aK cx),(6,.q dZ en cu.2.1),(8,.q eQ fj cw),(12,.i lz),(13,.q r' Cy j5)] [] (fun a5 ad=>ax) I ar fun a I=>eU (by kernel_rfl) ?_ (fun _=>ar);clear a8 ar;refine uh _ _ <| bd [] [(14,.i 0)] I fun a I=>?_;obtain ⟨Wi,h,TJ⟩:=J.e3 h
       refine cd (fun a w=>Fr ⟨288,[]⟩ [(2,.aK bY),(3,.aK cx),(6,.q dZ en cu.2.1),(8,.q eQ fj cw),(12,.i lz)] a/\aw W M0 X w [ap.row 3 1 (.q r' Cy j5) j5 Po,ap.row 3 1 (.q eQ fj cw) cw fu,ap.bm cx 30 [.q aS aV aa.aG,.q bk bl aa.aE,.q bg bj aa.Fields,.q bz bA aa.Names,.q bD bE aa.aD],ap.bm bY 24 [.q ag ah h_.Words,.i h_.aq,.i h_.aA,.i h_.aP,.i h_.aM,.q aJ aQ h_.au,.i h_.Next]] [ak.rows (ai .i64) Po j5,ak.rows (ai .i64) fu cw,U (ai .i64) dZ en cu.2.1,U (ai .i64) gN gO cu.1,U (ai .i64) ag ah h_.Words,U (ai .i64) aJ aQ h_.au,U J.bc aS aV aa.aG,U (ai .i64) bk bl aa.aE,U (aH J.aW) bg bj aa.Fields,U (aH bF) bz bA aa.Names,U (aH J.bV) bD bE aa.aD]/\Wi=(.go ())) (fun K ui=>?_) ?_
       · refine cB (fun (h8:Nat) a w=>∃ (kB:Int),Fr ⟨288,[]⟩ [(2,.aK bY),(3,.aK cx),(6,.q dZ en cu.2.1),(8,.q eQ fj cw),(12,.i lz),(13,.q r' Cy j5),(14,.i kB)] a/\aw W M0 X w [ap.row 3 1 (.q r' Cy j5) j5 Po,ap.row 3 1 (.q eQ fj cw) cw fu,ap.bm cx 30 [.q aS aV aa.aG,.q bk bl aa.aE,.q bg bj aa.Fields,.q bz bA aa.Names,.q bD bE aa.aD],ap.bm bY 24 [.q ag ah h_.Words,.i h_.aq,.i h_.aA,.i h_.aP,.i h_.aM,.q aJ aQ h_.au,.i h_.Next]] [ak.rows (ai .i64) Po j5,ak.rows (ai .i64) fu cw,U (ai .i64) dZ en cu.2.1,U (ai .i64) gN gO cu.1,U (ai .i64) ag ah h_.Words,U (ai .i64) aJ aQ h_.au,U J.bc aS aV aa.aG,U (ai .i64) bk bl aa.aE,U (aH J.aW) bg bj aa.Fields,U (aH bF) bz bA aa.Names,U (aH J.bV) bD bE aa.aD]/\J.tu F h_ cw j5 h8 kB=some Wi) F ⟨0,I.cut,hm,h⟩ ?_ ?_
         · rintro a w ⟨kB,I,hm,h⟩;exact absurd h (by simp [J.tu])
         rintro h8 a w ⟨kB,I,hm,h⟩ K xR;rw [J.tu] at h;refine wp_seq_k fun K uj=>bd [] [(147,.bool (decide (kB <(j5.length:Int))))] I fun a I=>bn (I.g rfl) h (fun aqS h=>?_) (fun aqS h=>?_)
         · refine wp_skip <| uj _ _ <| wp_seq_k fun K CV=>wp_block <| wp_seq_k fun K xS=>g1 (m:=22) 22 (a7 []) (by kernel_rfl) rfl fun w ad=>?_;have hm:=hm.dz ad;clear ad;have a8:=hm;have ar:=a7.refl [] w;refine b7 [0,1,2,3] 4 [0,0] [(151,.q ag ah h_.Words),(152,.q r' Cy j5),(153,.i kB)] [bY,0] (fun a5 ad=>(ay (b6 ad (a1 (a8.e 3 rfl))) ax)) I ar fun a I=>?_;obtain ⟨Ov,aDT,h⟩:=J.aI h;obtain ⟨amV,axN,_,rfl,atr⟩:=gk (a8.e 0 rfl) (a8.d 0 rfl) aDT
           refine eM 4 rfl (by kernel_rfl) wn (fun a5=>bI Tryz.underlying22 Tryz.sizeOf3 rfl (I.g rfl) (I.g rfl) amV axN) ar I rfl rfl fun a I=>b7 [5] 1 [0,0] [(155,.i Ov)] [bG r',bH r'+(kB).toNat* 1] (fun a5 ad=>(ay (b6 ad atr) ax)) I ar fun a I=>?_;obtain ⟨Ow,aDU,h⟩:=J.aI h;obtain ⟨amW,axO,_,rfl,ats⟩:=b3 _ (a8.d 4 rfl) aDU;refine eM 6 rfl (by kernel_rfl) wn (fun a5=>bI Tryz.underlying22 Tryz.sizeOf3 rfl (I.g rfl) (I.g rfl) amW axO) ar I rfl rfl fun a I=>?_
           refine b7 [7,8,9] 3 [0,0] [(159,.bool (!decide (Ow= 0)))] [bG ag,bH ag+(Ov).toNat* 1] (fun a5 ad=>(ay (b6 ad ats) ax)) I ar fun a I=>?_;rcases Bool.eq_false_or_eq_true (!decide (Ow= 0)) with G6 | G6
           · have h:=J.c5 G6 h;have I:=I.b1 159 rfl G6;refine b7 [10,11,12,13,14] 5 [1,1,1,0,0,1,1] [(160,.q eQ fj cw),(162,.q ag ah h_.Words),(163,.q r' Cy j5),(164,.i kB)] [bY,0] (fun a5 ad=>(ay (b6 ad (a1 (a8.e 3 rfl))) ax)) I ar fun a I=>?_;obtain ⟨Oy,aDW,h⟩:=J.aI h;obtain ⟨amY,axQ,_,rfl,atu⟩:=gk (a8.e 0 rfl) (a8.d 0 rfl) aDW;refine eM 15 rfl (by kernel_rfl) (cS I rfl rfl rfl rfl) (fun a5=>bI Tryz.underlying22 Tryz.sizeOf3 rfl (I.g rfl) (I.g rfl) amY axQ) ar I rfl rfl fun a I=>?_
             refine b7 [16] 1 [1,0,0] [(166,.i Oy)] [bG r',bH r'+(kB).toNat* 1] (fun a5 ad=>(ay (b6 ad atu) ax)) I ar fun a I=>?_;obtain ⟨OA,aDY,h⟩:=J.aI h;obtain ⟨am0,axS,_,rfl,atw⟩:=b3 _ (a8.d 4 rfl) aDY;refine eM 17 rfl (by kernel_rfl) (cS I rfl rfl rfl rfl) (fun a5=>bI Tryz.underlying22 Tryz.sizeOf3 rfl (I.g rfl) (I.g rfl) am0 axS) ar I rfl rfl fun a I=>b7 [18] 1 [1,0,0] [(168,.i OA)] [bG ag,bH ag+(Oy).toNat* 1] (fun a5 ad=>(ay (b6 ad atw) ax)) I ar fun a I=>cy 19 rfl (by kernel_rfl) (fun _=>ar) ?_
             obtain ⟨X8,aBt,h⟩:=J.aI h;have hc:=hm;have az:=hc.freeze 1 1 rfl rfl;refine bR (vs:=[.q eQ fj cw,.i OA]) (cS I rfl rfl rfl rfl) rfl Tryz.call42 ⟨(I.g rfl),(I.g rfl),trivial⟩ (zP ((az.into 0).pick ⟨⟨0,rfl⟩,trivial⟩) aBt) I rfl rfl ?_;rintro _ w ⟨rfl,af⟩;refine ⟨_,rfl,fun a I=>?_⟩;have ad:a7 [] _ w:=af.ev;have hm:=hc.fS 0 (by exact trivial) af;clear af hc az;have ar:=eW ar ad;clear ad;refine cq <| b7 [20,21] 2 [1,1] [(171,.bool (!X8))] [] (fun a5 ad=>ax) I ar fun a I=>?_
             refine eU (by kernel_rfl) ?_ (fun _=>ar);clear a8 ar;refine xS _ _ <| bn (I.g rfl) h (fun aqT h=>?_) (fun aqT h=>?_)
             · refine bu [] [(4,.i 5)] I fun a I=>wp_ret ?_;obtain rfl:=aC h;obtain rfl:=aC TJ;obtain rfl:=aC TF;obtain rfl:=aC Tw;refine a' (al (al (a' (al (a' (al (al (al (a' (al (al ?_)))))))))));refine bq Tryz.results50 I rfl ?_;exact ⟨rfl,hm.aX [] []⟩
             refine wp_skip <| CV _ _ <| cg [] [(14,.i (J.av (kB+ 1)))] I fun a I=>?_;exact xR _ _ ⟨J.av (kB+ 1),I.cut,hm,h⟩
           have h:=J.c4 G6 h;have I:=I.b1 159 rfl G6;refine b7 [10,11,12,13,14,15,16,17,18] 9 [1,1,1,1,1,1,1,1,1] [(160,undef),(168,undef)] [] (fun a5 ad=>ax) I ar fun a I=>cy 19 rfl (by kernel_rfl) (fun _=>ar) <| aN 1 [1] [(169,undef)] I fun a I=>cq <| b7 [20,21] 2 [1,1] [(171,.bool false)] [] (fun a5 ad=>ax) I ar fun a I=>eU (by kernel_rfl) ?_ (fun _=>ar);clear a8 ar;refine xS _ _ <| g2 (I.g rfl) rfl <| wp_skip <| CV _ _ <| cg [] [(14,.i (J.av (kB+ 1)))] I fun a I=>?_
           exact xR _ _ ⟨J.av (kB+ 1),I.cut,hm,h⟩
         refine wp_exit <| bC (bC (cv ?_));exact ui _ _ ⟨I.cut,hm,(os h)⟩
       rintro a w ⟨I,hm,bb⟩;subst Wi;have h:=TJ;clear TJ;dsimp only [J.eV] at h;exact ug _ _ ⟨I.cut,hm.aX [1,2,3] [1,2,3,4,5,6,7,8,9,10],(os h)⟩
     rintro a w ⟨I,hm,bb⟩;subst afs;have h:=TF;clear TF;dsimp only [J.eV] at h;refine sC _ _ <| cg [] [(12,.i (J.av (lz+ 1)))] I fun a I=>?_;exact oN _ _ ⟨J.av (lz+ 1),I.cut,hm,h⟩
   refine wp_exit <| bC (bC (cv ?_));exact rb _ _ ⟨I.cut,hm,(os h)⟩
 rintro a w ⟨I,hm,bb⟩;subst V4;have h:=Tw;clear Tw;dsimp only [J.ec] at h;refine mK _ _ <| wp_seq_k fun K uk=>bd [] [(15,.i 0)] I fun a I=>?_;obtain ⟨Wj,h,L9⟩:=J.ei h
 refine cd (fun a w=>Fr ⟨288,[]⟩ [(2,.aK bY),(3,.aK cx),(6,.q dZ en cu.2.1)] a/\aw W M0 X w [ap.row 3 1 (.q eQ fj cw) cw fu,ap.bm cx 30 [.q aS aV aa.aG,.q bk bl aa.aE,.q bg bj aa.Fields,.q bz bA aa.Names,.q bD bE aa.aD],ap.bm bY 24 [.q ag ah h_.Words,.i h_.aq,.i h_.aA,.i h_.aP,.i h_.aM,.q aJ aQ h_.au,.i h_.Next]] [ak.rows (ai .i64) fu cw,U (ai .i64) dZ en cu.2.1,U (ai .i64) gN gO cu.1,U (ai .i64) ag ah h_.Words,U (ai .i64) aJ aQ h_.au,U J.bc aS aV aa.aG,U (ai .i64) bk bl aa.aE,U (aH J.aW) bg bj aa.Fields,U (aH bF) bz bA aa.Names,U (aH J.bV) bD bE aa.aD]/\Wj=(.go ())) (fun K z2=>?_) ?_
 · refine cB (fun (jS:Nat) a w=>∃ (hX:Int),Fr ⟨288,[]⟩ [(2,.aK bY),(3,.aK cx),(6,.q dZ en cu.2.1),(15,.i hX)] a/\aw W M0 X w [ap.row 3 1 (.q eQ fj cw) cw fu,ap.bm cx 30 [.q aS aV aa.aG,.q bk bl aa.aE,.q bg bj aa.Fields,.q bz bA aa.Names,.q bD bE aa.aD],ap.bm bY 24 [.q ag ah h_.Words,.i h_.aq,.i h_.aA,.i h_.aP,.i h_.aM,.q aJ aQ h_.au,.i h_.Next]] [ak.rows (ai .i64) fu cw,U (ai .i64) dZ en cu.2.1,U (ai .i64) gN gO cu.1,U (ai .i64) ag ah h_.Words,U (ai .i64) aJ aQ h_.au,U J.bc aS aV aa.aG,U (ai .i64) bk bl aa.aE,U (aH J.aW) bg bj aa.Fields,U (aH bF) bz bA aa.Names,U (aH J.bV) bD bE aa.aD]/\J.sg h_ jS hX=some Wj) F ⟨0,I.cut,hm,h⟩ ?_ ?_
   · rintro a w ⟨hX,I,hm,h⟩;exact absurd h (by simp [J.sg])
   rintro jS a w ⟨hX,I,hm,h⟩ K xT;rw [J.sg] at h;refine wp_seq_k fun K Gw=>wp_seq_k fun K Gx=>eH [0,0] [(176,.bool (decide (hX <(h_.Words.length:Int))))] [bY,0] (ay (a1 (hm.e 2 rfl)) ax) I fun a I=>Gx _ _ <| bn (I.g rfl) h (fun aqV h=>?_) (fun aqV h=>?_)
   · refine wp_skip <| Gw _ _ <| wp_seq_k fun K CW=>wp_block <| wp_seq_k fun K z5=>aZ <| bf 3 [0,0] [(180,.q ag ah h_.Words),(181,.i hX)] [bY,0] (ay (a1 (hm.e 2 rfl)) ax) I fun a I=>?_;obtain ⟨OB,aD0,h⟩:=J.aI h;obtain ⟨am3,axU,_,rfl,aty⟩:=b3 _ (hm.d 3 rfl) aD0;refine bU wn (bI Tryz.underlying22 Tryz.sizeOf3 rfl (I.g rfl) (I.g rfl) am3 axU) I rfl rfl fun a I=>bf 3 [0,0] [(185,.bool (!decide (OB= 0)))] [bG ag,bH ag+(hX).toNat* 1] (ay aty ax) I fun a I=>?_;rcases Bool.eq_false_or_eq_true (!decide (OB= 0)) with G7 | G7
     · have h:=J.c5 G7 h;have I:=I.b1 185 rfl G7;refine aN 3 [1,1,1] [(188,.bool (decide (hX= 0)))] I fun a I=>?_;rcases Bool.eq_false_or_eq_true (decide (hX= 0)) with G8 | G8
       · have h:=J.c5 G8 h;have I:=I.b1 188 rfl G8;refine ek 14 [1,1,1,1,1,1,1,1,1,1,1,1,1,1,1,1] [(2,.aK bY),(3,.aK cx),(6,.q dZ en cu.2.1),(15,.i hX),(202,.bool true)] I fun a I=>wpList_nil (z5 _ _ ?_);refine eJ (I.g rfl) rfl <| bu [] [(4,.i 1)] I fun a I=>wp_ret ?_;obtain rfl:=aC h;obtain rfl:=aC L9;refine a' (al (al (a' (al (al ?_)))));refine bq Tryz.results50 I rfl ?_;exact ⟨rfl,hm.aX [] []⟩
       have h:=J.c4 G8 h;have I:=I.b1 188 rfl G8;refine kH 5 [1,1,1,0,3,1,1,0,1] [(2,.aK bY),(3,.aK cx),(6,.q dZ en cu.2.1),(15,.i hX),(185,.bool true),(188,.bool false),(189,.i hX),(191,.i h_.aP),(193,.i h_.aq)] [bY,1,bY,3] (ay (a1 (hm.e 2 rfl)) ax) I fun a I=>?_;obtain ⟨X9,aBv,h⟩:=J.aI h;have hc:=hm;refine bR (vs:=[.i hX,.i h_.aP,.i h_.aq]) (cS I rfl rfl rfl rfl) rfl Tryz.call41 ⟨(I.g rfl),(I.g rfl),(I.g rfl),trivial⟩ (nB ((hc.into 0).pick trivial) aBv) I rfl rfl ?_;rintro _ w ⟨rfl,af⟩;refine ⟨_,rfl,fun a I=>?_⟩;have ad:a7 [] _ w:=af.ev;have hm:=hc.back 0 af
       clear af hc;clear ad;refine bf 8 [1,1,1,0,0,0,0,4,0,1,0,1] [(202,.bool (X9 || (decide (h_.aM<=hX))))] [bY,4] (ay (a1 (hm.e 2 rfl)) ax) I fun a I=>wpList_nil (z5 _ _ ?_);refine bn (I.g rfl) h (fun aqW h=>?_) (fun aqW h=>?_)
       · refine bu [] [(4,.i 1)] I fun a I=>wp_ret ?_;obtain rfl:=aC h;obtain rfl:=aC L9;refine a' (al (al (a' (al (al ?_)))));refine bq Tryz.results50 I rfl ?_;exact ⟨rfl,hm.aX [] []⟩
       refine wp_skip <| CW _ _ <| cg [] [(15,.i (J.av (hX+ 1)))] I fun a I=>?_;exact xT _ _ ⟨J.av (hX+ 1),I.cut,hm,h⟩
     have h:=J.c4 G7 h;have I:=I.b1 185 rfl G7;refine aN 17 [1,1,1,1,1,1,1,1,1,1,1,1,1,1,1,1,1] [(202,.bool false)] I fun a I=>wpList_nil (z5 _ _ ?_);refine g2 (I.g rfl) rfl <| wp_skip <| CW _ _ <| D0 [] [(2,.aK bY),(3,.aK cx),(6,.q dZ en cu.2.1),(15,.i (J.av (hX+ 1)))] I fun a I=>?_;exact xT _ _ ⟨J.av (hX+ 1),I.cut,hm,h⟩
   refine wp_exit <| bC (bC (cv ?_));exact z2 _ _ ⟨I.cut,hm,(os h)⟩
 rintro a w ⟨I,hm,bb⟩;subst Wj;have h:=L9;clear L9;dsimp only [J.ec] at h;refine uk _ _ <| wp_seq_k fun K RL=>bd [] [(16,.i 0)] I fun a I=>?_;obtain ⟨Wk,h,Au⟩:=J.ei h
 refine cd (fun a w=>Fr ⟨288,[]⟩ [(2,.aK bY),(3,.aK cx),(6,.q dZ en cu.2.1)] a/\aw W M0 X w [ap.row 3 1 (.q eQ fj cw) cw fu,ap.bm cx 30 [.q aS aV aa.aG,.q bk bl aa.aE,.q bg bj aa.Fields,.q bz bA aa.Names,.q bD bE aa.aD],ap.bm bY 24 [.q ag ah h_.Words,.i h_.aq,.i h_.aA,.i h_.aP,.i h_.aM,.q aJ aQ h_.au,.i h_.Next]] [ak.rows (ai .i64) fu cw,U (ai .i64) dZ en cu.2.1,U (ai .i64) gN gO cu.1,U (ai .i64) ag ah h_.Words,U (ai .i64) aJ aQ h_.au,U J.bc aS aV aa.aG,U (ai .i64) bk bl aa.aE,U (aH J.aW) bg bj aa.Fields,U (aH bF) bz bA aa.Names,U (aH J.bV) bD bE aa.aD]/\Wk=(.go ())) (fun K RM=>?_) ?_
 · refine cB (fun (sL:Nat) a w=>∃ (fX:Int),Fr ⟨288,[]⟩ [(2,.aK bY),(3,.aK cx),(6,.q dZ en cu.2.1),(16,.i fX)] a/\aw W M0 X w [ap.row 3 1 (.q eQ fj cw) cw fu,ap.bm cx 30 [.q aS aV aa.aG,.q bk bl aa.aE,.q bg bj aa.Fields,.q bz bA aa.Names,.q bD bE aa.aD],ap.bm bY 24 [.q ag ah h_.Words,.i h_.aq,.i h_.aA,.i h_.aP,.i h_.aM,.q aJ aQ h_.au,.i h_.Next]] [ak.rows (ai .i64) fu cw,U (ai .i64) dZ en cu.2.1,U (ai .i64) gN gO cu.1,U (ai .i64) ag ah h_.Words,U (ai .i64) aJ aQ h_.au,U J.bc aS aV aa.aG,U (ai .i64) bk bl aa.aE,U (aH J.aW) bg bj aa.Fields,U (aH bF) bz bA aa.Names,U (aH J.bV) bD bE aa.aD]/\J.sh F h_ aa cu sL fX=some Wk) F ⟨0,I.cut,hm,h⟩ ?_ ?_
   · rintro a w ⟨fX,I,hm,h⟩;exact absurd h (by simp [J.sh])
   rintro sL a w ⟨fX,I,hm,h⟩ K LS;rw [J.sh] at h;refine wp_seq_k fun K RN=>wp_seq_k fun K RO=>eH [0,5] [(207,.bool (decide (fX <(h_.au.length:Int))))] [bY,5] (ay (a1 (hm.e 2 rfl)) ax) I fun a I=>RO _ _ <| bn (I.g rfl) h (fun aq2 h=>?_) (fun aq2 h=>?_)
   · refine wp_skip <| RN _ _ <| wp_seq_k fun K LU=>wp_block <| wp_seq_k fun K z6=>g1 (m:=38) 38 (a7 []) (by kernel_rfl) rfl fun w ad=>?_;have hm:=hm.dz ad;clear ad;have a8:=hm;have ar:=a7.refl [] w;refine b7 [0,1,2] 3 [] [(212,.bool (decide (0 <fX)))] [] (fun a5 ad=>ax) I ar fun a I=>?_;rcases Bool.eq_false_or_eq_true (decide (0 <fX)) with G_ | G_
     · have h:=J.c5 G_ h;have I:=I.b1 212 rfl G_;refine a0 [3,4,5,8,9,10,11] 7 [1,1,0,5,1,1,1,0,5,1,1] [(2,.aK bY),(3,.aK cx),(6,.q dZ en cu.2.1),(16,.i fX),(212,.bool true),(214,.q aJ aQ h_.au),(215,.i fX),(219,.q aJ aQ h_.au),(221,.i (J.av (fX - 1)))] [bY,5,bY,5] (fun a5 ad=>(ay (b6 ad (a1 (a8.e 2 rfl))) ax)) I ar fun a I=>?_;obtain ⟨Jq,aD3,h⟩:=J.aI h;obtain ⟨am7,axY,_,rfl,atC⟩:=b3 _ (a8.d 4 rfl) aD3
       refine eM 6 rfl (by kernel_rfl) (cS I rfl rfl rfl rfl) (fun a5=>bI Tryz.underlying22 Tryz.sizeOf3 rfl (I.g rfl) (I.g rfl) am7 axY) ar I rfl rfl fun a I=>b7 [7] 1 [1,0,0] [(217,.i Jq)] [bG aJ,bH aJ+(fX).toNat* 1] (fun a5 ad=>(ay (b6 ad atC) ax)) I ar fun a I=>?_;obtain ⟨OD,aD4,h⟩:=J.aI h;obtain ⟨am8,axZ,_,rfl,atD⟩:=b3 _ (a8.d 4 rfl) aD4;refine eM 12 rfl (by kernel_rfl) (cS I rfl rfl rfl rfl) (fun a5=>bI Tryz.underlying22 Tryz.sizeOf3 rfl (I.g rfl) (I.g rfl) am8 axZ) ar I rfl rfl fun a I=>?_
       refine b7 [13,14,15,16] 4 [1,0,0,1,1] [(226,.bool (decide (Jq<=OD)))] [bG aJ,bH aJ+(J.av (fX - 1)).toNat* 1] (fun a5 ad=>(ay (b6 ad atD) ax)) I ar fun a I=>?_;rcases Bool.eq_false_or_eq_true (decide (Jq<=OD)) with G' | G'
       · have h:=J.c5 G' h;have I:=I.b1 226 rfl G';refine b7 [17,18,19,20,21,22] 6 [1,1,1,1,1,1] [(227,undef),(232,undef)] [] (fun a5 ad=>ax) I ar fun a I=>cy 23 rfl (by kernel_rfl) (fun _=>ar) <| aN 1 [1] [(233,undef)] I fun a I=>cq <| b7 [24,25,26,27,28,29,30,31,32,33] 10 [1,1,1,1,1,1,1,1,1] [(236,.bool true),(237,undef),(238,undef),(243,undef)] [] (fun a5 ad=>ax) I ar fun a I=>cy 34 rfl (by kernel_rfl) (fun _=>ar) <| aN 1 [1] [(244,undef)] I fun a I=>cq ?_
         refine b7 [35,36,37] 3 [1,1,1] [(247,.bool true)] [] (fun a5 ad=>ax) I ar fun a I=>eU (by kernel_rfl) ?_ (fun _=>ar);clear a8 ar;refine z6 _ _ <| eJ (I.g rfl) rfl <| bu [] [(4,.i 4)] I fun a I=>wp_ret ?_;obtain rfl:=aC h;obtain rfl:=aC Au;refine a' (al (al (a' (al (al ?_)))));refine bq Tryz.results50 I rfl ?_;exact ⟨rfl,hm.aX [] []⟩
       have h:=J.c4 G' h;have I:=I.b1 226 rfl G';refine b7 [17,18,19,20] 4 [1,1,1,0,5,1] [(227,.q dZ en cu.2.1),(229,.q aJ aQ h_.au),(230,.i fX)] [bY,5] (fun a5 ad=>(ay (b6 ad (a1 (a8.e 2 rfl))) ax)) I ar fun a I=>?_;obtain ⟨OE,aD5,h⟩:=J.aI h;obtain ⟨am9,ax0,_,rfl,atE⟩:=b3 _ (a8.d 4 rfl) aD5;refine eM 21 rfl (by kernel_rfl) (cS I rfl rfl rfl rfl) (fun a5=>bI Tryz.underlying22 Tryz.sizeOf3 rfl (I.g rfl) (I.g rfl) am9 ax0) ar I rfl rfl fun a I=>?_
       refine b7 [22] 1 [1,0,0] [(232,.i OE)] [bG aJ,bH aJ+(fX).toNat* 1] (fun a5 ad=>(ay (b6 ad atE) ax)) I ar fun a I=>cy 23 rfl (by kernel_rfl) (fun _=>ar) ?_;obtain ⟨DW,aBx,h⟩:=J.aI h;have hc:=hm;refine bR (vs:=[.q dZ en cu.2.1,.i OE]) (cS I rfl rfl rfl rfl) rfl Tryz.call42 ⟨(I.g rfl),(I.g rfl),trivial⟩ (zP ((hc.into 0).pick ⟨⟨1,rfl⟩,trivial⟩) aBx) I rfl rfl ?_;rintro _ w ⟨rfl,af⟩;refine ⟨_,rfl,fun a I=>?_⟩;have ad:a7 [] _ w:=af.ev;have hm:=hc.back 0 af;clear af hc;have ar:=eW ar ad;clear ad;refine cq ?_
       refine b7 [24,25,26] 3 [1,1] [(236,.bool (!DW))] [] (fun a5 ad=>ax) I ar fun a I=>?_;rcases Bool.eq_false_or_eq_true (!DW) with Ha | Ha
       · have h:=J.c5 Ha h;have I:=I.b1 236 rfl Ha;refine b7 [27,28,29,30,31,32,33] 7 [1,1,1,1,1,1,1] [(237,undef),(238,undef),(243,undef)] [] (fun a5 ad=>ax) I ar fun a I=>cy 34 rfl (by kernel_rfl) (fun _=>ar) <| aN 1 [1] [(244,undef)] I fun a I=>cq <| b7 [35,36,37] 3 [1,1,1] [(247,.bool true)] [] (fun a5 ad=>ax) I ar fun a I=>eU (by kernel_rfl) ?_ (fun _=>ar);clear a8 ar;refine z6 _ _ <| eJ (I.g rfl) rfl <| bu [] [(4,.i 4)] I fun a I=>wp_ret ?_
         obtain rfl:=aC h;obtain rfl:=aC Au;refine a' (al (al (a' (al (al ?_)))));refine bq Tryz.results50 I rfl ?_;exact ⟨rfl,hm.aX [] []⟩
       have h:=J.c4 Ha h;have I:=I.b1 236 rfl Ha;refine b7 [27,28,29,30,31] 5 [1,0,0,1,1,0,1,1,0,5,1] [(237,.agg #[.q ag ah h_.Words,.i h_.aq,.i h_.aA,.i h_.aP,.i h_.aM,.q aJ aQ h_.au,.i h_.Next]),(238,.agg #[.q aS aV aa.aG,.q bk bl aa.aE,.q bg bj aa.Fields,.q bz bA aa.Names,.q bD bE aa.aD]),(240,.q aJ aQ h_.au),(241,.i fX)] [bY,5,cx,0,bY,0] (fun a5 ad=>(ay (b6 ad (a1 (a8.e 2 rfl))) (ay (b6 ad (a1 (a8.e 1 rfl))) ax))) I ar fun a I=>?_;obtain ⟨Ef,aD6,h⟩:=J.aI h
       obtain ⟨am_,ax1,_,rfl,atF⟩:=b3 _ (a8.d 4 rfl) aD6;refine eM 32 rfl (by kernel_rfl) (cS I rfl rfl rfl rfl) (fun a5=>bI Tryz.underlying22 Tryz.sizeOf3 rfl (I.g rfl) (I.g rfl) am_ ax1) ar I rfl rfl fun a I=>b7 [33] 1 [1,0,0] [(243,.i Ef)] [bG aJ,bH aJ+(fX).toNat* 1] (fun a5 ad=>(ay (b6 ad atF) ax)) I ar fun a I=>cy 34 rfl (by kernel_rfl) (fun _=>ar) ?_;obtain ⟨IY,aBz,h⟩:=J.aI h;have hc:=hm
       refine bR (vs:=[.agg #[.q ag ah h_.Words,.i h_.aq,.i h_.aA,.i h_.aP,.i h_.aM,.q aJ aQ h_.au,.i h_.Next],.agg #[.q aS aV aa.aG,.q bk bl aa.aE,.q bg bj aa.Fields,.q bz bA aa.Names,.q bD bE aa.aD],.i Ef]) (cS I rfl rfl rfl rfl) rfl Tryz.call43 ⟨(I.g rfl),(I.g rfl),(I.g rfl),trivial⟩ (Lm ((hc.into 0).pick ⟨⟨3,rfl⟩,⟨4,rfl⟩,⟨5,rfl⟩,⟨6,rfl⟩,⟨7,rfl⟩,⟨8,rfl⟩,⟨9,rfl⟩,trivial⟩) aBz) I rfl rfl ?_;rintro _ w ⟨aJ9,aKp,aLW,rfl,af⟩;refine ⟨_,rfl,fun a I=>?_⟩;have ad:a7 [] _ w:=af.ev;have hm:=hc.back 0 af;clear af hc
       have ar:=eW ar ad;clear ad;refine cq <| b7 [35,36,37] 3 [1,1,1] [(247,.bool (decide ((IY.length:Int)= 0)))] [] (fun a5 ad=>ax) I ar fun a I=>eU (by kernel_rfl) ?_ (fun _=>ar);clear a8 ar;refine z6 _ _ <| bn (I.g rfl) h (fun aq4 h=>?_) (fun aq4 h=>?_)
       · refine bu [] [(4,.i 4)] I fun a I=>wp_ret ?_;obtain rfl:=aC h;obtain rfl:=aC Au;refine a' (al (al (a' (al (al ?_)))));refine bq Tryz.results50 I rfl ?_;exact ⟨rfl,hm.aX [] []⟩
       refine wp_skip <| LU _ _ <| cg [] [(16,.i (J.av (fX+ 1)))] I fun a I=>?_;exact LS _ _ ⟨J.av (fX+ 1),I.cut,hm.aX [1,2,3] [1,2,3,4,5,6,7,8,9,10],h⟩
     have h:=J.c4 G_ h;have I:=I.b1 212 rfl G_;refine a0 [3,4,5,6,7,8,9,10,11,12,13,14,15,16,17,18,19,20] 18 [1,1,1,1,1,1,1,1,1,1,1,1,1,1,1,1,0,5,1] [(2,.aK bY),(3,.aK cx),(6,.q dZ en cu.2.1),(16,.i fX),(226,.bool false),(227,.q dZ en cu.2.1),(229,.q aJ aQ h_.au),(230,.i fX)] [bY,5] (fun a5 ad=>(ay (b6 ad (a1 (a8.e 2 rfl))) ax)) I ar fun a I=>?_;obtain ⟨OG,aD7,h⟩:=J.aI h;obtain ⟨am',ax2,_,rfl,atG⟩:=b3 _ (a8.d 4 rfl) aD7
     refine eM 21 rfl (by kernel_rfl) (cS I rfl rfl rfl rfl) (fun a5=>bI Tryz.underlying22 Tryz.sizeOf3 rfl (I.g rfl) (I.g rfl) am' ax2) ar I rfl rfl fun a I=>b7 [22] 1 [1,0,0] [(232,.i OG)] [bG aJ,bH aJ+(fX).toNat* 1] (fun a5 ad=>(ay (b6 ad atG) ax)) I ar fun a I=>cy 23 rfl (by kernel_rfl) (fun _=>ar) ?_;obtain ⟨Nu,aBB,h⟩:=J.aI h;have hc:=hm;refine bR (vs:=[.q dZ en cu.2.1,.i OG]) (cS I rfl rfl rfl rfl) rfl Tryz.call42 ⟨(I.g rfl),(I.g rfl),trivial⟩ (zP ((hc.into 0).pick ⟨⟨1,rfl⟩,trivial⟩) aBB) I rfl rfl ?_;rintro _ w ⟨rfl,af⟩;refine ⟨_,rfl,fun a I=>?_⟩;have ad:a7 [] _ w:=af.ev
     have hm:=hc.back 0 af;clear af hc;have ar:=eW ar ad;clear ad;refine cq <| b7 [24,25,26] 3 [1,1] [(236,.bool (!Nu))] [] (fun a5 ad=>ax) I ar fun a I=>?_;rcases Bool.eq_false_or_eq_true (!Nu) with Hc | Hc
     · have h:=J.c5 Hc h;have I:=I.b1 236 rfl Hc;refine b7 [27,28,29,30,31,32,33] 7 [1,1,1,1,1,1,1] [(237,undef),(238,undef),(243,undef)] [] (fun a5 ad=>ax) I ar fun a I=>cy 34 rfl (by kernel_rfl) (fun _=>ar) <| aN 1 [1] [(244,undef)] I fun a I=>cq <| b7 [35,36,37] 3 [1,1,1] [(247,.bool true)] [] (fun a5 ad=>ax) I ar fun a I=>eU (by kernel_rfl) ?_ (fun _=>ar);clear a8 ar;refine z6 _ _ <| eJ (I.g rfl) rfl <| bu [] [(4,.i 4)] I fun a I=>wp_ret ?_
       obtain rfl:=aC h;obtain rfl:=aC Au;refine a' (al (al (a' (al (al ?_)))));refine bq Tryz.results50 I rfl ?_;exact ⟨rfl,hm.aX [] []⟩
     have h:=J.c4 Hc h;have I:=I.b1 236 rfl Hc;refine b7 [27,28,29,30,31] 5 [1,0,0,1,1,0,1,1,0,5,1] [(237,.agg #[.q ag ah h_.Words,.i h_.aq,.i h_.aA,.i h_.aP,.i h_.aM,.q aJ aQ h_.au,.i h_.Next]),(238,.agg #[.q aS aV aa.aG,.q bk bl aa.aE,.q bg bj aa.Fields,.q bz bA aa.Names,.q bD bE aa.aD]),(240,.q aJ aQ h_.au),(241,.i fX)] [bY,5,cx,0,bY,0] (fun a5 ad=>(ay (b6 ad (a1 (a8.e 2 rfl))) (ay (b6 ad (a1 (a8.e 1 rfl))) ax))) I ar fun a I=>?_;obtain ⟨OI,aD8,h⟩:=J.aI h
     obtain ⟨ana,ax3,_,rfl,atH⟩:=b3 _ (a8.d 4 rfl) aD8;refine eM 32 rfl (by kernel_rfl) (cS I rfl rfl rfl rfl) (fun a5=>bI Tryz.underlying22 Tryz.sizeOf3 rfl (I.g rfl) (I.g rfl) ana ax3) ar I rfl rfl fun a I=>b7 [33] 1 [1,0,0] [(243,.i OI)] [bG aJ,bH aJ+(fX).toNat* 1] (fun a5 ad=>(ay (b6 ad atH) ax)) I ar fun a I=>cy 34 rfl (by kernel_rfl) (fun _=>ar) ?_;obtain ⟨X_,aBC,h⟩:=J.aI h;have hc:=hm
     refine bR (vs:=[.agg #[.q ag ah h_.Words,.i h_.aq,.i h_.aA,.i h_.aP,.i h_.aM,.q aJ aQ h_.au,.i h_.Next],.agg #[.q aS aV aa.aG,.q bk bl aa.aE,.q bg bj aa.Fields,.q bz bA aa.Names,.q bD bE aa.aD],.i OI]) (cS I rfl rfl rfl rfl) rfl Tryz.call43 ⟨(I.g rfl),(I.g rfl),(I.g rfl),trivial⟩ (Lm ((hc.into 0).pick ⟨⟨3,rfl⟩,⟨4,rfl⟩,⟨5,rfl⟩,⟨6,rfl⟩,⟨7,rfl⟩,⟨8,rfl⟩,⟨9,rfl⟩,trivial⟩) aBC) I rfl rfl ?_;rintro _ w ⟨aJ_,aKq,aLX,rfl,af⟩;refine ⟨_,rfl,fun a I=>?_⟩;have ad:a7 [] _ w:=af.ev;have hm:=hc.back 0 af;clear af hc
     have ar:=eW ar ad;clear ad;refine cq <| b7 [35,36,37] 3 [1,1,1] [(247,.bool (decide ((X_.length:Int)= 0)))] [] (fun a5 ad=>ax) I ar fun a I=>eU (by kernel_rfl) ?_ (fun _=>ar);clear a8 ar;refine z6 _ _ <| bn (I.g rfl) h (fun aq5 h=>?_) (fun aq5 h=>?_)
     · refine bu [] [(4,.i 4)] I fun a I=>wp_ret ?_;obtain rfl:=aC h;obtain rfl:=aC Au;refine a' (al (al (a' (al (al ?_)))));refine bq Tryz.results50 I rfl ?_;exact ⟨rfl,hm.aX [] []⟩
     refine wp_skip <| LU _ _ <| cg [] [(16,.i (J.av (fX+ 1)))] I fun a I=>?_;exact LS _ _ ⟨J.av (fX+ 1),I.cut,hm.aX [1,2,3] [1,2,3,4,5,6,7,8,9,10],h⟩
   refine wp_exit <| bC (bC (cv ?_));exact RM _ _ ⟨I.cut,hm,(os h)⟩
 rintro a w ⟨I,hm,bb⟩;subst Wk;have h:=Au;clear Au;dsimp only [J.ec] at h;refine RL _ _ <| wp_seq_k fun K RP=>bd [] [(17,.i 0)] I fun a I=>?_;obtain ⟨Wv,h,T0⟩:=J.ei h
 refine cd (fun a w=>Fr ⟨288,[]⟩ [] a/\aw W M0 X w [ap.row 3 1 (.q eQ fj cw) cw fu,ap.bm cx 30 [.q aS aV aa.aG,.q bk bl aa.aE,.q bg bj aa.Fields,.q bz bA aa.Names,.q bD bE aa.aD],ap.bm bY 24 [.q ag ah h_.Words,.i h_.aq,.i h_.aA,.i h_.aP,.i h_.aM,.q aJ aQ h_.au,.i h_.Next]] [ak.rows (ai .i64) fu cw,U (ai .i64) dZ en cu.2.1,U (ai .i64) gN gO cu.1,U (ai .i64) ag ah h_.Words,U (ai .i64) aJ aQ h_.au,U J.bc aS aV aa.aG,U (ai .i64) bk bl aa.aE,U (aH J.aW) bg bj aa.Fields,U (aH bF) bz bA aa.Names,U (aH J.bV) bD bE aa.aD]/\Wv=(.go ())) (fun K RQ=>?_) ?_
 · refine cB (fun (uP:Nat) a w=>∃ (ia:Int),Fr ⟨288,[]⟩ [(2,.aK bY),(3,.aK cx),(6,.q dZ en cu.2.1),(17,.i ia)] a/\aw W M0 X w [ap.row 3 1 (.q eQ fj cw) cw fu,ap.bm cx 30 [.q aS aV aa.aG,.q bk bl aa.aE,.q bg bj aa.Fields,.q bz bA aa.Names,.q bD bE aa.aD],ap.bm bY 24 [.q ag ah h_.Words,.i h_.aq,.i h_.aA,.i h_.aP,.i h_.aM,.q aJ aQ h_.au,.i h_.Next]] [ak.rows (ai .i64) fu cw,U (ai .i64) dZ en cu.2.1,U (ai .i64) gN gO cu.1,U (ai .i64) ag ah h_.Words,U (ai .i64) aJ aQ h_.au,U J.bc aS aV aa.aG,U (ai .i64) bk bl aa.aE,U (aH J.aW) bg bj aa.Fields,U (aH bF) bz bA aa.Names,U (aH J.bV) bD bE aa.aD]/\J.wJ F h_ aa cu uP ia=some Wv) F ⟨0,I.cut,hm,h⟩ ?_ ?_
   · rintro a w ⟨ia,I,hm,h⟩;exact absurd h (by simp [J.wJ])
   rintro uP a w ⟨ia,I,hm,h⟩ K RR;rw [J.wJ] at h;refine wp_seq_k fun K RS=>bd [] [(251,.bool (decide (ia <(cu.2.1.length:Int))))] I fun a I=>bn (I.g rfl) h (fun arK h=>?_) (fun arK h=>?_)
   · refine wp_skip <| RS _ _ <| wp_seq_k fun K RT=>?_;obtain ⟨afG,h,Uc⟩:=J.e3 h
     refine cd (fun a w=>Fr ⟨288,[]⟩ [(2,.aK bY),(3,.aK cx),(6,.q dZ en cu.2.1),(17,.i ia)] a/\aw W M0 X w [ap.row 3 1 (.q eQ fj cw) cw fu,ap.bm cx 30 [.q aS aV aa.aG,.q bk bl aa.aE,.q bg bj aa.Fields,.q bz bA aa.Names,.q bD bE aa.aD],ap.bm bY 24 [.q ag ah h_.Words,.i h_.aq,.i h_.aA,.i h_.aP,.i h_.aM,.q aJ aQ h_.au,.i h_.Next]] [ak.rows (ai .i64) fu cw,U (ai .i64) dZ en cu.2.1,U (ai .i64) gN gO cu.1,U (ai .i64) ag ah h_.Words,U (ai .i64) aJ aQ h_.au,U J.bc aS aV aa.aG,U (ai .i64) bk bl aa.aE,U (aH J.aW) bg bj aa.Fields,U (aH bF) bz bA aa.Names,U (aH J.bV) bD bE aa.aD]/\afG=(.go ())) (fun K apl=>?_) ?_
     · refine wp_seq_k fun K RU=>g1 (m:=8) 8 (a7 []) (by kernel_rfl) rfl fun w ad=>?_;have hm:=hm.dz ad;clear ad;have a8:=hm;have ar:=a7.refl [] w
       refine a0 [0,1,2,3] 4 [0,0,1,0] [(2,.aK bY),(3,.aK cx),(6,.q dZ en cu.2.1),(17,.i ia),(254,.agg #[.q ag ah h_.Words,.i h_.aq,.i h_.aA,.i h_.aP,.i h_.aM,.q aJ aQ h_.au,.i h_.Next]),(255,.agg #[.q aS aV aa.aG,.q bk bl aa.aE,.q bg bj aa.Fields,.q bz bA aa.Names,.q bD bE aa.aD]),(256,.q dZ en cu.2.1),(257,.i ia)] [cx,0,bY,0] (fun a5 ad=>(ay (b6 ad (a1 (a8.e 2 rfl))) (ay (b6 ad (a1 (a8.e 1 rfl))) ax))) I ar fun a I=>?_
       obtain ⟨OU,aEE,h⟩:=J.aI h;obtain ⟨anL,ayB,_,rfl,aug⟩:=b3 _ (a8.d 1 rfl) aEE;refine eM 4 rfl (by kernel_rfl) wn (fun a5=>bI Tryz.underlying22 Tryz.sizeOf3 rfl (I.g rfl) (I.g rfl) anL ayB) ar I rfl rfl fun a I=>b7 [5] 1 [0,0] [(259,.i OU)] [bG dZ,bH dZ+(ia).toNat* 1] (fun a5 ad=>(ay (b6 ad aug) ax)) I ar fun a I=>cy 6 rfl (by kernel_rfl) (fun _=>ar) ?_;obtain ⟨k0,aB6,h⟩:=J.aI h;have hc:=hm
       refine bR (vs:=[.agg #[.q ag ah h_.Words,.i h_.aq,.i h_.aA,.i h_.aP,.i h_.aM,.q aJ aQ h_.au,.i h_.Next],.agg #[.q aS aV aa.aG,.q bk bl aa.aE,.q bg bj aa.Fields,.q bz bA aa.Names,.q bD bE aa.aD],.i OU]) wn rfl Tryz.call43 ⟨(I.g rfl),(I.g rfl),(I.g rfl),trivial⟩ (Lm ((hc.into 0).pick ⟨⟨3,rfl⟩,⟨4,rfl⟩,⟨5,rfl⟩,⟨6,rfl⟩,⟨7,rfl⟩,⟨8,rfl⟩,⟨9,rfl⟩,trivial⟩) aB6) I rfl rfl ?_;rintro _ w ⟨zp,F2,Px,rfl,af⟩;refine ⟨_,rfl,fun a I=>?_⟩;have ad:a7 [] _ w:=af.ev;have hm:=hc.back 0 af;clear af hc;have ar:=eW ar ad;clear ad
       refine cq <| b7 [7] 1 [] [(18,.q zp F2 k0)] [] (fun a5 ad=>ax) I ar fun a I=>eU (by kernel_rfl) ?_ (fun _=>ar);clear a8 ar;refine RU _ _ <| bd [] [(19,.i 0)] I fun a I=>?_;obtain ⟨WJ,h,Ud⟩:=J.e3 h
       refine cd (fun a w=>Fr ⟨288,[]⟩ [(2,.aK bY),(3,.aK cx),(6,.q dZ en cu.2.1),(17,.i ia)] a/\aw W M0 X w [ap.row 3 1 (.q zp F2 k0) k0 Px,ap.row 3 1 (.q eQ fj cw) cw fu,ap.bm cx 30 [.q aS aV aa.aG,.q bk bl aa.aE,.q bg bj aa.Fields,.q bz bA aa.Names,.q bD bE aa.aD],ap.bm bY 24 [.q ag ah h_.Words,.i h_.aq,.i h_.aA,.i h_.aP,.i h_.aM,.q aJ aQ h_.au,.i h_.Next]] [ak.rows (ai .i64) Px k0,ak.rows (ai .i64) fu cw,U (ai .i64) dZ en cu.2.1,U (ai .i64) gN gO cu.1,U (ai .i64) ag ah h_.Words,U (ai .i64) aJ aQ h_.au,U J.bc aS aV aa.aG,U (ai .i64) bk bl aa.aE,U (aH J.aW) bg bj aa.Fields,U (aH bF) bz bA aa.Names,U (aH J.bV) bD bE aa.aD]/\WJ=(.go ())) (fun K RV=>?_) ?_
       · refine cB (fun (sM:Nat) a w=>∃ (ma:Int),Fr ⟨288,[]⟩ [(2,.aK bY),(3,.aK cx),(6,.q dZ en cu.2.1),(17,.i ia),(18,.q zp F2 k0),(19,.i ma)] a/\aw W M0 X w [ap.row 3 1 (.q zp F2 k0) k0 Px,ap.row 3 1 (.q eQ fj cw) cw fu,ap.bm cx 30 [.q aS aV aa.aG,.q bk bl aa.aE,.q bg bj aa.Fields,.q bz bA aa.Names,.q bD bE aa.aD],ap.bm bY 24 [.q ag ah h_.Words,.i h_.aq,.i h_.aA,.i h_.aP,.i h_.aM,.q aJ aQ h_.au,.i h_.Next]] [ak.rows (ai .i64) Px k0,ak.rows (ai .i64) fu cw,U (ai .i64) dZ en cu.2.1,U (ai .i64) gN gO cu.1,U (ai .i64) ag ah h_.Words,U (ai .i64) aJ aQ h_.au,U J.bc aS aV aa.aG,U (ai .i64) bk bl aa.aE,U (aH J.aW) bg bj aa.Fields,U (aH bF) bz bA aa.Names,U (aH J.bV) bD bE aa.aD]/\J.tv F h_ cu ia k0 sM ma=some WJ) F ⟨0,I.cut,hm,h⟩ ?_ ?_
         · rintro a w ⟨ma,I,hm,h⟩;exact absurd h (by simp [J.tv])
         rintro sM a w ⟨ma,I,hm,h⟩ K adD;rw [J.tv] at h;refine wp_seq_k fun K RW=>bd [] [(264,.bool (decide (ma <(k0.length:Int))))] I fun a I=>bn (I.g rfl) h (fun arO h=>?_) (fun arO h=>?_)
         · refine wp_skip <| RW _ _ <| wp_seq_k fun K LV=>wp_block <| wp_seq_k fun K LW=>g1 (m:=21) 21 (a7 []) (by kernel_rfl) rfl fun w ad=>?_;have hm:=hm.dz ad;clear ad;have a8:=hm;have ar:=a7.refl [] w;refine b7 [0,1,2,3,8,9] 6 [0,0,0,1] [(268,.q ag ah h_.Words),(269,.q zp F2 k0),(270,.i ma),(276,.i h_.aq)] [bY,1,bY,0] (fun a5 ad=>(ay (b6 ad (a1 (a8.e 3 rfl))) ax)) I ar fun a I=>?_;obtain ⟨OW,aEF,h⟩:=J.aI h;obtain ⟨anM,ayC,_,rfl,aui⟩:=gk (a8.e 0 rfl) (a8.d 0 rfl) aEF
           refine eM 4 rfl (by kernel_rfl) wn (fun a5=>bI Tryz.underlying22 Tryz.sizeOf3 rfl (I.g rfl) (I.g rfl) anM ayC) ar I rfl rfl fun a I=>b7 [5] 1 [0,0] [(272,.i OW)] [bG zp,bH zp+(ma).toNat* 1] (fun a5 ad=>(ay (b6 ad aui) ax)) I ar fun a I=>?_;obtain ⟨OX,aEG,h⟩:=J.aI h;obtain ⟨anN,ayD,_,rfl,auj⟩:=b3 _ (a8.d 4 rfl) aEG;refine eM 6 rfl (by kernel_rfl) wn (fun a5=>bI Tryz.underlying22 Tryz.sizeOf3 rfl (I.g rfl) (I.g rfl) anN ayD) ar I rfl rfl fun a I=>?_
           refine b7 [7] 1 [0,0] [(274,.i OX)] [bG ag,bH ag+(OW).toNat* 1] (fun a5 ad=>(ay (b6 ad auj) ax)) I ar fun a I=>cy 10 rfl (by kernel_rfl) (fun _=>ar) ?_;obtain ⟨NC,aB8,h⟩:=J.aI h;have hc:=hm;refine bR (vs:=[.i OX,.i 1,.i h_.aq]) wn rfl Tryz.call41 ⟨(I.g rfl),(c0 _ _),(I.g rfl),trivial⟩ (nB ((hc.into 0).pick trivial) aB8) I rfl rfl ?_;rintro _ w ⟨rfl,af⟩;refine ⟨_,rfl,fun a I=>?_⟩;have ad:a7 [] _ w:=af.ev;have hm:=hc.back 0 af;clear af hc;have ar:=eW ar ad;clear ad;refine cq ?_
           refine b7 [11] 1 [] [(278,.bool NC)] [] (fun a5 ad=>ax) I ar fun a I=>?_;rcases Bool.eq_false_or_eq_true NC with Ho | Ho
           · have h:=J.c5 Ho h;have I:=I.b1 278 rfl Ho;refine b7 [12,13,14,15] 4 [1,1,0,5,1,1] [(280,.q aJ aQ h_.au),(281,.q dZ en cu.2.1),(282,.i ia)] [bY,5] (fun a5 ad=>(ay (b6 ad (a1 (a8.e 3 rfl))) ax)) I ar fun a I=>?_;obtain ⟨OY,aEI,h⟩:=J.aI h;obtain ⟨anO,ayE,_,rfl,auk⟩:=b3 _ (a8.d 2 rfl) aEI;refine eM 16 rfl (by kernel_rfl) (cS I rfl rfl rfl rfl) (fun a5=>bI Tryz.underlying22 Tryz.sizeOf3 rfl (I.g rfl) (I.g rfl) anO ayE) ar I rfl rfl fun a I=>?_
             refine b7 [17] 1 [1,0,0] [(284,.i OY)] [bG dZ,bH dZ+(ia).toNat* 1] (fun a5 ad=>(ay (b6 ad auk) ax)) I ar fun a I=>cy 18 rfl (by kernel_rfl) (fun _=>ar) ?_;obtain ⟨Yr,aB9,h⟩:=J.aI h;have hc:=hm;refine bR (vs:=[.q aJ aQ h_.au,.i OY]) (cS I rfl rfl rfl rfl) rfl Tryz.call42 ⟨(I.g rfl),(I.g rfl),trivial⟩ (zP ((hc.into 0).pick ⟨⟨5,rfl⟩,trivial⟩) aB9) I rfl rfl ?_;rintro _ w ⟨rfl,af⟩;refine ⟨_,rfl,fun a I=>?_⟩;have ad:a7 [] _ w:=af.ev;have hm:=hc.back 0 af;clear af hc;have ar:=eW ar ad;clear ad;refine cq ?_
             refine b7 [19,20] 2 [1,1] [(287,.bool (!Yr))] [] (fun a5 ad=>ax) I ar fun a I=>eU (by kernel_rfl) ?_ (fun _=>ar);clear a8 ar;refine LW _ _ <| bn (I.g rfl) h (fun arQ h=>?_) (fun arQ h=>?_)
             · refine bu [] [(4,.i 4)] I fun a I=>wp_ret ?_;obtain rfl:=aC h;obtain rfl:=aC Ud;obtain rfl:=aC Uc;obtain rfl:=aC T0;refine a' (al (al (a' (al (a' (al (al (al (a' (al (al ?_)))))))))));refine bq Tryz.results50 I rfl ?_;exact ⟨rfl,hm.aX [] []⟩
             refine wp_skip <| LV _ _ <| cg [] [(19,.i (J.av (ma+ 1)))] I fun a I=>?_;exact adD _ _ ⟨J.av (ma+ 1),I.cut,hm,h⟩
           have h:=J.c4 Ho h;have I:=I.b1 278 rfl Ho;refine b7 [12,13,14,15,16,17] 6 [1,1,1,1,1,1] [(280,undef),(284,undef)] [] (fun a5 ad=>ax) I ar fun a I=>cy 18 rfl (by kernel_rfl) (fun _=>ar) <| aN 1 [1] [(285,undef)] I fun a I=>cq <| b7 [19,20] 2 [1,1] [(287,.bool false)] [] (fun a5 ad=>ax) I ar fun a I=>eU (by kernel_rfl) ?_ (fun _=>ar);clear a8 ar;refine LW _ _ <| g2 (I.g rfl) rfl <| wp_skip <| LV _ _ <| cg [] [(19,.i (J.av (ma+ 1)))] I fun a I=>?_
           exact adD _ _ ⟨J.av (ma+ 1),I.cut,hm,h⟩
         refine wp_exit <| bC (bC (cv ?_));exact RV _ _ ⟨I.cut,hm,(os h)⟩
       rintro a w ⟨I,hm,bb⟩;subst WJ;have h:=Ud;clear Ud;dsimp only [J.eV] at h;exact apl _ _ ⟨I.cut,hm.aX [1,2,3] [1,2,3,4,5,6,7,8,9,10],(os h)⟩
     rintro a w ⟨I,hm,bb⟩;subst afG;have h:=Uc;clear Uc;dsimp only [J.eV] at h;refine RT _ _ <| cg [] [(17,.i (J.av (ia+ 1)))] I fun a I=>?_;exact RR _ _ ⟨J.av (ia+ 1),I.cut,hm,h⟩
   refine wp_exit <| bC (bC (cv ?_));exact RQ _ _ ⟨I.cut,hm,(os h)⟩
 rintro a w ⟨I,hm,bb⟩;subst Wv;have h:=T0;clear T0;dsimp only [J.ec] at h;refine RP _ _ <| bu [] [(4,.i 0)] I fun a I=>wp_ret ?_;obtain rfl:=aC h;refine bq Tryz.results50 I rfl ?_;exact ⟨rfl,hm.aX [] []⟩
theorem ajD {W:World} {X:List Nat} {F:Nat} {h_:J.bp} {aa:J.bt} {r:Int} {ag:aT} {ah:Nat} {aJ:aT} {aQ:Nat} {aS:aT} {aV:Nat} {bk:aT} {bl:Nat} {bg:aT} {bj:Nat} {bz:aT} {bA:Nat} {bD:aT} {bE:Nat} {M0:List Nat} (hm:aw W M0 X W [] [U (ai .i64) ag ah h_.Words,U (ai .i64) aJ aQ h_.au,U J.bc aS aV aa.aG,U (ai .i64) bk bl aa.aE,U (aH J.aW) bg bj aa.Fields,U (aH bF) bz bA aa.Names,U (aH J.bV) bD bE aa.aD]) (h:J.zA F h_ aa=some r) :
 Calls Tryz.prog 18 [.agg #[.q ag ah h_.Words,.i h_.aq,.i h_.aA,.i h_.aP,.i h_.aM,.q aJ aQ h_.au,.i h_.Next],.agg #[.q aS aV aa.aG,.q bk bl aa.aE,.q bg bj aa.Fields,.q bz bA aa.Names,.q bD bE aa.aD]].toArray W (fun e aF=>e= .returned (.i r)/\aw W M0 X aF [] []):=by
 refine enter Tryz.func18 rfl Tryz.ntmps18 rfl fun a I=>?_;rw [J.zA] at h;refine wp_seq_k fun K c2=>aZ <| cz (cs:=[.q ag ah h_.Words,.i h_.aq,.i h_.aA,.i h_.aP,.i h_.aM,.q aJ aQ h_.au,.i h_.Next]) wn (ef rfl rfl (I.g rfl)) I hm rfl rfl fun a bY w _ I hm=>cz (cs:=[.q aS aV aa.aG,.q bk bl aa.aE,.q bg bj aa.Fields,.q bz bA aa.Names,.q bD bE aa.aD]) wn (ef rfl rfl (I.g rfl)) I hm rfl rfl fun a cx w _ I hm=>aN 1 [] [] I fun a I=>wpList_nil (c2 _ _ ?_);refine wp_seq_k fun K bO=>?_
 refine aZ <| bf 1 [0,0] [(6,.agg #[.q aS aV aa.aG,.q bk bl aa.aE,.q bg bj aa.Fields,.q bz bA aa.Names,.q bD bE aa.aD])] [cx,0] (ay (a1 (hm.e 0 rfl)) ax) I fun a I=>?_;obtain ⟨bX,kt,h⟩:=J.aI h;have hc:=hm;refine bR (vs:=[.agg #[.q aS aV aa.aG,.q bk bl aa.aE,.q bg bj aa.Fields,.q bz bA aa.Names,.q bD bE aa.aD]]) wn rfl Tryz.call49 ⟨(I.g rfl),trivial⟩ (ajz ((hc.into 0).pick ⟨⟨2,rfl⟩,⟨3,rfl⟩,⟨4,rfl⟩,⟨5,rfl⟩,⟨6,rfl⟩,trivial⟩) kt) I rfl rfl ?_;rintro _ w ⟨rfl,af⟩;refine ⟨_,rfl,fun a I=>?_⟩;have ad:a7 [] _ w:=af.ev;have hm:=hc.back 0 af
 clear af hc;clear ad;refine aN 1 [] [(5,.i bX)] I fun a I=>wpList_nil (bO _ _ ?_);refine wp_seq_k fun K cc=>bd [] [(9,.bool (decide (bX= 0)))] I fun a I=>bn (I.g rfl) h (fun rc h=>?_) (fun rc h=>?_)
 · refine aZ <| bf 2 [0,0,1,0] [(10,.agg #[.q ag ah h_.Words,.i h_.aq,.i h_.aA,.i h_.aP,.i h_.aM,.q aJ aQ h_.au,.i h_.Next]),(11,.agg #[.q aS aV aa.aG,.q bk bl aa.aE,.q bg bj aa.Fields,.q bz bA aa.Names,.q bD bE aa.aD])] [cx,0,bY,0] (ay (a1 (hm.e 1 rfl)) (ay (a1 (hm.e 0 rfl)) ax)) I fun a I=>?_;obtain ⟨nZ,rq,h⟩:=J.aI h;have hc:=hm
   refine bR (vs:=[.agg #[.q ag ah h_.Words,.i h_.aq,.i h_.aA,.i h_.aP,.i h_.aM,.q aJ aQ h_.au,.i h_.Next],.agg #[.q aS aV aa.aG,.q bk bl aa.aE,.q bg bj aa.Fields,.q bz bA aa.Names,.q bD bE aa.aD]]) wn rfl Tryz.call50 ⟨(I.g rfl),(I.g rfl),trivial⟩ (ajx ((hc.into 0).pick ⟨⟨0,rfl⟩,⟨1,rfl⟩,⟨2,rfl⟩,⟨3,rfl⟩,⟨4,rfl⟩,⟨5,rfl⟩,⟨6,rfl⟩,trivial⟩) rq) I rfl rfl ?_;rintro _ w ⟨rfl,af⟩;refine ⟨_,rfl,fun a I=>?_⟩;have hm:=hc.back 0 af;clear af hc
   refine ek 1 [] [(5,.i nZ)] I fun a I=>wpList_nil (cc _ _ ?_);refine bu [] [(4,.i nZ)] I fun a I=>wp_ret ?_;obtain rfl:=aC h;refine bq Tryz.results18 I rfl ?_;exact ⟨rfl,hm.aX [] []⟩
 refine wp_skip <| cc _ _ <| bu [] [(4,.i bX)] I fun a I=>wp_ret ?_;obtain rfl:=aC h;refine bq Tryz.results18 I rfl ?_;exact ⟨rfl,hm.aX [] []⟩
end Go.Proofs.YtpkhpagplommoaaGreat
namespace J
def tB (F:Nat) (h_:bp) (aa:bt) (at_:Int):Option (Bool):=
 (qT F (⟨h_.Words,h_.aq,h_.aA,h_.aP,h_.aM,h_.au,h_.Next⟩:bp) (⟨aa.aG,aa.aE,aa.Fields,aa.Names,aa.aD⟩:bt)).bind fun bX=>
 (nv F bX.1 at_).bind fun yS=>
 cond (yS) (some true) ((nv F bX.2.1 at_).bind fun XY=>
 some XY)
def Cd (h_:bp):Option (bp):=
 (dU 8 ([]:List Int) h_.Words).bind fun m5=>
 (dU 8 ([]:List Int) h_.au).bind fun hn=>
 some (⟨m5,h_.aq,h_.aA,h_.aP,h_.aM,hn,h_.Next⟩:bp)
def tE (at_:Int) (bx:bp):Nat->Int->Option (Int)
 | 0,_=>none
 | bw+ 1,kX=>
   cond (decide (kX <(bx.au.length:Int))) ((idx bx.au kX).bind fun Zf=>
   cond (decide (Zf <at_)) (tE at_ bx bw (av (kX+ 1))) (some kX)) (some kX)
def Cc (F:Nat) (h_:bp) (aa:bt) (at_:Int) (bS:Int) (et:Int):Option (bp):=
 (Cd (⟨h_.Words,h_.aq,h_.aA,h_.aP,h_.aM,h_.au,h_.Next⟩:bp)).bind fun bx=>
 (idx bx.Words (av ((av (at_+ 3))+bS))).bind fun ahh=>
 (some (bx.Words.set (av ((av (at_+ 3))+bS)).toNat et)).bind fun g6=>
 (idx g6 at_).bind fun Oq=>
 (sm (⟨aa.aG,aa.aE,aa.Fields,aa.Names,aa.aD⟩:bt) Oq bS).bind fun Nv=>
 cond (Nv && (decide (bx.aq <at_))) ((gC et 1 bx.aq).bind fun Nw=>
 cond (Nw) ((nv F bx.au at_).bind fun Yf=>
 cond (!Yf) (Option.bind (α:=Int) (tE at_ bx F 0) fun (g8:Int)=>
 (cut bx.au 0 g8).bind fun My=>
 (cut bx.au g8 (bx.au.length:Int)).bind fun W9=>
 (dU 8 [at_] W9).bind fun W'=>
 (M5 (!W'.isEmpty)).bind fun _=>
 (dU 8 My W').bind fun lp=>
 some (⟨g6,bx.aq,bx.aA,bx.aP,bx.aM,lp,bx.Next⟩:bp)) (some (⟨g6,bx.aq,bx.aA,bx.aP,bx.aM,bx.au,bx.Next⟩:bp))) (some (⟨g6,bx.aq,bx.aA,bx.aP,bx.aM,bx.au,bx.Next⟩:bp))) (some (⟨g6,bx.aq,bx.aA,bx.aP,bx.aM,bx.au,bx.Next⟩:bp))
end J
namespace Go.Proofs.YtpkhpagplommoaaGreat
open Go Go.RowKit a2
set_option maxHeartbeats 4000000
set_option maxRecDepth 20000
theorem aca {W:World} {X:List Nat} {F:Nat} {h_:J.bp} {aa:J.bt} {at_:Int} {r:Bool} {ag:aT} {ah:Nat} {aJ:aT} {aQ:Nat} {aS:aT} {aV:Nat} {bk:aT} {bl:Nat} {bg:aT} {bj:Nat} {bz:aT} {bA:Nat} {bD:aT} {bE:Nat} {M0:List Nat} (hm:aw W M0 X W [] [U (ai .i64) ag ah h_.Words,U (ai .i64) aJ aQ h_.au,U J.bc aS aV aa.aG,U (ai .i64) bk bl aa.aE,U (aH J.aW) bg bj aa.Fields,U (aH bF) bz bA aa.Names,U (aH J.bV) bD bE aa.aD]) (h:J.tB F h_ aa at_=some r) :
 Calls Tryz.prog 25 [.agg #[.q ag ah h_.Words,.i h_.aq,.i h_.aA,.i h_.aP,.i h_.aM,.q aJ aQ h_.au,.i h_.Next],.agg #[.q aS aV aa.aG,.q bk bl aa.aE,.q bg bj aa.Fields,.q bz bA aa.Names,.q bD bE aa.aD],.i at_].toArray W (fun e aF=>e= .returned (.bool r)/\aw W M0 X aF [] []):=by
 refine enter Tryz.func25 rfl Tryz.ntmps25 rfl fun a I=>?_;rw [J.tB] at h;refine wp_seq_k fun K c2=>aZ <| cz (cs:=[.q ag ah h_.Words,.i h_.aq,.i h_.aA,.i h_.aP,.i h_.aM,.q aJ aQ h_.au,.i h_.Next]) wn (ef rfl rfl (I.g rfl)) I hm rfl rfl fun a bY w _ I hm=>cz (cs:=[.q aS aV aa.aG,.q bk bl aa.aE,.q bg bj aa.Fields,.q bz bA aa.Names,.q bD bE aa.aD]) wn (ef rfl rfl (I.g rfl)) I hm rfl rfl fun a cx w _ I hm=>aN 1 [] [] I fun a I=>wpList_nil (c2 _ _ ?_);refine wp_seq_k fun K bO=>?_
 refine aZ <| bf 2 [0,0,1,0] [(11,.agg #[.q ag ah h_.Words,.i h_.aq,.i h_.aA,.i h_.aP,.i h_.aM,.q aJ aQ h_.au,.i h_.Next]),(12,.agg #[.q aS aV aa.aG,.q bk bl aa.aE,.q bg bj aa.Fields,.q bz bA aa.Names,.q bD bE aa.aD])] [cx,0,bY,0] (ay (a1 (hm.e 1 rfl)) (ay (a1 (hm.e 0 rfl)) ax)) I fun a I=>?_;obtain ⟨bX,kt,h⟩:=J.aI h;have hc:=hm
 refine bR (vs:=[.agg #[.q ag ah h_.Words,.i h_.aq,.i h_.aA,.i h_.aP,.i h_.aM,.q aJ aQ h_.au,.i h_.Next],.agg #[.q aS aV aa.aG,.q bk bl aa.aE,.q bg bj aa.Fields,.q bz bA aa.Names,.q bD bE aa.aD]]) wn rfl Tryz.call61 ⟨(I.g rfl),(I.g rfl),trivial⟩ (acg ((hc.into 0).pick ⟨⟨0,rfl⟩,⟨1,rfl⟩,⟨2,rfl⟩,⟨3,rfl⟩,⟨4,rfl⟩,⟨5,rfl⟩,⟨6,rfl⟩,trivial⟩) kt) I rfl rfl ?_;rintro _ w ⟨c9,dp,Er,eA,eE,nq,rfl,af⟩;refine ⟨_,rfl,fun a I=>?_⟩;have hm:=hc.back 0 af;clear af hc
 refine aN 7 [] [(7,.q c9 dp bX.1),(8,.q eA eE bX.2.1)] I fun a I=>wpList_nil (bO _ _ ?_);refine wp_seq_k fun K cc=>aZ <| aN 2 [] [(17,.q c9 dp bX.1),(18,.i at_)] I fun a I=>?_;obtain ⟨yS,U3,h⟩:=J.aI h;have hc:=hm;have az:=hc.freeze 0 0 rfl rfl;refine bR (vs:=[.q c9 dp bX.1,.i at_]) wn rfl Tryz.call42 ⟨(I.g rfl),(I.g rfl),trivial⟩ (zP ((az.into 0).pick ⟨⟨0,rfl⟩,trivial⟩) U3) I rfl rfl ?_;rintro _ w ⟨rfl,af⟩;refine ⟨_,rfl,fun a I=>?_⟩;have ad:a7 [] _ w:=af.ev;have hm:=hc.fS 0 (by exact trivial) af;clear af hc az
 clear ad;refine aN 1 [] [(20,.bool yS)] I fun a I=>?_;rcases Bool.eq_false_or_eq_true yS with GX | GX
 · have h:=J.c5 GX h;have I:=I.b1 20 rfl GX;refine ek 5 [1,1,1,1] [(6,.bool true)] I fun a I=>wpList_nil (cc _ _ ?_);refine wp_ret ?_;obtain rfl:=aC h;refine bq Tryz.results25 I rfl ?_;exact ⟨rfl,hm.aX [] []⟩
 have h:=J.c4 GX h;have I:=I.b1 20 rfl GX;refine aN 2 [1,1] [(21,.q eA eE bX.2.1),(22,.i at_)] I fun a I=>?_;obtain ⟨XY,aBg,h⟩:=J.aI h;have hc:=hm;have az:=hc.freeze 1 1 rfl rfl;refine bR (vs:=[.q eA eE bX.2.1,.i at_]) (cS I rfl rfl rfl rfl) rfl Tryz.call42 ⟨(I.g rfl),(I.g rfl),trivial⟩ (zP ((az.into 0).pick ⟨⟨0,rfl⟩,trivial⟩) aBg) I rfl rfl ?_;rintro _ w ⟨rfl,af⟩;refine ⟨_,rfl,fun a I=>?_⟩;have ad:a7 [] _ w:=af.ev;have hm:=hc.fS 0 (by exact trivial) af;clear af hc az;clear ad;refine ek 2 [1] [(6,.bool XY)] I fun a I=>wpList_nil (cc _ _ ?_);refine wp_ret ?_
 obtain rfl:=aC h;refine bq Tryz.results25 I rfl ?_;exact ⟨rfl,hm.aX [] []⟩
theorem ajJ {W:World} {X:List Nat} {h_:J.bp} {r:J.bp} {ag:aT} {ah:Nat} {aJ:aT} {aQ:Nat} {M0:List Nat} (hm:aw W M0 X W [] [U (ai .i64) ag ah h_.Words,U (ai .i64) aJ aQ h_.au]) (h:J.Cd h_=some r) :
 Calls Tryz.prog 56 [.agg #[.q ag ah h_.Words,.i h_.aq,.i h_.aA,.i h_.aP,.i h_.aM,.q aJ aQ h_.au,.i h_.Next]].toArray W (fun e aF=>∃ c9:Option Addr,∃ dp:Nat,∃ r4:List Value,∃ js:Option Addr,∃ ju:Nat,∃ nq:List Value,e= .returned (.agg #[.q c9 dp r.Words,.i r.aq,.i r.aA,.i r.aP,.i r.aM,.q js ju r.au,.i r.Next])/\aw W M0 X aF [ap.row 3 1 (.q c9 dp r.Words) r.Words r4,ap.row 3 1 (.q js ju r.au) r.au nq] [ak.rows (ai .i64) r4 r.Words,ak.rows (ai .i64) nq r.au]):=by
 refine enter Tryz.func56 rfl Tryz.ntmps56 rfl fun a I=>?_;rw [J.Cd] at h;refine wp_seq_k fun K c2=>aZ <| cz (cs:=[.q ag ah h_.Words,.i h_.aq,.i h_.aA,.i h_.aP,.i h_.aM,.q aJ aQ h_.au,.i h_.Next]) wn (ef rfl rfl (I.g rfl)) I hm rfl rfl fun a cR w _ I hm=>cz (cs:=[.slice none 0 0,.i 0,.i 0,.i 0,.i 0,.slice none 0 0,.i 0]) wn (eL Tryz.zeroValue24 rfl rfl) I hm rfl rfl fun a LQ w _ I hm=>wpList_nil <| c2 _ _ <| wp_seq_k fun K bO=>g1 (m:=12) 7 (a7 []) (by kernel_rfl) rfl fun w ad=>?_;have hm:=hm.dz ad;clear ad
 have a8:=hm;have ar:=a7.refl [] w;refine b7 [1,2,5,6] 4 [0,0,0,5] [(5,.q ag ah h_.Words),(9,.q aJ aQ h_.au)] [cR,5,cR,0] (fun a5 ad=>(ay (b6 ad (a1 (a8.e 1 rfl))) ax)) I ar fun a I=>KI 0 4 rfl rfl (by kernel_rfl) (fun _=>ar) ?_ ?_
 · refine nW (cs:=[]) wn (r5 Tryz.underlying22 Tryz.sizeOf3 rfl) I hm rfl rfl fun a dh w ad Ao I hm=>?_;have Ao:=Nat.le_trans ar.size Ao;have ar:=eW ar ad;clear ad;refine cq <| KI 3 4 rfl rfl (by kernel_rfl) (fun _=>ar) ?_ ?_
   · obtain ⟨m5,UK,h⟩:=J.aI h;have hm:=hm.jC (sz:=1) 0 ([]:eI) rfl rfl rfl rfl;have hm:=hm.more (y:=ak.rows (ai .i64) [] []) rfl;refine I1 (T:=(ai .i64)) 0 0 1 hm rfl rfl rfl Tryz.underlying22 jb rfl rfl UK rfl wn rfl (I.g rfl) (I.g rfl) I rfl rfl fun a cN cO En w ad I hm=>?_;have ar:=q9 ar ad Ao;clear ad;refine cq <| b7 [8] 1 [] [(11,.aK cR)] [] (fun a5 ad=>ax) I ar fun a I=>cy 4 rfl (by kernel_rfl) (fun _=>ar) <| nW (cs:=[]) wn (r5 Tryz.underlying22 Tryz.sizeOf3 rfl) I hm rfl rfl fun a dY w ad ad_ I hm=>?_
     have ad_:=Nat.le_trans ar.size ad_;have ar:=eW ar ad;clear ad;refine cq <| cy 7 rfl (by kernel_rfl) (fun _=>ar) ?_;obtain ⟨hn,HX,h⟩:=J.aI h;have hm:=hm.jC (sz:=1) 0 ([]:eI) rfl rfl rfl rfl;have hm:=hm.more (y:=ak.rows (ai .i64) [] []) rfl;refine n3 (T:=(ai .i64)) 0 0 4 hm rfl rfl rfl Tryz.underlying22 jb rfl rfl HX rfl wn rfl (I.g rfl) (I.g rfl) I rfl rfl fun a cp cr vY w I hm=>cq ?_;clear a8 ar;have a8:=hm;have ar:=a7.refl [] w;refine dT.next 9 (a7 [] w) (by kernel_rfl) <| cy 9 rfl (by kernel_rfl) (fun _=>ar) ?_
     refine cA (vs:=[.q cN cO m5]) 3 hm rfl wn rfl Tryz.sizeOf22 rfl rfl rfl rfl (I.g rfl) (I.g rfl) rfl fun w hm=>cq ?_;clear a8 ar;have a8:=hm;have ar:=a7.refl [] w;refine dT.next 11 (a7 [] w) (by kernel_rfl) <| b7 [10] 1 [] [(12,.pointer (some ⟨cR,5,none⟩))] [] (fun a5 ad=>ax) I ar fun a I=>cy 11 rfl (by kernel_rfl) (fun _=>ar) <| cA (vs:=[.q cp cr hn]) 3 hm rfl wn rfl Tryz.sizeOf22 rfl rfl rfl rfl (I.g rfl) (I.g rfl) rfl fun w hm=>cq ?_
     clear a8 ar;have a8:=hm;have ar:=a7.refl [] w;refine dT.next 12 (a7 [] w) (by kernel_rfl) <| eU (by kernel_rfl) ?_ (fun _=>ar);clear a8 ar;refine bO _ _ <| wp_seq_k fun K cc=>aZ <| bf 1 [0,0] [(13,.agg #[.q cN cO m5,.i h_.aq,.i h_.aA,.i h_.aP,.i h_.aM,.q cp cr hn,.i h_.Next])] [cR,0] (ay (a1 (hm.e 3 rfl)) ax) I fun a I=>cA (vs:=[.q cN cO m5,.i h_.aq,.i h_.aA,.i h_.aP,.i h_.aM,.q cp cr hn,.i h_.Next]) 2 hm rfl wn rfl Tryz.sizeOf24 rfl rfl rfl rfl (I.g rfl) (I.g rfl) rfl fun w hm=>?_
     refine wpList_nil <| cc _ _ <| wp_ret ?_;obtain rfl:=aC h;refine gA (vs:=[.agg #[.q cN cO m5,.i h_.aq,.i h_.aA,.i h_.aP,.i h_.aM,.q cp cr hn,.i h_.Next]]) Tryz.results56 I ⟨⟨_,_,I.g rfl,.inl ⟨[.q cN cO m5,.i h_.aq,.i h_.aA,.i h_.aP,.i h_.aM,.q cp cr hn,.i h_.Next],Tryz.isAgg24,Tryz.sizeOf24,gD (hm.e 2 rfl) 0 ⟨rfl,rfl,rfl,rfl,rfl,rfl,rfl,trivial⟩,rfl⟩⟩,trivial⟩ ?_;exact ⟨cN,cO,En,cp,cr,vY,rfl,hm.aX [1,0] [2,0]⟩
   refine nW (cs:=[]) wn (r5 Tryz.underlying22 Tryz.sizeOf3 rfl) I hm rfl rfl fun a hx w ad C9 I hm=>?_;have C9:=Nat.le_trans ar.size C9;have ar:=eW ar ad;clear ad;refine cq <| cy 3 rfl (by kernel_rfl) (fun _=>ar) ?_;obtain ⟨m6,HW,h⟩:=J.aI h;have hm:=hm.jC (sz:=1) 1 ([]:eI) rfl rfl rfl rfl;have hm:=hm.more (y:=ak.rows (ai .i64) [] []) rfl;refine I1 (T:=(ai .i64)) 1 0 1 hm rfl rfl rfl Tryz.underlying22 jb rfl rfl HW rfl wn rfl (I.g rfl) (I.g rfl) I rfl rfl fun a bz bA Eo w ad I hm=>?_;have ar:=q9 ar ad Ao;clear ad;refine cq ?_
   refine b7 [8] 1 [] [(11,.aK cR)] [] (fun a5 ad=>ax) I ar fun a I=>cy 7 rfl (by kernel_rfl) (fun _=>ar) ?_;obtain ⟨hn,HX,h⟩:=J.aI h;have hm:=hm.jC (sz:=1) 0 ([]:eI) rfl rfl rfl rfl;have hm:=hm.more (y:=ak.rows (ai .i64) [] []) rfl;refine n3 (T:=(ai .i64)) 0 0 4 hm rfl rfl rfl Tryz.underlying22 jb rfl rfl HX rfl wn rfl (I.g rfl) (I.g rfl) I rfl rfl fun a cp cr vY w I hm=>cq ?_;clear a8 ar;have a8:=hm;have ar:=a7.refl [] w;refine dT.next 9 (a7 [] w) (by kernel_rfl) <| cy 9 rfl (by kernel_rfl) (fun _=>ar) ?_
   refine cA (vs:=[.q bz bA m6]) 3 hm rfl wn rfl Tryz.sizeOf22 rfl rfl rfl rfl (I.g rfl) (I.g rfl) rfl fun w hm=>cq ?_;clear a8 ar;have a8:=hm;have ar:=a7.refl [] w;refine dT.next 11 (a7 [] w) (by kernel_rfl) <| b7 [10] 1 [] [(12,.pointer (some ⟨cR,5,none⟩))] [] (fun a5 ad=>ax) I ar fun a I=>cy 11 rfl (by kernel_rfl) (fun _=>ar) <| cA (vs:=[.q cp cr hn]) 3 hm rfl wn rfl Tryz.sizeOf22 rfl rfl rfl rfl (I.g rfl) (I.g rfl) rfl fun w hm=>cq ?_
   clear a8 ar;have a8:=hm;have ar:=a7.refl [] w;refine dT.next 12 (a7 [] w) (by kernel_rfl) <| eU (by kernel_rfl) ?_ (fun _=>ar);clear a8 ar;refine bO _ _ <| wp_seq_k fun K cc=>aZ <| bf 1 [0,0] [(13,.agg #[.q bz bA m6,.i h_.aq,.i h_.aA,.i h_.aP,.i h_.aM,.q cp cr hn,.i h_.Next])] [cR,0] (ay (a1 (hm.e 3 rfl)) ax) I fun a I=>cA (vs:=[.q bz bA m6,.i h_.aq,.i h_.aA,.i h_.aP,.i h_.aM,.q cp cr hn,.i h_.Next]) 2 hm rfl wn rfl Tryz.sizeOf24 rfl rfl rfl rfl (I.g rfl) (I.g rfl) rfl fun w hm=>?_
   refine wpList_nil <| cc _ _ <| wp_ret ?_;obtain rfl:=aC h;refine gA (vs:=[.agg #[.q bz bA m6,.i h_.aq,.i h_.aA,.i h_.aP,.i h_.aM,.q cp cr hn,.i h_.Next]]) Tryz.results56 I ⟨⟨_,_,I.g rfl,.inl ⟨[.q bz bA m6,.i h_.aq,.i h_.aA,.i h_.aP,.i h_.aM,.q cp cr hn,.i h_.Next],Tryz.isAgg24,Tryz.sizeOf24,gD (hm.e 2 rfl) 0 ⟨rfl,rfl,rfl,rfl,rfl,rfl,rfl,trivial⟩,rfl⟩⟩,trivial⟩ ?_;exact ⟨bz,bA,Eo,cp,cr,vY,rfl,hm.aX [1,0] [2,0]⟩
 refine nW (cs:=[]) wn (r5 Tryz.underlying22 Tryz.sizeOf3 rfl) I hm rfl rfl fun a dh w ad Ao I hm=>?_;have Ao:=Nat.le_trans ar.size Ao;have ar:=eW ar ad;clear ad;refine cq <| cy 0 rfl (by kernel_rfl) (fun _=>ar) <| nW (cs:=[]) wn (r5 Tryz.underlying22 Tryz.sizeOf3 rfl) I hm rfl rfl fun a hx w ad C9 I hm=>?_;have C9:=Nat.le_trans ar.size C9;have ar:=eW ar ad;clear ad;refine cq <| cy 3 rfl (by kernel_rfl) (fun _=>ar) ?_;obtain ⟨m6,HW,h⟩:=J.aI h;have hm:=hm.jC (sz:=1) 0 ([]:eI) rfl rfl rfl rfl;have hm:=hm.more (y:=ak.rows (ai .i64) [] []) rfl
 refine I1 (T:=(ai .i64)) 0 0 1 hm rfl rfl rfl Tryz.underlying22 jb rfl rfl HW rfl wn rfl (I.g rfl) (I.g rfl) I rfl rfl fun a bz bA Eo w ad I hm=>?_;have ar:=q9 ar ad C9;clear ad;refine cq <| b7 [8] 1 [] [(11,.aK cR)] [] (fun a5 ad=>ax) I ar fun a I=>cy 7 rfl (by kernel_rfl) (fun _=>ar) ?_;obtain ⟨hn,HX,h⟩:=J.aI h;have hm:=hm.jC (sz:=1) 1 ([]:eI) rfl rfl rfl rfl;have hm:=hm.more (y:=ak.rows (ai .i64) [] []) rfl;refine n3 (T:=(ai .i64)) 1 0 4 hm rfl rfl rfl Tryz.underlying22 jb rfl rfl HX rfl wn rfl (I.g rfl) (I.g rfl) I rfl rfl ?_
 intro a cp cr vY w I hm;refine cq ?_;clear a8 ar;have a8:=hm;have ar:=a7.refl [] w;refine dT.next 9 (a7 [] w) (by kernel_rfl) <| cy 9 rfl (by kernel_rfl) (fun _=>ar) <| cA (vs:=[.q bz bA m6]) 3 hm rfl wn rfl Tryz.sizeOf22 rfl rfl rfl rfl (I.g rfl) (I.g rfl) rfl fun w hm=>cq ?_;clear a8 ar;have a8:=hm;have ar:=a7.refl [] w;refine dT.next 11 (a7 [] w) (by kernel_rfl) <| b7 [10] 1 [] [(12,.pointer (some ⟨cR,5,none⟩))] [] (fun a5 ad=>ax) I ar fun a I=>cy 11 rfl (by kernel_rfl) (fun _=>ar) ?_
 refine cA (vs:=[.q cp cr hn]) 3 hm rfl wn rfl Tryz.sizeOf22 rfl rfl rfl rfl (I.g rfl) (I.g rfl) rfl fun w hm=>cq ?_;clear a8 ar;have a8:=hm;have ar:=a7.refl [] w;refine dT.next 12 (a7 [] w) (by kernel_rfl) <| eU (by kernel_rfl) ?_ (fun _=>ar);clear a8 ar;refine bO _ _ <| wp_seq_k fun K cc=>aZ <| bf 1 [0,0] [(13,.agg #[.q bz bA m6,.i h_.aq,.i h_.aA,.i h_.aP,.i h_.aM,.q cp cr hn,.i h_.Next])] [cR,0] (ay (a1 (hm.e 3 rfl)) ax) I fun a I=>?_
 refine cA (vs:=[.q bz bA m6,.i h_.aq,.i h_.aA,.i h_.aP,.i h_.aM,.q cp cr hn,.i h_.Next]) 2 hm rfl wn rfl Tryz.sizeOf24 rfl rfl rfl rfl (I.g rfl) (I.g rfl) rfl fun w hm=>wpList_nil <| cc _ _ <| wp_ret ?_;obtain rfl:=aC h
 refine gA (vs:=[.agg #[.q bz bA m6,.i h_.aq,.i h_.aA,.i h_.aP,.i h_.aM,.q cp cr hn,.i h_.Next]]) Tryz.results56 I ⟨⟨_,_,I.g rfl,.inl ⟨[.q bz bA m6,.i h_.aq,.i h_.aA,.i h_.aP,.i h_.aM,.q cp cr hn,.i h_.Next],Tryz.isAgg24,Tryz.sizeOf24,gD (hm.e 2 rfl) 0 ⟨rfl,rfl,rfl,rfl,rfl,rfl,rfl,trivial⟩,rfl⟩⟩,trivial⟩ ?_;exact ⟨bz,bA,Eo,cp,cr,vY,rfl,hm.aX [0,1] [2,0]⟩
theorem ajH {W:World} {X:List Nat} {F:Nat} {h_:J.bp} {aa:J.bt} {at_:Int} {bS:Int} {et:Int} {r:J.bp} {ag:aT} {ah:Nat} {aJ:aT} {aQ:Nat} {aS:aT} {aV:Nat} {bk:aT} {bl:Nat} {bg:aT} {bj:Nat} {bz:aT} {bA:Nat} {bD:aT} {bE:Nat} {M0:List Nat} (hm:aw W M0 X W [] [U (ai .i64) ag ah h_.Words,U (ai .i64) aJ aQ h_.au,U J.bc aS aV aa.aG,U (ai .i64) bk bl aa.aE,U (aH J.aW) bg bj aa.Fields,U (aH bF) bz bA aa.Names,U (aH J.bV) bD bE aa.aD]) (h:J.Cc F h_ aa at_ bS et=some r) :
 Calls Tryz.prog 27 [.agg #[.q ag ah h_.Words,.i h_.aq,.i h_.aA,.i h_.aP,.i h_.aM,.q aJ aQ h_.au,.i h_.Next],.agg #[.q aS aV aa.aG,.q bk bl aa.aE,.q bg bj aa.Fields,.q bz bA aa.Names,.q bD bE aa.aD],.i at_,.i bS,.i et].toArray W (fun e aF=>∃ ZB:Option Addr,∃ aa4:Nat,∃ ahv:List Value,∃ ZC:Option Addr,∃ aa5:Nat,∃ ahw:List Value,e= .returned (.agg #[.q ZB aa4 r.Words,.i r.aq,.i r.aA,.i r.aP,.i r.aM,.q ZC aa5 r.au,.i r.Next])/\aw W M0 X aF [ap.row 3 1 (.q ZB aa4 r.Words) r.Words ahv,ap.row 3 1 (.q ZC aa5 r.au) r.au ahw] [ak.rows (ai .i64) ahv r.Words,ak.rows (ai .i64) ahw r.au]):=by
 refine enter Tryz.func27 rfl Tryz.ntmps27 rfl fun a I=>?_;rw [J.Cc] at h;refine wp_seq_k fun K c2=>aZ <| cz (cs:=[.q ag ah h_.Words,.i h_.aq,.i h_.aA,.i h_.aP,.i h_.aM,.q aJ aQ h_.au,.i h_.Next]) wn (ef rfl rfl (I.g rfl)) I hm rfl rfl fun a bY w _ I hm=>cz (cs:=[.q aS aV aa.aG,.q bk bl aa.aE,.q bg bj aa.Fields,.q bz bA aa.Names,.q bD bE aa.aD]) wn (ef rfl rfl (I.g rfl)) I hm rfl rfl fun a cx w _ I hm=>?_
 refine cz (cs:=[.slice none 0 0,.i 0,.i 0,.i 0,.i 0,.slice none 0 0,.i 0]) wn (eL Tryz.zeroValue24 rfl rfl) I hm rfl rfl fun a kl w _ I hm=>wpList_nil <| c2 _ _ <| wp_seq_k fun K bO=>aZ <| bf 1 [0,0] [(12,.agg #[.q ag ah h_.Words,.i h_.aq,.i h_.aA,.i h_.aP,.i h_.aM,.q aJ aQ h_.au,.i h_.Next])] [bY,0] (ay (a1 (hm.e 2 rfl)) ax) I fun a I=>?_;obtain ⟨bx,AD,h⟩:=J.aI h;have hc:=hm
 refine bR (vs:=[.agg #[.q ag ah h_.Words,.i h_.aq,.i h_.aA,.i h_.aP,.i h_.aM,.q aJ aQ h_.au,.i h_.Next]]) wn rfl Tryz.call56 ⟨(I.g rfl),trivial⟩ (ajJ ((hc.into 0).pick ⟨⟨0,rfl⟩,⟨1,rfl⟩,trivial⟩) AD) I rfl rfl ?_;rintro _ w ⟨dB,dG,nq,eA,eE,ka,rfl,af⟩;refine ⟨_,rfl,fun a I=>?_⟩;have hm:=hc.back 0 af;clear af hc;refine cA (vs:=[.q dB dG bx.Words,.i bx.aq,.i bx.aA,.i bx.aP,.i bx.aM,.q eA eE bx.au,.i bx.Next]) 4 hm rfl wn rfl Tryz.sizeOf24 rfl rfl rfl rfl (I.g rfl) (I.g rfl) rfl ?_
 intro w hm;refine wpList_nil <| bO _ _ <| wp_seq_k fun K cc=>aZ <| bf 7 [0,0] [(15,.q dB dG bx.Words),(19,.i (J.av ((J.av (at_+ 3))+bS))),(20,.i et)] [bY,0] (ay (a1 (hm.e 4 rfl)) ax) I fun a I=>?_;obtain ⟨ahh,aeI,h⟩:=J.aI h;obtain ⟨amJ,axB,_,rfl,ath⟩:=gk (hm.e 0 rfl) (hm.d 0 rfl) aeI;refine bU wn (bI Tryz.underlying22 Tryz.sizeOf3 rfl (I.g rfl) (I.g rfl) amJ axB) I rfl rfl fun a I=>?_;obtain ⟨g6,azU,h⟩:=J.aI h
 refine qy (T:=(ai .i64)) (d':=et) (vs:=[.i et]) (cs0:=[.i ahh]) (kk:=0) 0 0 azU hm rfl rfl aeI rfl ath wn rfl Tryz.sizeOf3 rfl rfl rfl rfl rfl (I.g rfl) (I.g rfl) rfl fun v5 w hlen ad hm=>?_;try unfold Value.q at hm;try unfold Value.q at I;rw [hlen] at hm;try rw [hlen] at I;clear hlen;clear ad;refine wpList_nil ?_;have I:=I.cut (l':=[(2,.i at_),(3,.i bS),(4,.i et),(5,.aK bY),(6,.aK cx),(10,.aK kl)]);refine cc _ _ <| wp_seq_k fun K cT=>wp_seq_k fun K cn=>g1 (m:=27) 27 (a7 []) (by kernel_rfl) rfl fun w ad=>?_;have hm:=hm.dz ad;clear ad;have a8:=hm;have ar:=a7.refl [] w
 refine b7 [0,1,2,3,6] 5 [0,0,1,0] [(22,.agg #[.q aS aV aa.aG,.q bk bl aa.aE,.q bg bj aa.Fields,.q bz bA aa.Names,.q bD bE aa.aD]),(24,.q dB dG g6),(25,.i at_),(28,.i bS)] [bY,0,cx,0] (fun a5 ad=>(ay (b6 ad (a1 (a8.e 3 rfl))) (ay (b6 ad (a1 (a8.e 4 rfl))) ax))) I ar fun a I=>?_;obtain ⟨Oq,aDQ,h⟩:=J.aI h;obtain ⟨am2,axV,_,rfl,atA⟩:=gk (a8.e 0 rfl) (a8.d 0 rfl) aDQ;refine eM 4 rfl (by kernel_rfl) wn (fun a5=>bI Tryz.underlying22 Tryz.sizeOf3 rfl (I.g rfl) (I.g rfl) am2 axV) ar I rfl rfl fun a I=>?_
 refine b7 [5] 1 [0,0] [(27,.i Oq)] [bG dB,bH dB+(at_).toNat* 1] (fun a5 ad=>(ay (b6 ad atA) ax)) I ar fun a I=>cy 7 rfl (by kernel_rfl) (fun _=>ar) ?_;obtain ⟨Nv,aBF,h⟩:=J.aI h;have hc:=hm;refine bR (vs:=[.agg #[.q aS aV aa.aG,.q bk bl aa.aE,.q bg bj aa.Fields,.q bz bA aa.Names,.q bD bE aa.aD],.i Oq,.i bS]) wn rfl Tryz.call26 ⟨(I.g rfl),(I.g rfl),(I.g rfl),trivial⟩ (Q6 ((hc.into 0).pick ⟨⟨5,rfl⟩,⟨6,rfl⟩,⟨7,rfl⟩,⟨8,rfl⟩,⟨9,rfl⟩,trivial⟩) aBF) I rfl rfl ?_;rintro _ w ⟨rfl,af⟩;refine ⟨_,rfl,fun a I=>?_⟩;have ad:a7 [] _ w:=af.ev;have hm:=hc.back 0 af
 clear af hc;have ar:=eW ar ad;clear ad;refine cq <| b7 [8,9,10,11,12,13,14] 7 [0,0,0,0,1,0,0] [(36,.bool (Nv && (decide (bx.aq <at_))))] [bY,1] (fun a5 ad=>(ay (b6 ad (a1 (a8.e 4 rfl))) ax)) I ar fun a I=>?_;rcases Bool.eq_false_or_eq_true (Nv && (decide (bx.aq <at_))) with Hg | Hg
 · have h:=J.c5 Hg h;have I:=I.b1 36 rfl Hg;refine b7 [15,16,17] 3 [1,1,1,0,1] [(37,.i et),(39,.i bx.aq)] [bY,1] (fun a5 ad=>(ay (b6 ad (a1 (a8.e 4 rfl))) ax)) I ar fun a I=>cy 18 rfl (by kernel_rfl) (fun _=>ar) ?_;obtain ⟨Nw,aBI,h⟩:=J.aI h;have hc:=hm;refine bR (vs:=[.i et,.i 1,.i bx.aq]) (cS I rfl rfl rfl rfl) rfl Tryz.call41 ⟨(I.g rfl),(c0 _ _),(I.g rfl),trivial⟩ (nB ((hc.into 0).pick trivial) aBI) I rfl rfl ?_;rintro _ w ⟨rfl,af⟩;refine ⟨_,rfl,fun a I=>?_⟩;have ad:a7 [] _ w:=af.ev;have hm:=hc.back 0 af
   clear af hc;have ar:=eW ar ad;clear ad;refine cq <| b7 [19,20] 2 [1] [(42,.bool Nw)] [] (fun a5 ad=>ax) I ar fun a I=>?_;rcases Bool.eq_false_or_eq_true Nw with Hh | Hh
   · have h:=J.c5 Hh h;have I:=I.b1 42 rfl Hh;refine b7 [21,22,23] 3 [1,1,0,5,1] [(44,.q eA eE bx.au),(45,.i at_)] [bY,5] (fun a5 ad=>(ay (b6 ad (a1 (a8.e 4 rfl))) ax)) I ar fun a I=>cy 24 rfl (by kernel_rfl) (fun _=>ar) ?_;obtain ⟨Yf,aBL,h⟩:=J.aI h;have hc:=hm;have az:=hc.freeze 1 2 rfl rfl;refine bR (vs:=[.q eA eE bx.au,.i at_]) (cS I rfl rfl rfl rfl) rfl Tryz.call42 ⟨(I.g rfl),(I.g rfl),trivial⟩ (zP ((az.into 0).pick ⟨⟨0,rfl⟩,trivial⟩) aBL) I rfl rfl ?_;rintro _ w ⟨rfl,af⟩;refine ⟨_,rfl,fun a I=>?_⟩;have ad:a7 [] _ w:=af.ev;have hm:=hc.fS 0 (by exact trivial) af
     clear af hc az;have ar:=eW ar ad;clear ad;refine cq <| b7 [25,26] 2 [1,1] [(48,.bool (!Yf))] [] (fun a5 ad=>ax) I ar fun a I=>eU (by kernel_rfl) ?_ (fun _=>ar);clear a8 ar;refine cn _ _ <| bn (I.g rfl) h (fun R' h=>?_) (fun R' h=>?_)
     · refine bd [] [(11,.i 0)] I fun a I=>wp_seq_k fun K dm=>?_;obtain ⟨WU,h,Uu⟩:=J.aI h
       refine cd (fun a w=>∃ (g8:Int),Fr ⟨80,[]⟩ [(2,.i at_),(5,.aK bY),(10,.aK kl),(11,.i g8)] a/\aw W M0 X w [ap.row 3 1 (.q dB dG g6) g6 v5,ap.row 3 1 (.q eA eE bx.au) bx.au ka,ap.bm kl 24 [.slice none 0 0,.i 0,.i 0,.i 0,.i 0,.slice none 0 0,.i 0],ap.bm cx 30 [.q aS aV aa.aG,.q bk bl aa.aE,.q bg bj aa.Fields,.q bz bA aa.Names,.q bD bE aa.aD],ap.bm bY 24 [.q dB dG g6,.i bx.aq,.i bx.aA,.i bx.aP,.i bx.aM,.q eA eE bx.au,.i bx.Next]] [ak.rows (ai .i64) v5 g6,ak.rows (ai .i64) ka bx.au,U (ai .i64) ag ah h_.Words,U (ai .i64) aJ aQ h_.au,U J.bc aS aV aa.aG,U (ai .i64) bk bl aa.aE,U (aH J.aW) bg bj aa.Fields,U (aH bF) bz bA aa.Names,U (aH J.bV) bD bE aa.aD]/\WU=g8) (fun K cM=>?_) ?_
       · clear Uu
         refine cB (fun (bw:Nat) a w=>∃ (kX:Int),Fr ⟨80,[]⟩ [(2,.i at_),(5,.aK bY),(10,.aK kl),(11,.i kX)] a/\aw W M0 X w [ap.row 3 1 (.q dB dG g6) g6 v5,ap.row 3 1 (.q eA eE bx.au) bx.au ka,ap.bm kl 24 [.slice none 0 0,.i 0,.i 0,.i 0,.i 0,.slice none 0 0,.i 0],ap.bm cx 30 [.q aS aV aa.aG,.q bk bl aa.aE,.q bg bj aa.Fields,.q bz bA aa.Names,.q bD bE aa.aD],ap.bm bY 24 [.q dB dG g6,.i bx.aq,.i bx.aA,.i bx.aP,.i bx.aM,.q eA eE bx.au,.i bx.Next]] [ak.rows (ai .i64) v5 g6,ak.rows (ai .i64) ka bx.au,U (ai .i64) ag ah h_.Words,U (ai .i64) aJ aQ h_.au,U J.bc aS aV aa.aG,U (ai .i64) bk bl aa.aE,U (aH J.aW) bg bj aa.Fields,U (aH bF) bz bA aa.Names,U (aH J.bV) bD bE aa.aD]/\J.tE at_ bx bw kX=some WU) F ⟨0,I.cut,hm.eg [0,2,3,4,5,6,7,8,9],h⟩ ?_ ?_
         · rintro a w ⟨kX,I,hm,h⟩;exact absurd h (by simp [J.tE])
         rintro bw a w ⟨kX,I,hm,h⟩ K dj;rw [J.tE] at h;refine wp_seq_k fun K df=>wp_seq_k fun K dy=>aZ <| bf 6 [0,5] [(54,.bool (decide (kX <(bx.au.length:Int))))] [bY,5] (ay (a1 (hm.e 4 rfl)) ax) I fun a I=>?_;rcases Bool.eq_false_or_eq_true (decide (kX <(bx.au.length:Int))) with Hz | Hz
         · have h:=J.c5 Hz h;have I:=I.b1 54 rfl Hz;refine bf 3 [1,1,0,5,1] [(56,.q eA eE bx.au),(57,.i kX)] [bY,5] (ay (a1 (hm.e 4 rfl)) ax) I fun a I=>?_;obtain ⟨Zf,aFn,h⟩:=J.aI h;obtain ⟨aoy,awK,_,rfl,aso⟩:=gk (hm.e 1 rfl) (hm.d 1 rfl) aFn;refine bU (cS I rfl rfl rfl rfl) (bI Tryz.underlying22 Tryz.sizeOf3 rfl (I.g rfl) (I.g rfl) aoy awK) I rfl rfl fun a I=>bf 4 [1,0,0,1,1,1] [(62,.bool (decide (Zf <at_)))] [bG eA,bH eA+(kX).toNat* 1] (ay aso ax) I fun a I=>wpList_nil (dy _ _ ?_);refine bn (I.g rfl) h (fun apD h=>?_) (fun apD h=>?_)
           · refine wp_skip <| df _ _ <| wp_block <| cg [] [(11,.i (J.av (kX+ 1)))] I fun a I=>?_;exact dj _ _ ⟨J.av (kX+ 1),I.cut,hm,h⟩
           refine wp_exit <| bC (bC (cv ?_));exact cM _ _ ⟨kX,I.cut,hm,(os h)⟩
         have h:=J.c4 Hz h;have I:=I.b1 54 rfl Hz;refine aN 8 [1,1,1,1,1,1,1,1] [(62,.bool false)] I fun a I=>wpList_nil (dy _ _ ?_);refine g2 (I.g rfl) rfl <| wp_exit <| bC (bC (cv ?_));exact cM _ _ ⟨kX,I.cut,hm,(os h)⟩
       rintro a w ⟨g8,I,hm,bb⟩;subst WU;have h:=Uu;clear Uu;refine dm _ _ <| g1 (m:=15) 12 (a7 []) (by kernel_rfl) rfl fun w ad=>?_;have hm:=hm.dz ad;clear ad;have a8:=hm;have ar:=a7.refl [] w;refine b7 [0,1,2,3,5,7,8,9] 8 [0,5,0,5] [(66,.q eA eE bx.au),(67,.i g8),(68,.i g8),(70,.i at_),(73,.q eA eE bx.au),(74,.i g8)] [bY,5,bY,5] (fun a5 ad=>(ay (b6 ad (a1 (a8.e 4 rfl))) ax)) I ar fun a I=>?_;have hm:=hm.freeze 1 1 rfl rfl;obtain ⟨My,azu,h⟩:=J.aI h;obtain ⟨ahY,avc,aFs⟩:=akS (T:=(ai .i64)) (j:=g8) (hm.d 0 rfl) azu
       have hm:=hm.more (y:=U (ai .i64) ahY My.length My) avc;refine eM 4 rfl (by kernel_rfl) wn (fun a5=>aFs Tryz.underlying22 Tryz.sizeOf3 rfl (I.g rfl) (I.g rfl) (I.g rfl) _) ar I rfl rfl fun a I=>?_;obtain ⟨W9,azx,h⟩:=J.aI h;obtain ⟨ahZ,aiW,avd,aFt⟩:=Lx (T:=(ai .i64)) (i:=g8) (j:=(bx.au.length:Int)) (hm.d 1 rfl) azx;have hm:=hm.more (y:=U (ai .i64) ahZ aiW W9) avd;refine eM 10 rfl (by kernel_rfl) wn (fun a5=>aFt Tryz.underlying22 Tryz.sizeOf3 rfl (I.g rfl) (.inr ⟨_,rfl,(I.g rfl)⟩) (.inl ⟨rfl,rfl⟩) _) ar I rfl rfl fun a I=>cy 6 rfl (by kernel_rfl) (fun _=>ar) ?_
       refine nW (cs:=[.i at_]) wn (fU (vs:=[(0,.i at_)]) Tryz.underlying22 Tryz.sizeOf3 Tryz.zeroValue3 rfl rfl rfl ⟨⟨(I.g rfl),rfl⟩,trivial⟩ (by kernel_rfl)) I hm rfl rfl fun a aKR w ad SF I hm=>?_;have SF:=Nat.le_trans ar.size SF;have ar:=eW ar ad;clear ad;refine cq <| cy 11 rfl (by kernel_rfl) (fun _=>ar) ?_;obtain ⟨W',azz,h⟩:=J.aI h;have hm:=hm.jC (sz:=1) 0 [at_] rfl rfl rfl rfl;have hm:=hm.more (y:=ak.rows (ai .i64) [.i at_] [at_]) ⟨_,_,rfl,rfl,rfl⟩;refine I1 (T:=(ai .i64)) 0 0 1 hm rfl rfl rfl Tryz.underlying22 jb rfl rfl azz rfl wn rfl (I.g rfl) (I.g rfl) I rfl rfl fun a aJ1 aKh aLC w ad I hm=>?_
       have ar:=q9 ar ad SF;clear ad;refine cq <| cy 12 rfl (by kernel_rfl) (fun _=>ar) ?_;obtain ⟨_,aAy,h⟩:=J.aI h;obtain ⟨lp,azA,h⟩:=J.aI h;have hm:=hm.freeze 0 0 rfl rfl;refine aHQ (T:=(ai .i64)) 4 0 hm rfl rfl Tryz.underlying22 jb rfl rfl azA (J.aGt aAy) rfl wn rfl (I.g rfl) (I.g rfl) I rfl rfl fun a BE Cm aIH w _ I hm=>cq ?_;clear a8 ar;have a8:=hm;have ar:=a7.refl [] w;refine dT.next 14 (a7 [] w) (by kernel_rfl) <| b7 [13] 1 [] [(78,.pointer (some ⟨bY,5,none⟩))] [] (fun a5 ad=>ax) I ar fun a I=>cy 14 rfl (by kernel_rfl) (fun _=>ar) ?_
       refine cA (vs:=[.q BE Cm lp]) 4 hm rfl wn rfl Tryz.sizeOf22 rfl rfl rfl rfl (I.g rfl) (I.g rfl) rfl fun w hm=>cq ?_;clear a8 ar;have a8:=hm;have ar:=a7.refl [] w;refine dT.next 15 (a7 [] w) (by kernel_rfl) <| eU (by kernel_rfl) ?_ (fun _=>ar);clear a8 ar;refine cT _ _ <| wp_seq_k fun K dO=>aZ <| bf 1 [0,0] [(79,.agg #[.q dB dG g6,.i bx.aq,.i bx.aA,.i bx.aP,.i bx.aM,.q BE Cm lp,.i bx.Next])] [bY,0] (ay (a1 (hm.e 4 rfl)) ax) I fun a I=>?_
       refine cA (vs:=[.q dB dG g6,.i bx.aq,.i bx.aA,.i bx.aP,.i bx.aM,.q BE Cm lp,.i bx.Next]) 2 hm rfl wn rfl Tryz.sizeOf24 rfl rfl rfl rfl (I.g rfl) (I.g rfl) rfl fun w hm=>wpList_nil <| dO _ _ <| wp_ret ?_;obtain rfl:=aC h
       refine gA (vs:=[.agg #[.q dB dG g6,.i bx.aq,.i bx.aA,.i bx.aP,.i bx.aM,.q BE Cm lp,.i bx.Next]]) Tryz.results27 I ⟨⟨_,_,I.g rfl,.inl ⟨[.q dB dG g6,.i bx.aq,.i bx.aA,.i bx.aP,.i bx.aM,.q BE Cm lp,.i bx.Next],Tryz.isAgg24,Tryz.sizeOf24,gD (hm.e 2 rfl) 0 ⟨rfl,rfl,rfl,rfl,rfl,rfl,rfl,trivial⟩,rfl⟩⟩,trivial⟩ ?_;exact ⟨dB,dG,v5,BE,Cm,aIH,rfl,hm.aX [1,0] [7,0]⟩
     refine wp_skip <| cT _ _ <| wp_seq_k fun K dS=>aZ <| bf 1 [0,0] [(79,.agg #[.q dB dG g6,.i bx.aq,.i bx.aA,.i bx.aP,.i bx.aM,.q eA eE bx.au,.i bx.Next])] [bY,0] (ay (a1 (hm.e 4 rfl)) ax) I fun a I=>cA (vs:=[.q dB dG g6,.i bx.aq,.i bx.aA,.i bx.aP,.i bx.aM,.q eA eE bx.au,.i bx.Next]) 2 hm rfl wn rfl Tryz.sizeOf24 rfl rfl rfl rfl (I.g rfl) (I.g rfl) rfl fun w hm=>wpList_nil <| dS _ _ <| wp_ret ?_;obtain rfl:=aC h
     refine gA (vs:=[.agg #[.q dB dG g6,.i bx.aq,.i bx.aA,.i bx.aP,.i bx.aM,.q eA eE bx.au,.i bx.Next]]) Tryz.results27 I ⟨⟨_,_,I.g rfl,.inl ⟨[.q dB dG g6,.i bx.aq,.i bx.aA,.i bx.aP,.i bx.aM,.q eA eE bx.au,.i bx.Next],Tryz.isAgg24,Tryz.sizeOf24,gD (hm.e 2 rfl) 0 ⟨rfl,rfl,rfl,rfl,rfl,rfl,rfl,trivial⟩,rfl⟩⟩,trivial⟩ ?_;exact ⟨dB,dG,v5,eA,eE,ka,rfl,hm.aX [0,1] [0,2]⟩
   have h:=J.c4 Hh h;have I:=I.b1 42 rfl Hh;refine b7 [21,22,23] 3 [1,1,1] [(44,undef),(45,undef)] [] (fun a5 ad=>ax) I ar fun a I=>cy 24 rfl (by kernel_rfl) (fun _=>ar) <| aN 1 [1] [(46,undef)] I fun a I=>cq <| b7 [25,26] 2 [1,1] [(48,.bool false)] [] (fun a5 ad=>ax) I ar fun a I=>eU (by kernel_rfl) ?_ (fun _=>ar);clear a8 ar;refine cn _ _ <| g2 (I.g rfl) rfl <| wp_skip <| cT _ _ <| wp_seq_k fun K fo=>aZ ?_
   refine bf 1 [0,0] [(79,.agg #[.q dB dG g6,.i bx.aq,.i bx.aA,.i bx.aP,.i bx.aM,.q eA eE bx.au,.i bx.Next])] [bY,0] (ay (a1 (hm.e 4 rfl)) ax) I fun a I=>cA (vs:=[.q dB dG g6,.i bx.aq,.i bx.aA,.i bx.aP,.i bx.aM,.q eA eE bx.au,.i bx.Next]) 2 hm rfl wn rfl Tryz.sizeOf24 rfl rfl rfl rfl (I.g rfl) (I.g rfl) rfl fun w hm=>wpList_nil <| fo _ _ <| wp_ret ?_;obtain rfl:=aC h
   refine gA (vs:=[.agg #[.q dB dG g6,.i bx.aq,.i bx.aA,.i bx.aP,.i bx.aM,.q eA eE bx.au,.i bx.Next]]) Tryz.results27 I ⟨⟨_,_,I.g rfl,.inl ⟨[.q dB dG g6,.i bx.aq,.i bx.aA,.i bx.aP,.i bx.aM,.q eA eE bx.au,.i bx.Next],Tryz.isAgg24,Tryz.sizeOf24,gD (hm.e 2 rfl) 0 ⟨rfl,rfl,rfl,rfl,rfl,rfl,rfl,trivial⟩,rfl⟩⟩,trivial⟩ ?_;exact ⟨dB,dG,v5,eA,eE,ka,rfl,hm.aX [0,1] [0,2]⟩
 have h:=J.c4 Hg h;have I:=I.b1 36 rfl Hg;refine b7 [15,16,17] 3 [1,1,1] [(37,undef),(39,undef)] [] (fun a5 ad=>ax) I ar fun a I=>cy 18 rfl (by kernel_rfl) (fun _=>ar) <| aN 1 [1] [(40,undef)] I fun a I=>cq <| b7 [19,20,21,22,23] 5 [1,1,1,1] [(42,.bool false),(44,undef),(45,undef)] [] (fun a5 ad=>ax) I ar fun a I=>cy 24 rfl (by kernel_rfl) (fun _=>ar) <| aN 1 [1] [(46,undef)] I fun a I=>cq ?_
 refine b7 [25,26] 2 [1,1] [(48,.bool false)] [] (fun a5 ad=>ax) I ar fun a I=>eU (by kernel_rfl) ?_ (fun _=>ar);clear a8 ar;refine cn _ _ <| g2 (I.g rfl) rfl <| wp_skip <| cT _ _ <| wp_seq_k fun K fa=>aZ <| bf 1 [0,0] [(79,.agg #[.q dB dG g6,.i bx.aq,.i bx.aA,.i bx.aP,.i bx.aM,.q eA eE bx.au,.i bx.Next])] [bY,0] (ay (a1 (hm.e 4 rfl)) ax) I fun a I=>?_
 refine cA (vs:=[.q dB dG g6,.i bx.aq,.i bx.aA,.i bx.aP,.i bx.aM,.q eA eE bx.au,.i bx.Next]) 2 hm rfl wn rfl Tryz.sizeOf24 rfl rfl rfl rfl (I.g rfl) (I.g rfl) rfl fun w hm=>wpList_nil <| fa _ _ <| wp_ret ?_;obtain rfl:=aC h
 refine gA (vs:=[.agg #[.q dB dG g6,.i bx.aq,.i bx.aA,.i bx.aP,.i bx.aM,.q eA eE bx.au,.i bx.Next]]) Tryz.results27 I ⟨⟨_,_,I.g rfl,.inl ⟨[.q dB dG g6,.i bx.aq,.i bx.aA,.i bx.aP,.i bx.aM,.q eA eE bx.au,.i bx.Next],Tryz.isAgg24,Tryz.sizeOf24,gD (hm.e 2 rfl) 0 ⟨rfl,rfl,rfl,rfl,rfl,rfl,rfl,trivial⟩,rfl⟩⟩,trivial⟩ ?_;exact ⟨dB,dG,v5,eA,eE,ka,rfl,hm.aX [0,1] [0,2]⟩
end Go.Proofs.YtpkhpagplommoaaGreat
namespace J
def KE (F:Nat) (h_:bp) (aa:bt) (at_:Int) (bS:Int) (et:Int):Option (Bool):=
 (pA F (⟨h_.Words,h_.aq,h_.aA,h_.aP,h_.aM,h_.au,h_.Next⟩:bp) (⟨aa.aG,aa.aE,aa.Fields,aa.Names,aa.aD⟩:bt) at_ bS et).bind fun bX=>
 (zA F (⟨h_.Words,h_.aq,h_.aA,h_.aP,h_.aM,h_.au,h_.Next⟩:bp) (⟨aa.aG,aa.aE,aa.Fields,aa.Names,aa.aD⟩:bt)).bind fun kZ=>
 Option.bind (α:=Int) (cond (decide (kZ= 0)) ((tB F (⟨h_.Words,h_.aq,h_.aA,h_.aP,h_.aM,h_.au,h_.Next⟩:bp) (⟨aa.aG,aa.aE,aa.Fields,aa.Names,aa.aD⟩:bt) at_).bind fun X7=>
 cond (!X7) (some 5) (some kZ)) (some kZ)) fun (rE:Int)=>
 Option.bind (α:=Int) (cond (decide (rE= 0)) (cond (decide (bS < 0)) (some 3) ((idx h_.Words (av (at_+ 1))).bind fun ta=>
 cond (decide (ta<=bS)) (some 3) (some rE))) (some rE)) fun (o_:Int)=>
 Option.bind (α:=Int) (cond (decide (o_= 0)) ((idx h_.Words at_).bind fun O4=>
 (sm (⟨aa.aG,aa.aE,aa.Fields,aa.Names,aa.aD⟩:bt) O4 bS).bind fun j6=>
 cond (j6 && (!decide (et= 0))) ((tB F (⟨h_.Words,h_.aq,h_.aA,h_.aP,h_.aM,h_.au,h_.Next⟩:bp) (⟨aa.aG,aa.aE,aa.Fields,aa.Names,aa.aD⟩:bt) et).bind fun vI=>
 cond (!vI) (some 5) (some o_)) (some o_)) (some o_)) fun (rG:Int)=>
 Option.bind (α:=(List Int) × Int × Int × Int × Int × (List Int) × Int) (cond (decide (rG= 0)) ((Cc F (⟨h_.Words,h_.aq,h_.aA,h_.aP,h_.aM,h_.au,h_.Next⟩:bp) (⟨aa.aG,aa.aE,aa.Fields,aa.Names,aa.aD⟩:bt) at_ bS et).bind fun jn=>
 some (jn.Words,jn.aq,jn.aA,jn.aP,jn.aM,jn.au,jn.Next)) (some ([],0,0,0,0,[],0))) fun ((uS,yD,yE,yF,yG,uT,yH):(List Int) × Int × Int × Int × Int × (List Int) × Int)=>
 (ts F).bind fun A2=>
 cond (A2) ((qO F (⟨bX.1.Words,bX.1.aq,bX.1.aA,bX.1.aP,bX.1.aM,bX.1.au,bX.1.Next⟩:bp) bX.2 rG (⟨uS,yD,yE,yF,yG,uT,yH⟩:bp)).bind fun XL=>
 some XL) (some false)
end J
namespace Go.Proofs.YtpkhpagplommoaaGreat
open Go Go.RowKit a2
set_option maxHeartbeats 4000000
set_option maxRecDepth 20000
theorem ajs {W:World} {X:List Nat} {F:Nat} {h_:J.bp} {aa:J.bt} {at_:Int} {bS:Int} {et:Int} {r:Bool} {ag:aT} {ah:Nat} {aJ:aT} {aQ:Nat} {aS:aT} {aV:Nat} {bk:aT} {bl:Nat} {bg:aT} {bj:Nat} {bz:aT} {bA:Nat} {bD:aT} {bE:Nat} {M0:List Nat} (hm:aw W M0 X W [] [U (ai .i64) ag ah h_.Words,U (ai .i64) aJ aQ h_.au,U J.bc aS aV aa.aG,U (ai .i64) bk bl aa.aE,U (aH J.aW) bg bj aa.Fields,U (aH bF) bz bA aa.Names,U (aH J.bV) bD bE aa.aD]) (h:J.KE F h_ aa at_ bS et=some r) :
 Calls Tryz.prog 7 [.agg #[.q ag ah h_.Words,.i h_.aq,.i h_.aA,.i h_.aP,.i h_.aM,.q aJ aQ h_.au,.i h_.Next],.agg #[.q aS aV aa.aG,.q bk bl aa.aE,.q bg bj aa.Fields,.q bz bA aa.Names,.q bD bE aa.aD],.i at_,.i bS,.i et].toArray W (fun e aF=>e= .returned (.bool r)/\aw W M0 X aF [] []):=by
 refine enter Tryz.func7 rfl Tryz.ntmps7 rfl fun a I=>?_;rw [J.KE] at h;refine wp_seq_k fun K c2=>aZ <| cz (cs:=[.q ag ah h_.Words,.i h_.aq,.i h_.aA,.i h_.aP,.i h_.aM,.q aJ aQ h_.au,.i h_.Next]) wn (ef rfl rfl (I.g rfl)) I hm rfl rfl fun a bY w _ I hm=>cz (cs:=[.q aS aV aa.aG,.q bk bl aa.aE,.q bg bj aa.Fields,.q bz bA aa.Names,.q bD bE aa.aD]) wn (ef rfl rfl (I.g rfl)) I hm rfl rfl fun a cx w _ I hm=>aN 1 [] [] I fun a I=>wpList_nil (c2 _ _ ?_);refine wp_seq_k fun K bO=>?_
 refine aZ <| bf 5 [0,0,1,0] [(16,.agg #[.q ag ah h_.Words,.i h_.aq,.i h_.aA,.i h_.aP,.i h_.aM,.q aJ aQ h_.au,.i h_.Next]),(17,.agg #[.q aS aV aa.aG,.q bk bl aa.aE,.q bg bj aa.Fields,.q bz bA aa.Names,.q bD bE aa.aD]),(18,.i at_),(19,.i bS),(20,.i et)] [cx,0,bY,0] (ay (a1 (hm.e 1 rfl)) (ay (a1 (hm.e 0 rfl)) ax)) I fun a I=>?_;obtain ⟨bX,kt,h⟩:=J.aI h;have hc:=hm
 refine bR (vs:=[.agg #[.q ag ah h_.Words,.i h_.aq,.i h_.aA,.i h_.aP,.i h_.aM,.q aJ aQ h_.au,.i h_.Next],.agg #[.q aS aV aa.aG,.q bk bl aa.aE,.q bg bj aa.Fields,.q bz bA aa.Names,.q bD bE aa.aD],.i at_,.i bS,.i et]) wn rfl Tryz.call24 ⟨(I.g rfl),(I.g rfl),(I.g rfl),(I.g rfl),(I.g rfl),trivial⟩ (ack ((hc.into 0).pick ⟨⟨0,rfl⟩,⟨1,rfl⟩,⟨2,rfl⟩,⟨3,rfl⟩,⟨4,rfl⟩,⟨5,rfl⟩,⟨6,rfl⟩,trivial⟩) kt) I rfl rfl ?_;rintro _ w ⟨c9,dp,r4,js,ju,nq,rfl,af⟩;refine ⟨_,rfl,fun a I=>?_⟩;have ad:a7 [] _ w:=af.ev;have hm:=hc.back 0 af
 clear af hc;clear ad;refine aN 3 [] [(22,.agg #[.q c9 dp bX.1.Words,.i bX.1.aq,.i bX.1.aA,.i bX.1.aP,.i bX.1.aM,.q js ju bX.1.au,.i bX.1.Next]),(23,.i bX.2)] I fun a I=>cz (cs:=[.slice none 0 0,.i 0,.i 0,.i 0,.i 0,.slice none 0 0,.i 0]) wn (eL Tryz.zeroValue24 rfl rfl) I hm rfl rfl fun a sy w _ I hm=>?_
 refine cA (vs:=[.q c9 dp bX.1.Words,.i bX.1.aq,.i bX.1.aA,.i bX.1.aP,.i bX.1.aM,.q js ju bX.1.au,.i bX.1.Next]) 0 hm rfl wn rfl Tryz.sizeOf24 rfl rfl rfl rfl (I.g rfl) (I.g rfl) rfl fun w hm=>aN 1 [] [(12,.i bX.2)] I fun a I=>wpList_nil (bO _ _ ?_);refine wp_seq_k fun K cc=>aZ ?_
 refine bf 2 [0,0,1,0] [(24,.agg #[.q ag ah h_.Words,.i h_.aq,.i h_.aA,.i h_.aP,.i h_.aM,.q aJ aQ h_.au,.i h_.Next]),(25,.agg #[.q aS aV aa.aG,.q bk bl aa.aE,.q bg bj aa.Fields,.q bz bA aa.Names,.q bD bE aa.aD])] [cx,0,bY,0] (ay (a1 (hm.e 4 rfl)) (ay (a1 (hm.e 3 rfl)) ax)) I fun a I=>?_;obtain ⟨kZ,H',h⟩:=J.aI h;have hc:=hm
 refine bR (vs:=[.agg #[.q ag ah h_.Words,.i h_.aq,.i h_.aA,.i h_.aP,.i h_.aM,.q aJ aQ h_.au,.i h_.Next],.agg #[.q aS aV aa.aG,.q bk bl aa.aE,.q bg bj aa.Fields,.q bz bA aa.Names,.q bD bE aa.aD]]) wn rfl Tryz.call18 ⟨(I.g rfl),(I.g rfl),trivial⟩ (ajD ((hc.into 0).pick ⟨⟨2,rfl⟩,⟨3,rfl⟩,⟨4,rfl⟩,⟨5,rfl⟩,⟨6,rfl⟩,⟨7,rfl⟩,⟨8,rfl⟩,trivial⟩) H') I rfl rfl ?_;rintro _ w ⟨rfl,af⟩;refine ⟨_,rfl,fun a I=>?_⟩;have hm:=hc.back 0 af;clear af hc
 refine bU wn (gm (vs:=[]) (cs:=[.slice none 0 0,.i 0,.i 0,.i 0,.i 0,.slice none 0 0,.i 0]) Tryz.zeroValue24 Tryz.underlying24 rK rfl trivial (by kernel_rfl)) I rfl rfl fun a I=>cz (cs:=[.slice none 0 0,.i 0,.i 0,.i 0,.i 0,.slice none 0 0,.i 0]) wn (eL Tryz.zeroValue24 rfl rfl) I hm rfl rfl fun a pw w _ I hm=>aN 1 [] [(13,.i kZ)] I fun a I=>cA (vs:=[.slice none 0 0,.i 0,.i 0,.i 0,.i 0,.slice none 0 0,.i 0]) 0 hm rfl wn rfl Tryz.sizeOf24 rfl rfl rfl rfl (I.g rfl) (I.g rfl) rfl fun w hm=>wpList_nil ?_
 refine cc _ _ ?_;obtain ⟨afr,h,TC⟩:=J.aI h
 refine q6 (fun a w=>∃ (rE:Int),Fr ⟨92,[]⟩ [(2,.i at_),(3,.i bS),(4,.i et),(5,.aK bY),(6,.aK cx),(11,.aK sy),(12,.i bX.2),(13,.i rE),(14,.aK pw)] a/\aw W M0 X w [ap.bm pw 24 [.slice none 0 0,.i 0,.i 0,.i 0,.i 0,.slice none 0 0,.i 0],ap.bm sy 24 [.q c9 dp bX.1.Words,.i bX.1.aq,.i bX.1.aA,.i bX.1.aP,.i bX.1.aM,.q js ju bX.1.au,.i bX.1.Next],ap.row 3 1 (.q c9 dp bX.1.Words) bX.1.Words r4,ap.row 3 1 (.q js ju bX.1.au) bX.1.au nq,ap.bm cx 30 [.q aS aV aa.aG,.q bk bl aa.aE,.q bg bj aa.Fields,.q bz bA aa.Names,.q bD bE aa.aD],ap.bm bY 24 [.q ag ah h_.Words,.i h_.aq,.i h_.aA,.i h_.aP,.i h_.aM,.q aJ aQ h_.au,.i h_.Next]] [ak.rows (ai .i64) r4 bX.1.Words,ak.rows (ai .i64) nq bX.1.au,U (ai .i64) ag ah h_.Words,U (ai .i64) aJ aQ h_.au,U J.bc aS aV aa.aG,U (ai .i64) bk bl aa.aE,U (aH J.aW) bg bj aa.Fields,U (aH bF) bz bA aa.Names,U (aH J.bV) bD bE aa.aD]/\afr=rE) (fun K cT=>?_) ?_
 · clear TC;refine wp_seq_k fun K cn=>aZ <| aN 3 [] [(30,.bool (decide (kZ= 0)))] I fun a I=>?_;rcases Bool.eq_false_or_eq_true (decide (kZ= 0)) with Af | Af
   · have h:=J.c5 Af h;have I:=I.b1 30 rfl Af;refine bf 3 [1,0,0,1,1,0,1] [(31,.agg #[.q ag ah h_.Words,.i h_.aq,.i h_.aA,.i h_.aP,.i h_.aM,.q aJ aQ h_.au,.i h_.Next]),(32,.agg #[.q aS aV aa.aG,.q bk bl aa.aE,.q bg bj aa.Fields,.q bz bA aa.Names,.q bD bE aa.aD]),(33,.i at_)] [cx,0,bY,0] (ay (a1 (hm.e 5 rfl)) (ay (a1 (hm.e 4 rfl)) ax)) I fun a I=>?_;obtain ⟨X7,aBu,h⟩:=J.aI h;have hc:=hm
     refine bR (vs:=[.agg #[.q ag ah h_.Words,.i h_.aq,.i h_.aA,.i h_.aP,.i h_.aM,.q aJ aQ h_.au,.i h_.Next],.agg #[.q aS aV aa.aG,.q bk bl aa.aE,.q bg bj aa.Fields,.q bz bA aa.Names,.q bD bE aa.aD],.i at_]) (cS I rfl rfl rfl rfl) rfl Tryz.call25 ⟨(I.g rfl),(I.g rfl),(I.g rfl),trivial⟩ (aca ((hc.into 0).pick ⟨⟨2,rfl⟩,⟨3,rfl⟩,⟨4,rfl⟩,⟨5,rfl⟩,⟨6,rfl⟩,⟨7,rfl⟩,⟨8,rfl⟩,trivial⟩) aBu) I rfl rfl ?_;rintro _ w ⟨rfl,af⟩;refine ⟨_,rfl,fun a I=>?_⟩;have hm:=hc.back 0 af;clear af hc
     refine aN 2 [1,1] [(36,.bool (!X7))] I fun a I=>wpList_nil (cn _ _ ?_);refine bn (I.g rfl) h (fun R8 h=>?_) (fun R8 h=>?_)
     · refine cg [] [(13,.i 5)] I fun a I=>?_;exact cT _ _ ⟨5,I.cut,hm,(os h)⟩
     refine wp_skip ?_;exact cT _ _ ⟨kZ,I.cut,hm,(os h)⟩
   have h:=J.c4 Af h;have I:=I.b1 30 rfl Af;refine aN 6 [1,1,1,1,1,1] [(36,.bool false)] I fun a I=>wpList_nil (cn _ _ ?_);refine g2 (I.g rfl) rfl <| wp_skip ?_;exact cT _ _ ⟨kZ,I.cut,hm,(os h)⟩
 rintro a w ⟨rE,I,hm,bb⟩;subst afr;have h:=TC;clear TC;obtain ⟨afA,h,TZ⟩:=J.aI h
 refine q6 (fun a w=>∃ (o_:Int),Fr ⟨92,[]⟩ [(2,.i at_),(3,.i bS),(4,.i et),(5,.aK bY),(6,.aK cx),(11,.aK sy),(12,.i bX.2),(13,.i o_),(14,.aK pw)] a/\aw W M0 X w [ap.bm pw 24 [.slice none 0 0,.i 0,.i 0,.i 0,.i 0,.slice none 0 0,.i 0],ap.bm sy 24 [.q c9 dp bX.1.Words,.i bX.1.aq,.i bX.1.aA,.i bX.1.aP,.i bX.1.aM,.q js ju bX.1.au,.i bX.1.Next],ap.row 3 1 (.q c9 dp bX.1.Words) bX.1.Words r4,ap.row 3 1 (.q js ju bX.1.au) bX.1.au nq,ap.bm cx 30 [.q aS aV aa.aG,.q bk bl aa.aE,.q bg bj aa.Fields,.q bz bA aa.Names,.q bD bE aa.aD],ap.bm bY 24 [.q ag ah h_.Words,.i h_.aq,.i h_.aA,.i h_.aP,.i h_.aM,.q aJ aQ h_.au,.i h_.Next]] [ak.rows (ai .i64) r4 bX.1.Words,ak.rows (ai .i64) nq bX.1.au,U (ai .i64) ag ah h_.Words,U (ai .i64) aJ aQ h_.au,U J.bc aS aV aa.aG,U (ai .i64) bk bl aa.aE,U (aH J.aW) bg bj aa.Fields,U (aH bF) bz bA aa.Names,U (aH J.bV) bD bE aa.aD]/\afA=o_) (fun K dK=>?_) ?_
 · clear TZ;refine wp_seq_k fun K dm=>aZ <| aN 3 [] [(39,.bool (decide (rE= 0)))] I fun a I=>?_;rcases Bool.eq_false_or_eq_true (decide (rE= 0)) with Ag | Ag
   · have h:=J.c5 Ag h;have I:=I.b1 39 rfl Ag;refine aN 3 [1,1,1] [(42,.bool (decide (bS < 0)))] I fun a I=>?_;rcases Bool.eq_false_or_eq_true (decide (bS < 0)) with lg | lg
     · have h:=J.c5 lg h;have I:=I.b1 42 rfl lg;refine aN 10 [1,1,1,1,1,1,1,1,1,1,1] [(52,.bool true)] I fun a I=>wpList_nil (dm _ _ ?_);refine eJ (I.g rfl) rfl <| cg [] [(13,.i 3)] I fun a I=>?_;exact dK _ _ ⟨3,I.cut,hm,(os h)⟩
     have h:=J.c4 lg h;have I:=I.b1 42 rfl lg;refine bf 5 [1,1,1,0,0,1,1] [(43,.i bS),(45,.q ag ah h_.Words),(47,.i (J.av (at_+ 1)))] [bY,0] (ay (a1 (hm.e 5 rfl)) ax) I fun a I=>?_;obtain ⟨ta,Vp,h⟩:=J.aI h;obtain ⟨RK,SY,_,rfl,Sr⟩:=b3 _ (hm.d 2 rfl) Vp;refine bU (cS I rfl rfl rfl rfl) (bI Tryz.underlying22 Tryz.sizeOf3 rfl (I.g rfl) (I.g rfl) RK SY) I rfl rfl fun a I=>bf 4 [1,0,0,1,1,1,1] [(52,.bool (decide (ta<=bS)))] [bG ag,bH ag+(J.av (at_+ 1)).toNat* 1] (ay Sr ax) I fun a I=>wpList_nil (dm _ _ ?_);refine bn (I.g rfl) h (fun Sa h=>?_) (fun Sa h=>?_)
     · refine cg [] [(13,.i 3)] I fun a I=>?_;exact dK _ _ ⟨3,I.cut,hm,(os h)⟩
     refine wp_skip ?_;exact dK _ _ ⟨rE,I.cut,hm,(os h)⟩
   have h:=J.c4 Ag h;have I:=I.b1 39 rfl Ag;refine aN 13 [1,1,1,1,1,1,1,1,1,1,1,1,1] [(52,.bool false)] I fun a I=>wpList_nil (dm _ _ ?_);refine g2 (I.g rfl) rfl <| wp_skip ?_;exact dK _ _ ⟨rE,I.cut,hm,(os h)⟩
 rintro a w ⟨o_,I,hm,bb⟩;subst afA;have h:=TZ;clear TZ;obtain ⟨afM,h,Us⟩:=J.aI h
 refine q6 (fun a w=>∃ (rG:Int),Fr ⟨92,[]⟩ [(2,.i at_),(3,.i bS),(4,.i et),(5,.aK bY),(6,.aK cx),(11,.aK sy),(12,.i bX.2),(13,.i rG),(14,.aK pw)] a/\aw W M0 X w [ap.bm pw 24 [.slice none 0 0,.i 0,.i 0,.i 0,.i 0,.slice none 0 0,.i 0],ap.bm sy 24 [.q c9 dp bX.1.Words,.i bX.1.aq,.i bX.1.aA,.i bX.1.aP,.i bX.1.aM,.q js ju bX.1.au,.i bX.1.Next],ap.row 3 1 (.q c9 dp bX.1.Words) bX.1.Words r4,ap.row 3 1 (.q js ju bX.1.au) bX.1.au nq,ap.bm cx 30 [.q aS aV aa.aG,.q bk bl aa.aE,.q bg bj aa.Fields,.q bz bA aa.Names,.q bD bE aa.aD],ap.bm bY 24 [.q ag ah h_.Words,.i h_.aq,.i h_.aA,.i h_.aP,.i h_.aM,.q aJ aQ h_.au,.i h_.Next]] [ak.rows (ai .i64) r4 bX.1.Words,ak.rows (ai .i64) nq bX.1.au,U (ai .i64) ag ah h_.Words,U (ai .i64) aJ aQ h_.au,U J.bc aS aV aa.aG,U (ai .i64) bk bl aa.aE,U (aH J.aW) bg bj aa.Fields,U (aH bF) bz bA aa.Names,U (aH J.bV) bD bE aa.aD]/\afM=rG) (fun K cM=>?_) ?_
 · clear Us;refine wp_seq_k fun K dj=>g1 (m:=23) 23 (a7 []) (by kernel_rfl) rfl fun w ad=>?_;have hm:=hm.dz ad;clear ad;have a8:=hm;have ar:=a7.refl [] w;refine b7 [0,1,2] 3 [] [(55,.bool (decide (o_= 0)))] [] (fun a5 ad=>ax) I ar fun a I=>?_;rcases Bool.eq_false_or_eq_true (decide (o_= 0)) with Hr | Hr
   · have h:=J.c5 Hr h;have I:=I.b1 55 rfl Hr;refine b7 [3,4,5,6,9] 5 [1,0,0,1,1,1,0,1,1] [(56,.agg #[.q aS aV aa.aG,.q bk bl aa.aE,.q bg bj aa.Fields,.q bz bA aa.Names,.q bD bE aa.aD]),(58,.q ag ah h_.Words),(59,.i at_),(62,.i bS)] [bY,0,cx,0] (fun a5 ad=>(ay (b6 ad (a1 (a8.e 4 rfl))) (ay (b6 ad (a1 (a8.e 5 rfl))) ax))) I ar fun a I=>?_;obtain ⟨O4,aE2,h⟩:=J.aI h;obtain ⟨an',ay1,_,rfl,auI⟩:=b3 _ (a8.d 2 rfl) aE2
     refine eM 7 rfl (by kernel_rfl) (cS I rfl rfl rfl rfl) (fun a5=>bI Tryz.underlying22 Tryz.sizeOf3 rfl (I.g rfl) (I.g rfl) an' ay1) ar I rfl rfl fun a I=>b7 [8] 1 [1,0,0] [(61,.i O4)] [bG ag,bH ag+(at_).toNat* 1] (fun a5 ad=>(ay (b6 ad auI) ax)) I ar fun a I=>cy 10 rfl (by kernel_rfl) (fun _=>ar) ?_;obtain ⟨j6,Ic,h⟩:=J.aI h;have hc:=hm
     refine bR (vs:=[.agg #[.q aS aV aa.aG,.q bk bl aa.aE,.q bg bj aa.Fields,.q bz bA aa.Names,.q bD bE aa.aD],.i O4,.i bS]) (cS I rfl rfl rfl rfl) rfl Tryz.call26 ⟨(I.g rfl),(I.g rfl),(I.g rfl),trivial⟩ (Q6 ((hc.into 0).pick ⟨⟨4,rfl⟩,⟨5,rfl⟩,⟨6,rfl⟩,⟨7,rfl⟩,⟨8,rfl⟩,trivial⟩) Ic) I rfl rfl ?_;rintro _ w ⟨rfl,af⟩;refine ⟨_,rfl,fun a I=>?_⟩;have ad:a7 [] _ w:=af.ev;have hm:=hc.back 0 af;clear af hc;have ar:=eW ar ad;clear ad;refine cq ?_
     refine b7 [11,12,13,14,15,16] 6 [1,0,0,0] [(69,.bool (j6 && (!decide (et= 0))))] [] (fun a5 ad=>ax) I ar fun a I=>?_;rcases Bool.eq_false_or_eq_true (j6 && (!decide (et= 0))) with Ah | Ah
     · have h:=J.c5 Ah h;have I:=I.b1 69 rfl Ah;refine b7 [17,18,19] 3 [1,0,0,1,1,0,1] [(70,.agg #[.q ag ah h_.Words,.i h_.aq,.i h_.aA,.i h_.aP,.i h_.aM,.q aJ aQ h_.au,.i h_.Next]),(71,.agg #[.q aS aV aa.aG,.q bk bl aa.aE,.q bg bj aa.Fields,.q bz bA aa.Names,.q bD bE aa.aD]),(72,.i et)] [cx,0,bY,0] (fun a5 ad=>(ay (b6 ad (a1 (a8.e 5 rfl))) (ay (b6 ad (a1 (a8.e 4 rfl))) ax))) I ar fun a I=>cy 20 rfl (by kernel_rfl) (fun _=>ar) ?_;obtain ⟨vI,Va,h⟩:=J.aI h;have hc:=hm
       refine bR (vs:=[.agg #[.q ag ah h_.Words,.i h_.aq,.i h_.aA,.i h_.aP,.i h_.aM,.q aJ aQ h_.au,.i h_.Next],.agg #[.q aS aV aa.aG,.q bk bl aa.aE,.q bg bj aa.Fields,.q bz bA aa.Names,.q bD bE aa.aD],.i et]) (cS I rfl rfl rfl rfl) rfl Tryz.call25 ⟨(I.g rfl),(I.g rfl),(I.g rfl),trivial⟩ (aca ((hc.into 0).pick ⟨⟨2,rfl⟩,⟨3,rfl⟩,⟨4,rfl⟩,⟨5,rfl⟩,⟨6,rfl⟩,⟨7,rfl⟩,⟨8,rfl⟩,trivial⟩) Va) I rfl rfl ?_;rintro _ w ⟨rfl,af⟩;refine ⟨_,rfl,fun a I=>?_⟩;have ad:a7 [] _ w:=af.ev;have hm:=hc.back 0 af;clear af hc;have ar:=eW ar ad;clear ad
       refine cq <| b7 [21,22] 2 [1,1] [(75,.bool (!vI))] [] (fun a5 ad=>ax) I ar fun a I=>eU (by kernel_rfl) ?_ (fun _=>ar);clear a8 ar;refine dj _ _ <| bn (I.g rfl) h (fun Sd h=>?_) (fun Sd h=>?_)
       · refine cg [] [(13,.i 5)] I fun a I=>?_;exact cM _ _ ⟨5,I.cut,hm,(os h)⟩
       refine wp_skip ?_;exact cM _ _ ⟨o_,I.cut,hm,(os h)⟩
     have h:=J.c4 Ah h;have I:=I.b1 69 rfl Ah;refine b7 [17,18,19] 3 [1,1,1] [(70,undef),(71,undef),(72,undef)] [] (fun a5 ad=>ax) I ar fun a I=>cy 20 rfl (by kernel_rfl) (fun _=>ar) <| aN 1 [1] [(73,undef)] I fun a I=>cq <| b7 [21,22] 2 [1,1] [(75,.bool false)] [] (fun a5 ad=>ax) I ar fun a I=>eU (by kernel_rfl) ?_ (fun _=>ar);clear a8 ar;refine dj _ _ <| g2 (I.g rfl) rfl <| wp_skip ?_;exact cM _ _ ⟨o_,I.cut,hm,(os h)⟩
   have h:=J.c4 Hr h;have I:=I.b1 55 rfl Hr;refine b7 [3,4,5,6,7,8,9] 7 [1,1,1,1,1,1,1] [(56,undef),(61,undef),(62,undef)] [] (fun a5 ad=>ax) I ar fun a I=>cy 10 rfl (by kernel_rfl) (fun _=>ar) <| aN 1 [1] [(63,undef)] I fun a I=>cq <| b7 [11,12,13,14,15,16,17,18,19] 9 [1,1,1,1,1,1,1] [(69,.bool false),(70,undef),(71,undef),(72,undef)] [] (fun a5 ad=>ax) I ar fun a I=>cy 20 rfl (by kernel_rfl) (fun _=>ar) <| aN 1 [1] [(73,undef)] I fun a I=>cq ?_
   refine b7 [21,22] 2 [1,1] [(75,.bool false)] [] (fun a5 ad=>ax) I ar fun a I=>eU (by kernel_rfl) ?_ (fun _=>ar);clear a8 ar;refine dj _ _ <| g2 (I.g rfl) rfl <| wp_skip ?_;exact cM _ _ ⟨o_,I.cut,hm,(os h)⟩
 rintro a w ⟨rG,I,hm,bb⟩;subst afM;have h:=Us;clear Us;have hm:=hm.cU (α:=Int) 3 1;have hm:=hm.more (y:=ak.rows (ai .i64) [] []) rfl;have hm:=hm.cU (α:=Int) 3 1;have hm:=hm.more (y:=ak.rows (ai .i64) [] []) rfl;obtain ⟨afc,h,S7⟩:=J.aI h
 refine q6 (fun a w=>∃ (EF:aT) (Fz:Nat) (uS:eI) (yD:Int) (yE:Int) (yF:Int) (yG:Int) (EG:aT) (FA:Nat) (uT:eI) (yH:Int),Fr ⟨92,[]⟩ [(11,.aK sy),(12,.i bX.2),(13,.i rG),(14,.aK pw)] a/\aw W M0 X w [ap.row 3 1 (.slice none 0 0) ([]:eI) [],ap.row 3 1 (.slice none 0 0) ([]:eI) [],ap.bm pw 24 [.q EF Fz uS,.i yD,.i yE,.i yF,.i yG,.q EG FA uT,.i yH],ap.bm sy 24 [.q c9 dp bX.1.Words,.i bX.1.aq,.i bX.1.aA,.i bX.1.aP,.i bX.1.aM,.q js ju bX.1.au,.i bX.1.Next],ap.row 3 1 (.q c9 dp bX.1.Words) bX.1.Words r4,ap.row 3 1 (.q js ju bX.1.au) bX.1.au nq,ap.bm cx 30 [.q aS aV aa.aG,.q bk bl aa.aE,.q bg bj aa.Fields,.q bz bA aa.Names,.q bD bE aa.aD],ap.bm bY 24 [.q ag ah h_.Words,.i h_.aq,.i h_.aA,.i h_.aP,.i h_.aM,.q aJ aQ h_.au,.i h_.Next]] [U (ai .i64) EF Fz uS,U (ai .i64) EG FA uT,ak.rows (ai .i64) [] [],ak.rows (ai .i64) r4 bX.1.Words,ak.rows (ai .i64) nq bX.1.au,U (ai .i64) ag ah h_.Words,U (ai .i64) aJ aQ h_.au,U J.bc aS aV aa.aG,U (ai .i64) bk bl aa.aE,U (aH J.aW) bg bj aa.Fields,U (aH bF) bz bA aa.Names,U (aH J.bV) bD bE aa.aD]/\afc=(uS,yD,yE,yF,yG,uT,yH)) (fun K df=>?_) ?_
 · clear S7;refine bd [] [(77,.bool (decide (rG= 0)))] I fun a I=>bn (I.g rfl) h (fun apR h=>?_) (fun apR h=>?_)
   · refine aZ <| bf 5 [0,0,1,0] [(78,.agg #[.q ag ah h_.Words,.i h_.aq,.i h_.aA,.i h_.aP,.i h_.aM,.q aJ aQ h_.au,.i h_.Next]),(79,.agg #[.q aS aV aa.aG,.q bk bl aa.aE,.q bg bj aa.Fields,.q bz bA aa.Names,.q bD bE aa.aD]),(80,.i at_),(81,.i bS),(82,.i et)] [cx,0,bY,0] (ay (a1 (hm.e 7 rfl)) (ay (a1 (hm.e 6 rfl)) ax)) I fun a I=>?_;obtain ⟨jn,aAL,h⟩:=J.aI h;have hc:=hm
     refine bR (vs:=[.agg #[.q ag ah h_.Words,.i h_.aq,.i h_.aA,.i h_.aP,.i h_.aM,.q aJ aQ h_.au,.i h_.Next],.agg #[.q aS aV aa.aG,.q bk bl aa.aE,.q bg bj aa.Fields,.q bz bA aa.Names,.q bD bE aa.aD],.i at_,.i bS,.i et]) wn rfl Tryz.call27 ⟨(I.g rfl),(I.g rfl),(I.g rfl),(I.g rfl),(I.g rfl),trivial⟩ (ajH ((hc.into 0).pick ⟨⟨4,rfl⟩,⟨5,rfl⟩,⟨6,rfl⟩,⟨7,rfl⟩,⟨8,rfl⟩,⟨9,rfl⟩,⟨10,rfl⟩,trivial⟩) aAL) I rfl rfl ?_;rintro _ w ⟨ZD,aa6,Ep,ZE,aa7,aLE,rfl,af⟩;refine ⟨_,rfl,fun a I=>?_⟩;have ad:a7 [] _ w:=af.ev;have hm:=hc.back 0 af
     clear af hc;clear ad;refine cA (vs:=[.q ZD aa6 jn.Words,.i jn.aq,.i jn.aA,.i jn.aP,.i jn.aM,.q ZE aa7 jn.au,.i jn.Next]) 4 hm rfl wn rfl Tryz.sizeOf24 rfl rfl rfl rfl (I.g rfl) (I.g rfl) rfl fun w hm=>wpList_nil ?_;have I:=I.cut (l':=[(11,.aK sy),(12,.i bX.2),(13,.i rG),(14,.aK pw)]);have hm:=hm.freeze 0 0 rfl rfl;have hm:=hm.freeze 0 2 rfl rfl
     exact df _ _ ⟨ZD,aa6,jn.Words,jn.aq,jn.aA,jn.aP,jn.aM,ZE,aa7,jn.au,jn.Next,I.cut,hm.eg [1,0,4,6,7,8,9,10,11,12,13,14],(os h)⟩
   refine wp_skip ?_;have hm:=hm.more (y:=ak.of (aH (ai .i64)) [.slice none 0 0] ([]:eI)) (j1 _ _ _);have hm:=hm.more (y:=ak.of (aH (ai .i64)) [.slice none 0 0] ([]:eI)) (j1 _ _ _);exact df _ _ ⟨none,0,[],0,0,0,0,none,0,[],0,I.cut,hm.eg [0,0,2,4,5,6,7,8,9,10,11,12],(os h)⟩
 rintro a w ⟨EF,Fz,uS,yD,yE,yF,yG,EG,FA,uT,yH,I,hm,bb⟩;subst afc;have h:=S7;clear S7;dsimp only at h;refine wp_seq_k fun K dO=>aZ ?_;obtain ⟨A2,UX,h⟩:=J.aI h;have hc:=hm;refine bR (vs:=[]) wn rfl Tryz.call23 trivial (aju ((hc.into 0).pick trivial) UX) I rfl rfl ?_;rintro _ w ⟨rfl,af⟩;refine ⟨_,rfl,fun a I=>?_⟩;have hm:=hc.back 0 af;clear af hc;refine aN 1 [] [(85,.bool A2)] I fun a I=>?_;rcases Bool.eq_false_or_eq_true A2 with z' | z'
 · have h:=J.c5 z' h;have I:=I.b1 85 rfl z';refine bf 4 [1,0,0,1,1,1,1,0] [(86,.agg #[.q c9 dp bX.1.Words,.i bX.1.aq,.i bX.1.aA,.i bX.1.aP,.i bX.1.aM,.q js ju bX.1.au,.i bX.1.Next]),(87,.i bX.2),(88,.i rG),(89,.agg #[.q EF Fz uS,.i yD,.i yE,.i yF,.i yG,.q EG FA uT,.i yH])] [pw,0,sy,0] (ay (a1 (hm.e 3 rfl)) (ay (a1 (hm.e 2 rfl)) ax)) I fun a I=>?_;obtain ⟨XL,aAM,h⟩:=J.aI h;have hc:=hm;have az:=hc.freeze 4 3 rfl rfl;have az:=az.freeze 4 5 rfl rfl
   refine bR (vs:=[.agg #[.q c9 dp bX.1.Words,.i bX.1.aq,.i bX.1.aA,.i bX.1.aP,.i bX.1.aM,.q js ju bX.1.au,.i bX.1.Next],.i bX.2,.i rG,.agg #[.q EF Fz uS,.i yD,.i yE,.i yF,.i yG,.q EG FA uT,.i yH]]) (cS I rfl rfl rfl rfl) rfl Tryz.call15 ⟨(I.g rfl),(I.g rfl),(I.g rfl),(I.g rfl),trivial⟩ (ajv (want_:=(⟨uS,yD,yE,yF,yG,uT,yH⟩:J.bp)) ((az.into 0).pick ⟨⟨1,rfl⟩,⟨0,rfl⟩,⟨2,rfl⟩,⟨3,rfl⟩,trivial⟩) aAM) I rfl rfl ?_;rintro _ w ⟨rfl,af⟩;refine ⟨_,rfl,fun a I=>?_⟩;have ad:a7 [] _ w:=af.ev;have hm:=hc.fS 0 (by exact trivial) af
   clear af hc az;clear ad;refine ek 2 [1] [(10,.bool XL)] I fun a I=>wpList_nil (dO _ _ ?_);refine wp_ret ?_;obtain rfl:=aC h;refine bq Tryz.results7 I rfl ?_;exact ⟨rfl,hm.aX [] []⟩
 have h:=J.c4 z' h;have I:=I.b1 85 rfl z';refine ek 7 [1,1,1,1,1,1] [(10,.bool false)] I fun a I=>wpList_nil (dO _ _ ?_);refine wp_ret ?_;obtain rfl:=aC h;refine bq Tryz.results7 I rfl ?_;exact ⟨rfl,hm.aX [] []⟩
end Go.Proofs.YtpkhpagplommoaaGreat
namespace J
theorem eC {n:Int} (bJ: -9223372036854775808 <=n) (aB:n<= 9223372036854775807):av n=n:=by unfold av;omega
theorem gK {i n:Nat} (hi:i <n) (af:n<= 140737488355328):av ((i:Int)+ 1)=((i+ 1 :Nat):Int):=by
 rw [eC (by omega) (by omega)];omega
theorem ch {α:Type} {l:List α} {i:Nat} {x:α} (h:l[i]? =some x):idx l (i:Int)=some x:=by
 unfold idx;rw [if_pos (by omega)];simpa using h
theorem cH {i n:Nat} (h:i <n):decide ((i:Int) <(n:Int))=true:=decide_eq_true (by omega)
theorem cG (n:Nat):decide ((n:Int) <(n:Int))=false:=decide_eq_false (by omega)
def dC {ρ:Type}:Option ρ->Way ρ Unit
 | some r=>.out r
 | none=>.go ()
def hP {ρ:Type} (o:Option ρ) (y:Option (Way ρ Unit)):Option (Way ρ Unit):=match o with
 | some r=>some (.out r)
 | none=>y
theorem each {α ρ:Type} {l:List α} {L:Nat->Int->Option (Way ρ Unit)} (g:α->Option ρ) (az:l.length<= 140737488355328)
 (a6:∀ k (i:Nat) x,l[i]? =some x->L (k+ 1) (i:Int)=hP (g x) (L k (av ((i:Int)+ 1))))
 (he:∀ k,L (k+ 1) (l.length:Int)=some (.go ())) {F:Nat} (bW:l.length <F):L F 0 =some (dC (l.findSome? g)):=by
 have key:∀ (d i k:Nat),i+d=l.length->d <k->L k (i:Int)=some (dC ((l.drop i).findSome? g)):=by
  intro d
  induction d with
  | zero=>
    intro i k h bh
    obtain ⟨k,rfl⟩:∃ k',k=k'+ 1 :=⟨k - 1,by omega⟩
    have hi:i=l.length:=by omega
    subst hi
    rw [he];simp [dC]
  | succ d ct=>
    intro i k h bh
    obtain ⟨k,rfl⟩:∃ k',k=k'+ 1 :=⟨k - 1,by omega⟩
    have hi:i <l.length:=by omega
    rw [a6 k i l[i] (List.getElem?_eq_getElem hi),List.drop_eq_getElem_cons hi,List.findSome?_cons]
    cases di:g l[i] with
    | some r=>rfl
    | none=>
      simp only [hP]
      rw [gK hi az]
      exact ct (i+ 1) k (by omega) (by omega)
 have:=key l.length 0 F (by omega) bW
 simpa using this
theorem kN {ρ:Type} {n:Nat} {L:Nat->Int->Option (Way ρ Unit)} (g:Nat->Option ρ) (az:n<= 140737488355328)
 (a6:∀ k (i:Nat),i <n->L (k+ 1) (i:Int)=hP (g i) (L k (av ((i:Int)+ 1))))
 (he:∀ k,L (k+ 1) (n:Int)=some (.go ())) {F:Nat} (bW:n <F):L F 0 =some (dC ((List.range n).findSome? g)):=by
 have h:=each (l:=List.range n) (L:=L) g (by simpa using az) (fun k i x aj=>by
  have hi:i <n:=by have:=(List.getElem?_eq_some_iff.1 aj).1;simpa using this
  rw [List.getElem?_range hi] at aj
  simp only [Option.some.injEq] at aj
  subst aj
  exact a6 k i hi) (fun k=>by simpa using he k) (F:=F) (by simpa using bW)
 exact h
theorem MZ {r6:Type} {n:Nat} (T:Nat->Nat->Option r6) (fin:r6) (a6:∀ k i,i <n->T (k+ 1) i=T k (i+ 1)) (he:∀ k,T (k+ 1) n=some fin) {F:Nat} (bW:n <F):T F 0 =some fin:=by
 have key:∀ (d i k:Nat),i+d=n->d <k->T k i=some fin:=by
  intro d
  induction d with
  | zero=>
    intro i k h bh
    obtain ⟨k,rfl⟩:∃ k',k=k'+ 1 :=⟨k - 1,by omega⟩
    have hi:i=n:=by omega
    subst hi
    exact he k
  | succ d ct=>
    intro i k h bh
    obtain ⟨k,rfl⟩:∃ k',k=k'+ 1 :=⟨k - 1,by omega⟩
    rw [a6 k i (by omega)]
    exact ct (i+ 1) k (by omega) (by omega)
 exact key n 0 F (by omega) bW
abbrev Small (F n:Nat):Prop:=n<= 140737488355328 /\n <F
end J
namespace J
def su (b:UInt8):Bool:=((((decide (97 <=(b.toNat:Int))) && (decide ((b.toNat:Int)<= 122))) || ((decide (65 <=(b.toNat:Int))) && (decide ((b.toNat:Int)<= 90)))) || ((decide (48 <=(b.toNat:Int))) && (decide ((b.toNat:Int)<= 57)))) || (decide ((b.toNat:Int)= 95))
def hN (s:List UInt8):Bool:=(s.findSome? fun b=>if su b then none else some ()).isNone && decide (s≠ []) && decide (s.length<= 20)
theorem zz {F:Nat} {s:List UInt8} (h:Small F s.length):oo F s=some (hN s):=by
 unfold oo
 have l1:=each (l:=s) (L:=qQ s) (fun b=>if su b then none else some false) h.1 (fun k i x aj=>by
  rw [qQ,cH (List.getElem?_eq_some_iff.1 aj).1,cond_true,ch aj,Option.bind_some]
  show cond (!su x) _ _=_
  cases su x <;> rfl) (fun k=>by rw [qQ,cG];rfl) h.2
 rw [l1]
 unfold hN
 have e:∀ s:List UInt8,s.findSome? (fun b=>if su b then none else some false)=(s.findSome? (fun b=>if su b then none else some ())).map (fun _=>false):=by
  intro s
  induction s with
  | nil=>rfl
  | cons b r ct=>simp only [List.findSome?_cons];cases su b <;> simp [ct]
 rw [e]
 cases s.findSome? (fun b=>if su b then none else some ()) with
 | some _=>rfl
 | none=>
   simp only [Option.map_none,dC,qw,Option.isNone_none,Bool.true_and]
   congr 1
   rw [Bool.eq_iff_iff]
   cases s <;> first | (simp;done) | (simp;omega)
theorem Dn {F:Nat} {s:List UInt8} (h:Small F s.length):nP F s=some (hN s):=by
 rw [<-zz h]
 unfold nP oo bytesOf
 rw [if_pos h.1,Option.bind_some]
 have e:∀ k n,AM s k n=qQ s k n:=by
  intro k
  induction k with
  | zero=>intro n;rfl
  | succ k ct=>
    intro n
    rw [AM,qQ]
    simp only [ct]
    congr 1
    congr 1
    funext b
    have hc:(((((decide ((b.toNat:Int) < 97)) || (decide (122 <(b.toNat:Int)))) && ((decide ((b.toNat:Int) < 65)) || (decide (90 <(b.toNat:Int))))) && ((decide ((b.toNat:Int) < 48)) || (decide (57 <(b.toNat:Int))))) && (!decide ((b.toNat:Int)= 95)))= !su b:=by
     unfold su
     rw [Bool.eq_iff_iff]
     first | (simp;done) | (simp;omega)
    rw [hc];rfl
 rw [e]
 cases qQ s F 0 with
 | none=>rfl
 | some w=>
   cases w with
   | out r=>rfl
   | go u=>
     simp only [qw]
     congr 1
     rw [Bool.eq_iff_iff]
     cases s <;> first | (simp;done) | (simp;omega)
def kindOk (k:Kind):Bool:=if k.Kind= 3 \/k.Kind= 4 then hN k.aO else (decide (k.Kind= 1) || decide (k.Kind= 2)) && decide (k.aO= [])
theorem Vt {F:Nat} {k:Kind} (h:Small F k.aO.length):uN F k=some (kindOk k):=by
 unfold uN Mo kindOk
 simp only [Option.bind_some,Dn h]
 by_cases bT:k.Kind= 3 \/k.Kind= 4
 · rw [if_pos bT]
   rcases bT with e | e <;> simp [e]
 · rw [if_neg bT]
   have dR: ¬ k.Kind= 3 :=fun e=>bT (.inl e)
   have fT: ¬ k.Kind= 4 :=fun e=>bT (.inr e)
   simp [dR,fT]
theorem Qr {F:Nat} {k:Kind} (h:Small F k.aO.length):tC F k=some (kindOk k):=by
 unfold tC kindOk
 simp only [zz h,Option.bind_some]
 by_cases bT:k.Kind= 3 \/k.Kind= 4
 · rw [if_pos bT]
   rcases bT with e | e <;> simp [e]
 · rw [if_neg bT]
   have dR: ¬ k.Kind= 3 :=fun e=>bT (.inl e)
   have fT: ¬ k.Kind= 4 :=fun e=>bT (.inr e)
   by_cases aB:k.Kind= 1
   · simp [aB]
   · by_cases aR:k.Kind= 2
     · simp [aR]
     · simp [dR,fT,aB,aR]
def ii (n a b:Int):Bool:=decide (a<=n) && decide (n<=b)
def sB (h:Handler):Option Int:=if hN h.aO then (if ii h.From 0 200 && ii h.To 0 200 && ii h.gY 0 200 then none else some 3) else some 1
def uQ (k:Kind):Option Int:=if kindOk k then none else some 7
def AX (m:Method):Int:=
 if hN m.Name then
  if 4 <m.bK.length\/ 200 <m.Code.length\/ 4 <m.bN.length then 2
  else if ii m.cY 0 10 && ii m.cX 0 10 then
   match m.bK.findSome? uQ with
   | some e=>e
   | none=>if m.Returns=⟨0,[]⟩\/kindOk m.Returns=true then (m.bN.findSome? sB).getD 0 else 7
  else 3
 else 1
structure Method.Fits (F:Nat) (m:Method):Prop where
 name:Small F m.Name.length
 args:Small F m.bK.length
 arg:∀ k ∈ m.bK,Small F k.aO.length
 ret:Small F m.Returns.aO.length
 xU:Small F m.bN.length
 hand:∀ h ∈ m.bN,Small F h.aO.length
structure aO.Fits (F:Nat) (c:aO):Prop where
 name:Small F c.Name.length
 super:Small F c.b2.length
 fields:Small F c.Fields.length
 field:∀ f ∈ c.Fields,Small F f.Name.length/\Small F f.Kind.aO.length
 methods:Small F c.aU.length
 method:∀ m ∈ c.aU,m.Fits F
def Fits (F:Nat) (l:List aO):Prop:=Small F l.length/\ ∀ c ∈ l,c.Fits F
theorem ag7 {F:Nat} (o:Option Int) (d:Int):dv (α:=Unit) (some (dC o)) (fun _=>some d)=some (o.getD d):=by cases o <;> rfl
theorem ag8 {o:Option Int} {k:Option Int}:dv (α:=Unit) (some (dC o)) (fun _=>k)=(match o with | some e=>some e | none=>k):=by cases o <;> rfl
theorem aFF {F:Nat} {m:Method} (h:m.Fits F):AN F m=some (AX m):=by
 have l1:yk F m F 0 =some (dC (m.bK.findSome? uQ)):=each uQ h.args.1 (fun k i x aj=>by
  rw [yk,cH (List.getElem?_eq_some_iff.1 aj).1,cond_true,ch aj,Option.bind_some,Vt (h.arg x (List.mem_of_getElem? aj)),Option.bind_some]
  unfold uQ
  show cond (!kindOk x) _ _=_
  cases kindOk x <;> rfl) (fun k=>by rw [yk,cG];rfl) h.args.2
 have az:∀ {x:Handler} (_:x ∈ m.bN) (Y:Option (Way Int Unit)),((nP F x.aO).bind fun IV=>
  cond (!IV) (some (.out 1)) ((mZ x.From 0 200).bind fun kG=>
  cond (!kG) (some (.out 3)) ((mZ x.To 0 200).bind fun DT=>
  cond (!DT) (some (.out 3)) ((mZ x.gY 0 200).bind fun IW=>
  cond (!IW) (some (.out 3)) Y))))=hP (sB x) Y:=by
  intro x aj Y
  rw [Dn (h.hand x aj)]
  unfold sB mZ
  simp only [Option.bind_some]
  show cond (!hN x.aO) _ (cond (!ii x.From 0 200) _ (cond (!ii x.To 0 200) _ (cond (!ii x.gY 0 200) _ _)))=_
  cases hN x.aO <;> cases ii x.From 0 200 <;> cases ii x.To 0 200 <;> cases ii x.gY 0 200 <;> rfl
 have fO:yl F m F 0 =some (dC (m.bN.findSome? sB)):=each sB h.xU.1 (fun k i x aj=>by
  rw [yl,cH (List.getElem?_eq_some_iff.1 aj).1,cond_true,ch aj,Option.bind_some]
  exact az (List.mem_of_getElem? aj) _) (fun k=>by rw [yl,cG];rfl) h.xU.2
 have m1:ym F m F 0 =some (dC (m.bN.findSome? sB)):=each sB h.xU.1 (fun k i x aj=>by
  rw [ym,cH (List.getElem?_eq_some_iff.1 aj).1,cond_true,ch aj,Option.bind_some]
  exact az (List.mem_of_getElem? aj) _) (fun k=>by rw [ym,cG];rfl) h.xU.2
 unfold AN mZ AX
 rw [Dn h.name,l1,fO,m1]
 have bh:=Vt (F:=F) (k:=(⟨m.Returns.Kind,m.Returns.aO⟩:Kind)) h.ret
 simp only [Option.bind_some,bh,ag7 (F:=F),ag8]
 cases hN m.Name with
 | false=>rfl
 | true=>
   simp only [Bool.not_true,cond_false,if_true]
   by_cases hm:4 <m.bK.length\/ 200 <m.Code.length\/ 4 <m.bN.length
   · rw [if_pos hm]
     have:((decide (4 <(m.bK.length:Int))) || (decide (200 <(m.Code.length:Int))) || (decide (4 <(m.bN.length:Int))))=true:=by
      simp;omega
     rw [this];rfl
   · rw [if_neg hm]
     have:((decide (4 <(m.bK.length:Int))) || (decide (200 <(m.Code.length:Int))) || (decide (4 <(m.bN.length:Int))))=false:=by
      simp;omega
     rw [this]
     show cond (!ii m.cY 0 10) _ (cond (!ii m.cX 0 10) _ _)=_
     cases ii m.cY 0 10 <;> cases ii m.cX 0 10 <;> try rfl
     simp only [Bool.not_true,cond_false,Bool.and_self,if_true]
     cases m.bK.findSome? uQ with
     | some e=>rfl
     | none=>
       simp only
       by_cases bQ:m.Returns=⟨0,[]⟩
       · rw [if_pos (.inl bQ),show (decide ((⟨m.Returns.Kind,m.Returns.aO⟩:Kind)=⟨0,[]⟩))=true from decide_eq_true bQ]
         rfl
       · rw [show (decide ((⟨m.Returns.Kind,m.Returns.aO⟩:Kind)=⟨0,[]⟩))=false from decide_eq_false bQ]
         simp only [Bool.not_false,cond_true]
         show cond (!kindOk m.Returns) _ _=_
         cases azr:kindOk m.Returns with
         | true=>rw [if_pos (.inr rfl)];rfl
         | false=>rw [if_neg (by simp [bQ])];rfl
theorem aiA {F:Nat} {m:Method} (h:m.Fits F):zy F m=some (AX m):=by
 have l1:wX F m F 0 =some (dC (m.bK.findSome? uQ)):=each uQ h.args.1 (fun k i x aj=>by
  rw [wX,cH (List.getElem?_eq_some_iff.1 aj).1,cond_true,ch aj,Option.bind_some,Qr (h.arg x (List.mem_of_getElem? aj)),Option.bind_some]
  unfold uQ
  cases kindOk x <;> rfl) (fun k=>by rw [wX,cG];rfl) h.args.2
 have fO:wY F m F 0 =some (dC (m.bN.findSome? sB)):=each sB h.xU.1 (fun k i x aj=>by
  rw [wY,cH (List.getElem?_eq_some_iff.1 aj).1,cond_true,ch aj,Option.bind_some,zz (h.hand x (List.mem_of_getElem? aj))]
  unfold sB gC
  simp only [Option.bind_some]
  show cond (!hN x.aO) _ (cond (!ii x.From 0 200) _ (cond (!ii x.To 0 200) _ (cond (!ii x.gY 0 200) _ _)))=_
  cases hN x.aO <;> cases ii x.From 0 200 <;> cases ii x.To 0 200 <;> cases ii x.gY 0 200 <;> rfl) (fun k=>by rw [wY,cG];rfl) h.xU.2
 unfold zy gC AX
 rw [zz h.name,l1,fO]
 have bh:=Qr (F:=F) (k:=(⟨m.Returns.Kind,m.Returns.aO⟩:Kind)) h.ret
 simp only [Option.bind_some,bh,ag7 (F:=F),ag8]
 cases hN m.Name with
 | false=>rfl
 | true=>
   simp only [Bool.not_true,cond_false,if_true]
   by_cases hm:4 <m.bK.length\/ 200 <m.Code.length\/ 4 <m.bN.length
   · rw [if_pos hm]
     have:((decide (4 <(m.bK.length:Int))) || (decide (200 <(m.Code.length:Int))) || (decide (4 <(m.bN.length:Int))))=true:=by
      simp;omega
     rw [this];rfl
   · rw [if_neg hm]
     have:((decide (4 <(m.bK.length:Int))) || (decide (200 <(m.Code.length:Int))) || (decide (4 <(m.bN.length:Int))))=false:=by
      simp;omega
     rw [this]
     show cond (!ii m.cY 0 10) _ (cond (!ii m.cX 0 10) _ _)=_
     cases ii m.cY 0 10 <;> cases ii m.cX 0 10 <;> try rfl
     simp only [Bool.not_true,cond_false,Bool.and_self,if_true]
     cases m.bK.findSome? uQ with
     | some e=>rfl
     | none=>
       simp only
       show cond ((!kindOk m.Returns) && _) _ _=_
       by_cases bQ:m.Returns=⟨0,[]⟩
       · rw [if_pos (.inl bQ),bQ]
         simp
       · have eN:((!decide (m.Returns.Kind= 0)) || (!decide (m.Returns.aO= [])))=true:=by
          rcases hb:m.Returns with ⟨a,b⟩
          rw [hb] at bQ
          by_cases bB:a= 0
          · by_cases aY:b= []
            · subst bB;subst aY;exact absurd rfl bQ
            · simp [aY]
          · simp [bB]
         rw [eN]
         cases azr:kindOk m.Returns with
         | true=>rw [if_pos (.inr rfl)];rfl
         | false=>rw [if_neg (by simp [bQ])];rfl
end J
namespace J
def iF (f:Field):Option Int:=if hN f.Name then (if kindOk f.Kind then none else some 7) else some 1
def jl (e:Int):Option Int:=if e= 0 then none else some e
def jX (m:Method):Option Int:=jl (AX m)
def CL (c:aO):Int:=
 if hN c.Name && (decide (c.b2= []) || hN c.b2) then
  if 6 <c.Fields.length\/ 8 <c.aU.length then 2
  else (c.Fields.findSome? iF).getD ((c.aU.findSome? jX).getD 0)
 else 1
def q5 (c:aO):Option Int:=jl (CL c)
def ss (l:List aO):Int:=if 10 <l.length then 2 else (l.findSome? q5).getD 0
def pg {ρ:Type} (o:Option ρ) (y:Option ρ):Option ρ:=match o with
 | some e=>some e
 | none=>y
theorem Xw {e:Int} {Y:Option (Way Int Unit)}:cond (!decide (e= 0)) (some (.out e)) Y=hP (jl e) Y:=by
 unfold jl hP
 by_cases h:e= 0
 · rw [if_pos h,decide_eq_true h];rfl
 · rw [if_neg h,decide_eq_false h];rfl
theorem acR {a b:Nat} (x y:Nat):((decide ((x:Int) <(a:Int))) || (decide ((y:Int) <(b:Int))))=decide (x <a\/y <b):=by
 rw [Bool.eq_iff_iff];simp
theorem n6 {o:Option Int} {k:Unit->Option (Way Int Unit)}:eh (α:=Unit) (some (dC o)) k=hP o (k ()):=by cases o <;> rfl
theorem j7 {ρ:Type} {o:Option ρ} {k:Unit->Option ρ}:dv (α:=Unit) (some (dC o)) k=pg o (k ()):=by cases o <;> rfl
theorem qx {o:Option Int} {Y:Option (Way Int Unit)} {k:Unit->Option (Way Int Unit)}:eh (α:=Unit) (hP o Y) k=hP o (eh (α:=Unit) Y k):=by cases o <;> rfl
section
variable {F:Nat}
theorem aFE {c:aO} (h:c.Fits F):Il F c=some (CL c):=by
 have I:∀ {x:Field} (_:x ∈ c.Fields) (Y:Option (Way Int Unit)),((nP F x.Name).bind fun A7=>
  cond (!A7) (some (.out 1)) ((uN F (⟨x.Kind.Kind,x.Kind.aO⟩:Kind)).bind fun kF=>
  cond (!kF) (some (.out 7)) Y))=hP (iF x) Y:=by
  intro x aj Y
  rw [Dn (h.field x aj).1,Vt (k:=(⟨x.Kind.Kind,x.Kind.aO⟩:Kind)) (h.field x aj).2]
  unfold iF
  simp only [Option.bind_some]
  show cond (!hN x.Name) _ (cond (!kindOk x.Kind) _ _)=_
  cases hN x.Name <;> cases kindOk x.Kind <;> rfl
 have hm:∀ {x:Method} (_:x ∈ c.aU) (Y:Option (Way Int Unit)),((AN F (⟨x.Name,x.Static,x.bK,(⟨x.Returns.Kind,x.Returns.aO⟩:Kind),x.cY,x.cX,x.Code,x.bN⟩:Method)).bind fun kG=>
  cond (!decide (kG= 0)) (some (.out kG)) Y)=hP (jX x) Y:=by
  intro x aj Y
  have:=aFF (F:=F) (m:=(⟨x.Name,x.Static,x.bK,(⟨x.Returns.Kind,x.Returns.aO⟩:Kind),x.cY,x.cX,x.Code,x.bN⟩:Method)) (h.method x aj)
  rw [this,Option.bind_some]
  exact Xw
 have l1:yg F c F 0 =some (dC (c.Fields.findSome? iF)):=each iF h.fields.1 (fun k i x aj=>by
  rw [yg,cH (List.getElem?_eq_some_iff.1 aj).1,cond_true,ch aj,Option.bind_some];exact I (List.mem_of_getElem? aj) _) (fun k=>by rw [yg,cG];rfl) h.fields.2
 have m1:yi F c F 0 =some (dC (c.Fields.findSome? iF)):=each iF h.fields.1 (fun k i x aj=>by
  rw [yi,cH (List.getElem?_eq_some_iff.1 aj).1,cond_true,ch aj,Option.bind_some];exact I (List.mem_of_getElem? aj) _) (fun k=>by rw [yi,cG];rfl) h.fields.2
 have fO:yh F c F 0 =some (dC (c.aU.findSome? jX)):=each jX h.methods.1 (fun k i x aj=>by
  rw [yh,cH (List.getElem?_eq_some_iff.1 aj).1,cond_true,ch aj,Option.bind_some];exact hm (List.mem_of_getElem? aj) _) (fun k=>by rw [yh,cG];rfl) h.methods.2
 have sR:yj F c F 0 =some (dC (c.aU.findSome? jX)):=each jX h.methods.1 (fun k i x aj=>by
  rw [yj,cH (List.getElem?_eq_some_iff.1 aj).1,cond_true,ch aj,Option.bind_some];exact hm (List.mem_of_getElem? aj) _) (fun k=>by rw [yj,cG];rfl) h.methods.2
 unfold Il CL
 rw [Dn h.name,Dn h.super,l1,fO,m1,sR]
 simp only [Option.bind_some,j7,show (6 :Int)=((6 :Nat):Int) from rfl,show (8 :Int)=((8 :Nat):Int) from rfl,acR]
 cases hN c.Name with
 | false=>rfl
 | true=>
   simp only [Bool.not_true,cond_false,Bool.true_and]
   have AH:∀ p:Bool,p=decide (6 <c.Fields.length\/ 8 <c.aU.length)->cond p (some (2 :Int)) (pg (c.Fields.findSome? iF) (pg (c.aU.findSome? jX) (some 0))) =
    some (if 6 <c.Fields.length\/ 8 <c.aU.length then 2 else (c.Fields.findSome? iF).getD ((c.aU.findSome? jX).getD 0)):=by
    intro p b0
    subst b0
    by_cases hb:6 <c.Fields.length\/ 8 <c.aU.length
    · rw [if_pos hb,decide_eq_true hb];rfl
    · rw [if_neg hb,decide_eq_false hb]
      cases c.Fields.findSome? iF with
      | some e=>rfl
      | none=>cases c.aU.findSome? jX <;> rfl
   by_cases a6:c.b2= []
   · rw [decide_eq_true a6]
     simp only [Bool.not_true,cond_false,Bool.true_or,if_true]
     exact AH _ rfl
   · rw [decide_eq_false a6]
     simp only [Bool.not_false,cond_true,Bool.false_or]
     cases hN c.b2 with
     | false=>rfl
     | true=>
       simp only [Bool.not_true,cond_false,if_true]
       exact AH _ rfl
theorem aFD {l:List aO} (h:Fits F l):Ik F l=some (ss l):=by
 have l1:yf F l F 0 =some (dC (l.findSome? q5)):=each q5 h.1.1 (fun k i x aj=>by
  rw [yf,cH (List.getElem?_eq_some_iff.1 aj).1,cond_true,ch aj,Option.bind_some,aFE (c:=(⟨x.Name,x.b2,x.Fields,x.aU⟩:aO)) (h.2 x (List.mem_of_getElem? aj)),Option.bind_some]
  exact Xw) (fun k=>by rw [yf,cG];rfl) h.1.2
 unfold Ik ss
 rw [l1,j7]
 by_cases az:10 <l.length
 · rw [if_pos az,decide_eq_true (show (10 :Int) <(l.length:Int) by omega)];rfl
 · rw [if_neg az,decide_eq_false (show ¬ (10 :Int) <(l.length:Int) by omega)]
   cases l.findSome? q5 <;> rfl
theorem aiz {l:List aO} (h:Fits F l):Fm F l=some (ss l):=by
 have body:∀ {c:aO} (_:c.Fits F),wC F c F 0 =some (dC (c.Fields.findSome? iF))/\wE F c F 0 =some (dC (c.Fields.findSome? iF))/\wD F c F 0 =some (dC (c.aU.findSome? jX))/\wF F c F 0 =some (dC (c.aU.findSome? jX)):=by
  intro c hc
  have I:∀ {x:Field} (_:x ∈ c.Fields) (i:Int) (_:idx c.Fields i=some x) (Y:Option (Way Int Unit)),((oo F x.Name).bind fun A7=>
   cond (!A7) (some (.out 1)) ((idx c.Fields i).bind fun x=>(tC F (⟨x.Kind.Kind,x.Kind.aO⟩:Kind)).bind fun kF=>
   cond (!kF) (some (.out 7)) Y))=hP (iF x) Y:=by
   intro x aj i hi Y
   rw [zz (hc.field x aj).1,hi]
   unfold iF
   simp only [Option.bind_some]
   rw [Qr (k:=(⟨x.Kind.Kind,x.Kind.aO⟩:Kind)) (hc.field x aj).2,Option.bind_some]
   show cond (!hN x.Name) _ (cond (!kindOk x.Kind) _ _)=_
   cases hN x.Name <;> cases kindOk x.Kind <;> rfl
  have hm:∀ {x:Method} (_:x ∈ c.aU) (Y:Option (Way Int Unit)),((zy F x).bind fun kG=>
   cond (!decide (kG= 0)) (some (.out kG)) Y)=hP (jX x) Y:=by
   intro x aj Y
   rw [aiA (hc.method x aj),Option.bind_some]
   exact Xw
  refine ⟨each iF hc.fields.1 (fun k i x aj=>?_) (fun k=>by rw [wC,cG];rfl) hc.fields.2,each iF hc.fields.1 (fun k i x aj=>?_) (fun k=>by rw [wE,cG];rfl) hc.fields.2,
   each jX hc.methods.1 (fun k i x aj=>?_) (fun k=>by rw [wD,cG];rfl) hc.methods.2,each jX hc.methods.1 (fun k i x aj=>?_) (fun k=>by rw [wF,cG];rfl) hc.methods.2⟩
  · rw [wC,cH (List.getElem?_eq_some_iff.1 aj).1,cond_true,ch aj,Option.bind_some];rw [<-ch aj];exact I (List.mem_of_getElem? aj) _ (ch aj) _
  · rw [wE,cH (List.getElem?_eq_some_iff.1 aj).1,cond_true,ch aj,Option.bind_some];rw [<-ch aj];exact I (List.mem_of_getElem? aj) _ (ch aj) _
  · rw [wD,cH (List.getElem?_eq_some_iff.1 aj).1,cond_true,ch aj,Option.bind_some];exact hm (List.mem_of_getElem? aj) _
  · rw [wF,cH (List.getElem?_eq_some_iff.1 aj).1,cond_true,ch aj,Option.bind_some];exact hm (List.mem_of_getElem? aj) _
 have l1:wB F l F 0 =some (dC (l.findSome? q5)):=each q5 h.1.1 (fun k i c aj=>by
  have hc:=h.2 c (List.mem_of_getElem? aj)
  obtain ⟨k_,QC,qX,aiE⟩:=body hc
  rw [wB,cH (List.getElem?_eq_some_iff.1 aj).1,cond_true,ch aj,Option.bind_some,zz hc.name,zz hc.super,k_,qX,QC,aiE]
  simp only [Option.bind_some,n6,show (6 :Int)=((6 :Nat):Int) from rfl,show (8 :Int)=((8 :Nat):Int) from rfl,acR]
  unfold q5 CL
  cases hN c.Name with
  | false=>rfl
  | true=>
    simp only [Bool.not_true,cond_false,Bool.true_and]
    have AH:∀ (p:Bool) (Y:Option (Way Int Unit)),p=decide (6 <c.Fields.length\/ 8 <c.aU.length)->eh (α:=Unit) (cond p (some (.out (2 :Int))) (hP (c.Fields.findSome? iF) (hP (c.aU.findSome? jX) (some (.go ()))))) (fun _=>Y) =
     hP (jl (if 6 <c.Fields.length\/ 8 <c.aU.length then 2 else (c.Fields.findSome? iF).getD ((c.aU.findSome? jX).getD 0))) Y:=by
     intro p Y b0
     subst b0
     by_cases hb:6 <c.Fields.length\/ 8 <c.aU.length
     · rw [if_pos hb,decide_eq_true hb];rfl
     · rw [if_neg hb,decide_eq_false hb,cond_false]
       have awI:∀ e,c.Fields.findSome? iF=some e->jl e=some e:=by
        intro e he
        obtain ⟨x,_,aj⟩:=List.exists_of_findSome?_eq_some he
        unfold iF at aj
        split at aj
        · split at aj
          · cases aj
          · injection aj with aj;subst aj;rfl
        · injection aj with aj;subst aj;rfl
       have UL:∀ e,c.aU.findSome? jX=some e->jl e=some e:=by
        intro e he
        obtain ⟨x,_,aj⟩:=List.exists_of_findSome?_eq_some he
        unfold jX at aj
        unfold jl at aj ⊢
        split at aj
        · cases aj
        · rename_i af;injection aj with aj;subst aj;rw [if_neg af]
       cases I:c.Fields.findSome? iF with
       | some e=>simp only [Option.getD_some,awI e I];rfl
       | none=>
         cases hm:c.aU.findSome? jX with
         | some e=>simp only [Option.getD_some,Option.getD_none,UL e hm];rfl
         | none=>rfl
    by_cases a6:c.b2= []
    · rw [decide_eq_true a6]
      simp only [Bool.not_true,cond_false,Bool.true_or,if_true]
      exact AH _ _ rfl
    · rw [decide_eq_false a6]
      simp only [Bool.not_false,cond_true,Bool.false_or]
      cases hN c.b2 with
      | false=>rfl
      | true=>
        simp only [Bool.not_true,cond_false,if_true]
        exact AH _ _ rfl) (fun k=>by rw [wB,cG];rfl) h.1.2
 unfold Fm ss
 rw [l1,j7]
 by_cases az:10 <l.length
 · rw [if_pos az,decide_eq_true (show (10 :Int) <(l.length:Int) by omega)];rfl
 · rw [if_neg az,decide_eq_false (show ¬ (10 :Int) <(l.length:Int) by omega)]
   cases l.findSome? q5 <;> rfl
end
structure Right (l:List aO):Prop where
 len:l.length<= 10
 name:∀ c ∈ l,hN c.Name=true
 fields:∀ c ∈ l,c.Fields.length<= 6
 methods:∀ c ∈ l,c.aU.length<= 8
 method:∀ c ∈ l,∀ m ∈ c.aU,m.bK.length<= 4 /\m.bN.length<= 4
theorem aGe {m:Method} (h:AX m= 0):m.bK.length<= 4 /\m.bN.length<= 4 :=by
 unfold AX at h
 split at h
 · split at h
   · exact absurd h (by decide)
   · rename_i aB;exact ⟨by omega,by omega⟩
 · exact absurd h (by decide)
theorem aGB {e:Int} (h:jl e=none):e= 0 :=by
 unfold jl at h
 split at h
 · assumption
 · cases h
theorem aGC {e x:Int} (h:jl e=some x):x≠ 0 :=by
 unfold jl at h
 split at h
 · cases h
 · rename_i cV;injection h with h;subst h;exact cV
theorem aFQ {s:List UInt8} (h:hN s=true):s≠ []:=by
 unfold hN at h
 simp only [Bool.and_eq_true,decide_eq_true_eq] at h
 exact h.1.2
theorem aky {l:List aO} (h:ss l= 0):Right l:=by
 unfold ss at h
 by_cases az:10 <l.length
 · rw [if_pos az] at h;exact absurd h (by decide)
 · rw [if_neg az] at h
   have af:∀ c ∈ l,CL c= 0 :=by
    intro c hc
    cases I:l.findSome? q5 with
    | some e=>
      rw [I] at h
      simp only [Option.getD_some] at h
      subst h
      obtain ⟨x,_,aj⟩:=List.exists_of_findSome?_eq_some I
      unfold q5 jl at aj
      split at aj
      · cases aj
      · rename_i cV;injection aj with aj;exact absurd aj cV
    | none=>
      have:=List.findSome?_eq_none_iff.1 I c hc
      unfold q5 jl at this
      split at this
      · assumption
      · cases this
   have key:∀ c ∈ l,hN c.Name=true/\c.Fields.length<= 6 /\c.aU.length<= 8 /\ ∀ m ∈ c.aU,m.bK.length<= 4 /\m.bN.length<= 4 :=by
    intro c hc
    have bJ:=af c hc
    unfold CL at bJ
    split at bJ
    · rename_i aB
      simp only [Bool.and_eq_true] at aB
      split at bJ
      · exact absurd bJ (by decide)
      · rename_i aR
        refine ⟨aB.1,by omega,by omega,fun m hm=>?_⟩
        cases I:c.Fields.findSome? iF with
        | some e=>
          rw [I] at bJ
          simp only [Option.getD_some] at bJ
          subst bJ
          obtain ⟨x,_,aj⟩:=List.exists_of_findSome?_eq_some I
          unfold iF at aj
          split at aj
          · split at aj
            · cases aj
            · injection aj with aj;exact absurd aj (by decide)
          · injection aj with aj;exact absurd aj (by decide)
        | none=>
          rw [I] at bJ
          simp only [Option.getD_none] at bJ
          cases gG:c.aU.findSome? jX with
          | some e=>
            rw [gG] at bJ
            simp only [Option.getD_some] at bJ
            subst bJ
            obtain ⟨x,_,aj⟩:=List.exists_of_findSome?_eq_some gG
            exact absurd rfl (aGC aj)
          | none=>exact aGe (aGB (List.findSome?_eq_none_iff.1 gG m hm))
    · exact absurd bJ (by decide)
   exact ⟨by omega,fun c hc=>(key c hc).1,fun c hc=>(key c hc).2.1,fun c hc=>(key c hc).2.2.1,fun c hc=>(key c hc).2.2.2⟩
end J
namespace J
def fl {α:Type} (p:α->Bool):List α->Option Nat
 | []=>none
 | x::r=>if p x then some 0 else (fl p r).map (· + 1)
theorem IK {α:Type} {p:α->Bool}:∀ {l:List α} {i:Nat},fl p l=some i-> ∃ x,l[i]? =some x/\p x=true/\ ∀ j y,j <i->l[j]? =some y->p y=false
 | [],i,h=>by simp [fl] at h
 | x::r,i,h=>by
   simp only [fl] at h
   split at h
   · rename_i b0
     injection h with h
     subst h
     exact ⟨x,rfl,b0,fun j y bb=>absurd bb (by omega)⟩
   · rename_i b0
     cases bQ:fl p r with
     | none=>rw [bQ] at h;cases h
     | some k=>
       rw [bQ] at h
       simp only [Option.map_some,Option.some.injEq] at h
       subst h
       obtain ⟨y,aB,aR,bT⟩:=IK bQ
       refine ⟨y,by simpa using aB,aR,fun j z bb cV=>?_⟩
       cases j with
       | zero=>
         simp only [List.getElem?_cons_zero,Option.some.injEq] at cV
         subst cV
         simpa using b0
       | succ j=>exact bT j z (by omega) (by simpa using cV)
theorem XH {α:Type} {p:α->Bool}:∀ {l:List α},fl p l=none-> ∀ x ∈ l,p x=false
 | [],_,x,aj=>by cases aj
 | y::r,h,x,aj=>by
   simp only [fl] at h
   split at h
   · cases h
   · rename_i b0
     have bQ:fl p r=none:=by simpa using h
     rcases List.mem_cons.1 aj with rfl | e
     · simpa using b0
     · exact XH bQ x e
theorem aGT {α:Type} {p:α->Bool} {l:List α} {i:Nat} {x:α} (hi:l[i]? =some x) (b0:p x=true) (aY:∀ j y,j <i->l[j]? =some y->p y=false):fl p l=some i:=by
 cases h:fl p l with
 | none=>have:=XH h x (List.mem_of_getElem? hi);rw [b0] at this;cases this
 | some j=>
   obtain ⟨y,aB,aR,bT⟩:=IK h
   rcases Nat.lt_trichotomy i j with e | e | e
   · have:=bT i x e hi;rw [b0] at this;cases this
   · rw [e]
   · have:=aY j y e aB;rw [aR] at this;cases this
theorem XG {α:Type} {p:α->Bool} {l:List α} {i:Nat} (h:fl p l=some i):i <l.length:=by
 obtain ⟨x,aB,_⟩:=IK h
 exact (List.getElem?_eq_some_iff.1 aB).1
theorem Rq {α ρ:Type} {l:List α} {L:Nat->Int->Option (Way ρ Unit)} (p:α->Bool) (f:Nat->ρ) (az:l.length<= 140737488355328)
 (a6:∀ k (i:Nat) x,l[i]? =some x->L (k+ 1) (i:Int)=cond (p x) (some (.out (f i))) (L k (av ((i:Int)+ 1))))
 (he:∀ k,L (k+ 1) (l.length:Int)=some (.go ())) {F:Nat} (bW:l.length <F):L F 0 =some (dC ((fl p l).map f)):=by
 have key:∀ (d i k:Nat),i+d=l.length->d <k->L k (i:Int)=some (dC ((fl p (l.drop i)).map fun j=>f (i+j))):=by
  intro d
  induction d with
  | zero=>
    intro i k h bh
    obtain ⟨k,rfl⟩:∃ k',k=k'+ 1 :=⟨k - 1,by omega⟩
    have hi:i=l.length:=by omega
    subst hi
    rw [he];simp [dC,fl]
  | succ d ct=>
    intro i k h bh
    obtain ⟨k,rfl⟩:∃ k',k=k'+ 1 :=⟨k - 1,by omega⟩
    have hi:i <l.length:=by omega
    rw [a6 k i l[i] (List.getElem?_eq_getElem hi),List.drop_eq_getElem_cons hi,fl]
    cases di:p l[i] with
    | true=>simp [dC]
    | false=>
      simp only [cond_false,Bool.false_eq_true,if_false]
      rw [gK hi az,ct (i+ 1) k (by omega) (by omega)]
      congr 2
      rw [Option.map_map]
      congr 1
      funext j
      simp only [Function.comp]
      congr 1
      omega
 have:=key l.length 0 F (by omega) bW
 simpa using this
def jR (nm:List UInt8) (c:aO):Bool:=decide (c.Name=nm)
def dV (l:List aO) (nm:List UInt8):Int:=((fl (jR nm) l).map fun n:Nat=>(n:Int)).getD (-1)
theorem w0 {F:Nat} {l:List aO} (h:Small F l.length) (nm:List UInt8):om F l nm=some (dV l nm):=by
 unfold om dV
 have l1:wZ l nm F 0 =some (dC ((fl (jR nm) l).map fun n:Nat=>(n:Int))):=Rq (jR nm) _ h.1 (fun k i x aj=>by
  rw [wZ,cH (List.getElem?_eq_some_iff.1 aj).1,cond_true,ch aj,Option.bind_some];rfl) (fun k=>by rw [wZ,cG];rfl) h.2
 rw [l1,j7]
 cases fl (jR nm) l <;> rfl
theorem Rc {l:List aO} {nm:List UInt8}:dV l nm <l.length:=by
 unfold dV
 cases h:fl (jR nm) l with
 | none=>simp only [Option.map_none,Option.getD_none];omega
 | some i=>have:=XG h;simp only [Option.map_some,Option.getD_some];omega
theorem akz {l:List aO} {nm:List UInt8}:dV l nm < 0 ↔ fl (jR nm) l=none:=by
 unfold dV
 cases h:fl (jR nm) l with
 | none=>simp
 | some i=>simp only [Option.map_some,Option.getD_some];constructor <;> intro h <;> first | omega | cases h
theorem aHX {α:Type} {l:List α} {i:Nat} {x:α} (h:l[i]? =some x):l.set i x=l:=by
 obtain ⟨az,e⟩:=List.getElem?_eq_some_iff.1 h
 rw [<-e,List.set_getElem_self]
theorem Lt {α:Type} {b:Nat} {l:List α} (h:l.length*b<= 140737488355328):(dU b ([]:List α) l).bind (fun l=>some l)=some l:=by
 unfold dU
 rw [if_pos (by simpa using h)]
 simp
theorem aGJ {F:Nat} {l:List aO} (bW:100 <F) (h:Right l):Iy F l=some l:=by
 have eb:∀ (fI:List Method),fI.length<= 8 ->(∀ m ∈ fI,m.bK.length<= 4 /\m.bN.length<= 4)->rD F fI (fI.length:Int) 0 =some fI:=by
  intro fI aLf hm
  refine MZ (n:=fI.length) (fun k i=>rD k fI (fI.length:Int) (i:Int)) fI (fun k i hi=>?_) (fun k=>?_) (F:=F) (by omega)
  · obtain ⟨x,aj⟩:∃ x,fI[i]? =some x:=⟨fI[i],List.getElem?_eq_getElem hi⟩
    have aY:=hm x (List.mem_of_getElem? aj)
    show rD (k+ 1) fI (fI.length:Int) (i:Int)=_
    rw [rD,cH hi,cond_true,ch aj,Option.bind_some]
    unfold NR NQ
    rw [Lt (by omega),Option.bind_some,Lt (by omega),Option.bind_some,Option.bind_some,Option.bind_some]
    have bL:fI.set (i:Int).toNat (⟨x.Name,x.Static,x.bK,(⟨x.Returns.Kind,x.Returns.aO⟩:Kind),x.cY,x.cX,x.Code,x.bN⟩:Method)=fI:=aHX (i:=i) aj
    simp only [bL,ch aj,Option.bind_some]
    rw [gK hi (by omega)]
  · show rD (k+ 1) fI (fI.length:Int) (fI.length:Int)=_
    rw [rD,cG];rfl
 unfold Iy
 have d_:rC F l F [] 0 =some l:=by
  refine MZ (n:=l.length) (fun k i=>rC F l k (l.take i) (i:Int)) l (fun k i hi=>?_) (fun k=>?_) (F:=F) (by have:=h.len;omega)
  · obtain ⟨x,aj⟩:∃ x,l[i]? =some x:=⟨l[i],List.getElem?_eq_getElem hi⟩
    have uG:=List.mem_of_getElem? aj
    have I:=h.fields x uG
    have hm:=h.methods x uG
    have hlen:=h.len
    show rC F l (k+ 1) (l.take i) (i:Int)=_
    rw [rC,cH hi,cond_true,ch aj,Option.bind_some]
    unfold NP NS
    rw [Lt (by omega),Option.bind_some,Lt (by omega),Option.bind_some,eb x.aU hm (h.method x uG),Option.bind_some]
    unfold dU
    rw [if_pos (by simp only [List.length_take,List.length_cons,List.length_nil];omega)]
    simp only [Option.bind_some]
    rw [gK hi (by omega)]
    have e:l.take i++[(⟨x.Name,x.b2,x.Fields,x.aU⟩:aO)]=l.take (i+ 1):=by
     rw [List.take_add_one,aj];rfl
    rw [e]
  · show rC F l (k+ 1) (l.take l.length) (l.length:Int)=_
    rw [rC,cG,List.take_length];rfl
 rw [d_];rfl
def fK:Nat->List aO->List (List UInt8 × Int)
 | _,[]=>[]
 | k,c::r=>(c.Name,(k:Int))::fK (k+ 1) r
theorem DM (nm:List UInt8):∀ (l:List aO) (k:Nat),du (fK k l) nm=(fl (jR nm) l).map fun n:Nat=>((n+k:Nat):Int)
 | [],k=>rfl
 | c::r,k=>by
   simp only [fK,du,fl,jR]
   by_cases h:c.Name=nm
   · simp [h]
   · simp only [h,if_false,decide_false,Bool.false_eq_true]
     rw [DM nm r (k+ 1),Option.map_map]
     congr 1
     funext j
     simp only [Function.comp]
     congr 1
     omega
theorem af_ (c:aO):∀ (l:List aO) (k:Nat),fK k (l++[c])=fK k l++[(c.Name,((k+l.length:Nat):Int))]
 | [],k=>by simp [fK]
 | d::r,k=>by
   simp only [List.cons_append,fK,List.length_cons]
   rw [af_ c r (k+ 1)]
   congr 4
   omega
theorem Xt {κ β:Type} [DecidableEq κ] {k:κ} {v:β}:∀ {m:List (κ × β)},du m k=none->hO m k v=m++[(k,v)]
 | [],_=>rfl
 | p::r,h=>by
   simp only [du] at h
   split at h
   · cases h
   · rename_i eN
     simp only [hO,if_neg eN,List.cons_append]
     rw [Xt h]
def zw (l:List aO):Prop:=∀ (i j:Nat) (x y:aO),l[i]? =some x->l[j]? =some y->x.Name=y.Name->i=j
theorem aGF {l:List aO} (h:zw l) {i:Nat} {x:aO} (hi:l[i]? =some x):dV l x.Name=(i:Int):=by
 unfold dV
 rw [aGT (i:=i) hi (by simp [jR]) (fun j y bb hy=>by
  simp only [jR,decide_eq_false_iff_not]
  intro e
  have:=h j i y x hy hi e
  omega)]
 rfl
theorem aGr {F:Nat} {l:List aO} (bW:100 <F) (h:Right l) :
 (zw l/\rB ⟨l,[],[]⟩ F [] 0 =some (.go (fK 0 l))/\si F l F 0 =some (.go ())) \/
 (¬ zw l/\(∃ m,rB ⟨l,[],[]⟩ F [] 0 =some (.out (6,m)))/\si F l F 0 =some (.out 6)):=by
 have hlen:=h.len
 have g4:si F l F 0 =some (dC ((List.range l.length).findSome? fun i:Nat=>(l[i]?).bind fun x:aO=>if dV l x.Name=(i:Int) then none else some 6)):=kN _ (by omega) (fun k i hi=>by
  obtain ⟨x,aj⟩:∃ x,l[i]? =some x:=⟨l[i],List.getElem?_eq_getElem hi⟩
  rw [si,cH hi,cond_true,ch aj,Option.bind_some,w0 ⟨by omega,by omega⟩,Option.bind_some,aj,Option.bind_some]
  by_cases e:dV l x.Name=(i:Int)
  · rw [if_pos e,decide_eq_true e];rfl
  · rw [if_neg e,decide_eq_false e];rfl) (fun k=>by rw [si,cG];rfl) (by omega)
 have key:∀ (d i k:Nat),i+d=l.length->d <k->zw (l.take i) ->
  (zw l/\rB ⟨l,[],[]⟩ k (fK 0 (l.take i)) i=some (.go (fK 0 l)))\/(¬ zw l/\ ∃ m,rB ⟨l,[],[]⟩ k (fK 0 (l.take i)) i=some (.out (6,m))):=by
  intro d
  induction d with
  | zero=>
    intro i k hi bh br
    obtain ⟨k,rfl⟩:∃ k',k=k'+ 1 :=⟨k - 1,by omega⟩
    have e:i=l.length:=by omega
    subst e
    rw [List.take_length] at br ⊢
    left
    refine ⟨br,?_⟩
    rw [rB,cG];rfl
  | succ d ct=>
    intro i k hi bh br
    obtain ⟨k,rfl⟩:∃ k',k=k'+ 1 :=⟨k - 1,by omega⟩
    have gg:i <l.length:=by omega
    obtain ⟨x,aj⟩:∃ x,l[i]? =some x:=⟨l[i],List.getElem?_eq_getElem gg⟩
    rw [rB,cH gg,cond_true,ch aj,Option.bind_some,DM]
    cases b0:fl (jR x.Name) (l.take i) with
    | some j=>
      right
      obtain ⟨y,aB,aR,_⟩:=IK b0
      refine ⟨fun mM=>?_,_,rfl⟩
      have ja:j <i:=by have:=(List.getElem?_eq_some_iff.1 aB).1;simp only [List.length_take] at this;omega
      have hy:l[j]? =some y:=by rw [List.getElem?_take] at aB;rw [if_pos ja] at aB;exact aB
      have:=mM j i y x hy aj (by simpa [jR] using aR)
      omega
    | none=>
      simp only [Option.map_none,Option.isSome_none,cond_false]
      have aAq:du (fK 0 (l.take i)) x.Name=none:=by rw [DM,b0];rfl
      rw [Xt aAq,gK gg (by omega)]
      have bL:l.take (i+ 1)=l.take i++[x]:=by rw [List.take_add_one,aj];rfl
      have b8:fK 0 (l.take i)++[(x.Name,(i:Int))]=fK 0 (l.take (i+ 1)):=by
       rw [bL,af_]
       congr 4
       simp only [List.length_take];omega
      rw [b8]
      refine ct (i+ 1) k (by omega) (by omega) ?_
      intro a b u v bB aY Vd
      rw [List.getElem?_take] at bB aY
      split at bB
      · split at aY
        · rename_i aLb iK
          have aAw:=XH b0
          have pD:∀ (q:Nat) (z:aO),q <i->l[q]? =some z->z.Name≠x.Name:=fun q z ea cV e=>by
           have:=aAw z (List.mem_of_getElem? (i:=q) (by rw [List.getElem?_take,if_pos ea];exact cV))
           simp [jR,e] at this
          by_cases apw:a=i
          · by_cases adH:b=i
            · omega
            · subst apw
              rw [aj] at bB;injection bB with bB;subst bB
              exact absurd Vd.symm (pD b v (by omega) aY)
          · by_cases adH:b=i
            · subst adH
              rw [aj] at aY;injection aY with aY;subst aY
              exact absurd Vd (pD a u (by omega) bB)
            · exact br a b u v (by rw [List.getElem?_take,if_pos (by omega)];exact bB) (by rw [List.getElem?_take,if_pos (by omega)];exact aY) Vd
        · cases aY
      · cases bB
 have bJ:=key l.length 0 F (by omega) (by omega) (fun i j x y hi=>by simp at hi)
 have iE:fK 0 (l.take 0)= []:=by simp [fK]
 rw [iE] at bJ
 rcases bJ with ⟨mM,aB⟩ | ⟨mM,aB⟩
 · left
   refine ⟨mM,aB,?_⟩
   rw [g4]
   have:((List.range l.length).findSome? fun i:Nat=>(l[i]?).bind fun x:aO=>if dV l x.Name=(i:Int) then none else some (6 :Int))=none:=by
    rw [List.findSome?_eq_none_iff]
    intro i hi
    obtain ⟨x,aj⟩:∃ x,l[i]? =some x:=⟨l[i]'(by simpa using hi),List.getElem?_eq_getElem _⟩
    rw [aj,Option.bind_some,if_pos (aGF mM aj)]
   rw [this];rfl
 · right
   refine ⟨mM,aB,?_⟩
   rw [g4]
   cases I:((List.range l.length).findSome? fun i:Nat=>(l[i]?).bind fun x:aO=>if dV l x.Name=(i:Int) then none else some (6 :Int)) with
   | some e=>
     obtain ⟨i,_,hi⟩:=List.exists_of_findSome?_eq_some I
     cases aj:l[i]? with
     | none=>rw [aj] at hi;cases hi
     | some x=>
       rw [aj,Option.bind_some] at hi
       split at hi
       · cases hi
       · injection hi with hi;subst hi;rfl
   | none=>
     exfalso
     apply mM
     have oQ:∀ (i:Nat) (x:aO),l[i]? =some x->dV l x.Name=(i:Int):=by
      intro i x aj
      have:=List.findSome?_eq_none_iff.1 I i (by have:=(List.getElem?_eq_some_iff.1 aj).1;simpa using this)
      rw [aj,Option.bind_some] at this
      split at this
      · assumption
      · cases this
     intro i j x y aj hy e
     have aB:=oQ i x aj
     have aR:=oQ j y hy
     rw [e] at aB
     omega
end J
namespace J
def Bi {ρ r6:Type} (o:Option ρ) (a:r6):Way ρ r6:=match o with
 | some r=>.out r
 | none=>.go a
def ag_ {ρ r6:Type} (o:Option ρ) (y:Option (Way ρ r6)):Option (Way ρ r6):=match o with
 | some r=>some (.out r)
 | none=>y
theorem Qv {ρ r6:Type} {n:Nat} (T:Nat->Nat->Option (Way ρ r6)) (g:Nat->Option ρ) (fin:r6) (a6:∀ k i,i <n->T (k+ 1) i=ag_ (g i) (T k (i+ 1))) (he:∀ k,T (k+ 1) n=some (.go fin)) {F:Nat} (bW:n <F) :
 T F 0 =some (Bi ((List.range n).findSome? g) fin):=by
 have key:∀ (d i k:Nat),i+d=n->d <k->T k i=some (Bi (((List.range n).drop i).findSome? g) fin):=by
  intro d
  induction d with
  | zero=>
    intro i k h bh
    obtain ⟨k,rfl⟩:∃ k',k=k'+ 1 :=⟨k - 1,by omega⟩
    have hi:i=n:=by omega
    subst hi
    rw [he,List.drop_of_length_le (by simp)];rfl
  | succ d ct=>
    intro i k h bh
    obtain ⟨k,rfl⟩:∃ k',k=k'+ 1 :=⟨k - 1,by omega⟩
    have hi:i <n:=by omega
    rw [a6 k i hi,List.drop_eq_getElem_cons (by simpa using hi),List.findSome?_cons]
    simp only [List.getElem_range]
    cases di:g i with
    | some r=>rfl
    | none=>
      simp only [ag_]
      exact ct (i+ 1) k (by omega) (by omega)
 have:=key n 0 F (by omega) bW
 simpa using this
theorem LI {α β Zp:Type} (g:α->Option β) (f:β->Zp):∀ l:List α,l.findSome? (fun c=>(g c).map f)=(l.findSome? g).map f
 | []=>rfl
 | c::r=>by
   simp only [List.findSome?_cons]
   cases g c with
   | some e=>rfl
   | none=>simp only [Option.map_none];exact LI g f r
def ez (l:List aO):List Int:=l.map fun c=>dV l c.b2
theorem YQ {l:List aO} {i:Nat} {x:aO} (h:l[i]? =some x):(ez l)[i]? =some (dV l x.b2):=by simp [ez,h]
def s7 (c:aO):Option Int:=if (decide (c.Name= [79,98,106,101,99,116])) == (decide (c.b2= [])) then none else some 4
def qa (l:List aO) (c:aO):Option Int:=if c.b2= []\/ 0 <=dV l c.b2 then none else some 5
section
variable {F:Nat} {l:List aO}
theorem aIb (bW:100 <F) (h:Right l):wR l F 0 =some (dC (l.findSome? s7)):=each s7 (by have:=h.len;omega) (fun k i x aj=>by
 rw [wR,cH (List.getElem?_eq_some_iff.1 aj).1,cond_true,ch aj,Option.bind_some,Option.bind_some]
 unfold s7
 cases (decide (x.Name= [79,98,106,101,99,116])) == (decide (x.b2= [])) <;> rfl) (fun k=>by rw [wR,cG];rfl) (by have:=h.len;omega)
theorem aIa (bW:100 <F) (h:Right l) (m:List (List UInt8 × Int)) (s:List Int):vq ⟨l,m,s⟩ F 0 =some (dC ((l.findSome? s7).map fun e=>(e,(⟨l,m,s⟩:dk)))):=by
 have:=each (l:=l) (L:=vq ⟨l,m,s⟩) (fun c=>(s7 c).map fun e=>(e,(⟨l,m,s⟩:dk))) (by have:=h.len;omega) (fun k i x aj=>by
  rw [vq]
  show cond (decide ((i:Int) <(l.length:Int))) ((idx l (i:Int)).bind _) _=_
  rw [cH (List.getElem?_eq_some_iff.1 aj).1,cond_true,ch aj,Option.bind_some]
  unfold s7
  cases (decide (x.Name= [79,98,106,101,99,116])) == (decide (x.b2= [])) <;> rfl) (fun k=>by
   rw [vq]
   show cond (decide ((l.length:Int) <(l.length:Int))) _ _=_
   rw [cG];rfl) (F:=F) (by have:=h.len;omega)
 rw [this,LI]
theorem aGl (bW:100 <F) (h:Right l):tx F l F 0 =some (dC (l.findSome? (qa l))):=each (qa l) (by have:=h.len;omega) (fun k i x aj=>by
 have hlen:=h.len
 rw [tx,cH (List.getElem?_eq_some_iff.1 aj).1,cond_true,ch aj,Option.bind_some,Option.bind_some,w0 ⟨by omega,by omega⟩,Option.bind_some]
 unfold qa
 by_cases a6:x.b2= []
 · rw [if_pos (.inl a6),decide_eq_true a6];rfl
 · rw [decide_eq_false a6]
   by_cases hc:0 <=dV l x.b2
   · rw [if_pos (.inr hc),decide_eq_false (show ¬ dV l x.b2 < 0 by omega)];rfl
   · rw [if_neg (by simp [a6,hc]),decide_eq_true (show dV l x.b2 < 0 by omega)];rfl) (fun k=>by rw [tx,cG];rfl) (by have:=h.len;omega)
theorem akA (h:Right l):dV l []= -1 :=by
 unfold dV
 cases b0:fl (jR []) l with
 | none=>rfl
 | some i=>
   obtain ⟨x,aB,aR,_⟩:=IK b0
   have:=aFQ (h.name x (List.mem_of_getElem? aB))
   simp [jR] at aR
   exact absurd aR this
theorem aGk (bW:100 <F) (h:Right l):∃ o:Option (Int × dk),o.map (·.1)=l.findSome? (qa l)/\o1 ⟨l,fK 0 l,[]⟩ F [] 0 =some (Bi o (ez l)):=by
 have hlen:=h.len
 refine ⟨(List.range l.length).findSome? fun i=>((l[i]?).bind (qa l)).map fun e=>(e,(⟨l,fK 0 l,(ez l).take i⟩:dk)),?_,?_⟩
 · have bL:∀ (n:Nat),n<=l.length->((List.range' (l.length - n) n).findSome? fun i=>((l[i]?).bind (qa l)).map fun e=>(e,(⟨l,fK 0 l,(ez l).take i⟩:dk))).map (·.1)=(l.drop (l.length - n)).findSome? (qa l):=by
    intro n
    induction n with
    | zero=>intro _;simp
    | succ n ct=>
      intro af
      have hi:l.length - (n+ 1) <l.length:=by omega
      rw [List.range'_succ,List.findSome?_cons,List.drop_eq_getElem_cons hi,List.findSome?_cons,List.getElem?_eq_getElem hi,Option.bind_some]
      cases qa l l[l.length - (n+ 1)] with
      | some e=>rfl
      | none=>
        simp only [Option.map_none]
        rw [show l.length - (n+ 1)+ 1 =l.length - n by omega]
        exact ct (by omega)
   have:=bL l.length (Nat.le_refl _)
   simpa [List.range_eq_range'] using this
 · refine Qv (n:=l.length) (fun k i=>o1 ⟨l,fK 0 l,[]⟩ k ((ez l).take i) (i:Int)) _ (ez l) (fun k i hi=>?_) (fun k=>?_) (F:=F) (by omega)
   · obtain ⟨x,aj⟩:∃ x,l[i]? =some x:=⟨l[i],List.getElem?_eq_getElem hi⟩
     show o1 ⟨l,fK 0 l,[]⟩ (k+ 1) ((ez l).take i) (i:Int)=_
     rw [o1]
     show cond (decide ((i:Int) <(l.length:Int))) (eh (α:=List Int) ((idx l (i:Int)).bind _) _) _=_
     rw [cH hi,cond_true,ch aj,Option.bind_some,aj,Option.bind_some]
     have aec:du (fK 0 l) x.b2=(fl (jR x.b2) l).map fun n:Nat=>((n+ 0 :Nat):Int):=DM x.b2 l 0
     have dR:(ez l).take (i+ 1)=(ez l).take i++[dV l x.b2]:=by rw [List.take_add_one,YQ aj];rfl
     have z8:dU 8 ((ez l).take i) [dV l x.b2]=some ((ez l).take (i+ 1)):=by
      unfold dU
      rw [if_pos (by simp only [List.length_take,List.length_cons,List.length_nil];omega),dR]
     have fin:∀ n:Int,n=dV l x.b2->eh (α:=List Int) (eh (α:=Int) (ρ:=Int × dk) (some (.go n)) fun (rF:Int)=>(dU 8 ((ez l).take i) [rF]).bind fun Dv=>some (.go Dv)) (fun (rv:List Int)=>o1 ⟨l,fK 0 l,[]⟩ k rv (av ((i:Int)+ 1)))=o1 ⟨l,fK 0 l,[]⟩ k ((ez l).take (i+ 1)) ((i+ 1 :Nat):Int):=by
      intro n af
      subst af
      rw [n4,z8,Option.bind_some,n4,gK hi (by omega)]
     unfold qa
     by_cases a6:x.b2= []
     · rw [if_pos (.inl a6),decide_eq_true a6,cond_true]
       exact fin (-1) (by rw [a6,akA h])
     · rw [decide_eq_false a6,cond_false]
       cases b0:fl (jR x.b2) l with
       | none=>
         have x5:dV l x.b2 < 0 :=akz.2 b0
         rw [if_neg (by simp [a6];omega),aec,b0]
         rfl
       | some j=>
         have pI:dV l x.b2=(j:Int):=by unfold dV;rw [b0];rfl
         rw [if_pos (.inr (by omega)),aec,b0]
         exact fin _ (by rw [pI];simp)
   · show o1 ⟨l,fK 0 l,[]⟩ (k+ 1) ((ez l).take l.length) (l.length:Int)=_
     rw [o1]
     show cond (decide ((l.length:Int) <(l.length:Int))) _ _=_
     rw [cG,cond_false,List.take_of_length_le (by simp [ez])]
def eF (S:List Int):Nat->Int->Option (List Int)
 | 0,n=>if n < 0 then some [] else none
 | k+ 1,n=>if n < 0 then some [] else (idx S n).bind fun m=>(eF S k m).map (n:: ·)
theorem ag2 {S:List Int}:∀ {k:Nat} {n:Int} {c:List Int},eF S k n=some c->eF S (k+ 1) n=some c
 | 0,n,c,h=>by
   simp only [eF] at h ⊢
   split at h
   · rename_i af;rw [if_pos af];exact h
   · cases h
 | k+ 1,n,c,h=>by
   rw [eF] at h ⊢
   split at h
   · rename_i af;rw [if_pos af];exact h
   · rename_i af
     rw [if_neg af]
     cases hi:idx S n with
     | none=>rw [hi] at h;cases h
     | some m=>
       rw [hi,Option.bind_some] at h
       rw [Option.bind_some]
       cases hu:eF S k m with
       | none=>rw [hu] at h;cases h
       | some dF=>rw [hu] at h;rw [ag2 hu];exact h
theorem N6 {S:List Int} {k k':Nat} {n:Int} {c:List Int} (h:eF S k n=some c) (bh:k<=k'):eF S k' n=some c:=by
 obtain ⟨d,rfl⟩:∃ d,k'=k+d:=⟨k' - k,by omega⟩
 clear bh
 induction d with
 | zero=>exact h
 | succ d ct=>exact ag2 ct
theorem aIq {S:List Int} {k k':Nat} {n:Int} {c dF:List Int} (h:eF S k n=some c) (dN:eF S k' n=some dF):c=dF:=by
 have aB:=N6 h (Nat.le_max_left k k')
 have aR:=N6 dN (Nat.le_max_right k k')
 rw [aB] at aR
 exact Option.some.inj aR
theorem ag1 {S:List Int}:∀ {k:Nat} {n:Int} {c:List Int},eF S k n=some c->c.length<=k/\eF S c.length n=some c
 | 0,n,c,h=>by
   simp only [eF] at h
   split at h
   · rename_i af
     injection h with h
     subst h
     simp [eF,af]
   · cases h
 | k+ 1,n,c,h=>by
   have bJ:=h
   rw [eF] at h
   split at h
   · rename_i af
     injection h with h
     subst h
     simp [eF,af]
   · rename_i af
     cases hi:idx S n with
     | none=>rw [hi] at h;cases h
     | some m=>
       rw [hi,Option.bind_some] at h
       cases hu:eF S k m with
       | none=>rw [hu] at h;cases h
       | some dF=>
         rw [hu] at h
         simp only [Option.map_some,Option.some.injEq] at h
         subst h
         obtain ⟨aB,aR⟩:=ag1 hu
         refine ⟨by simpa using aB,?_⟩
         rw [List.length_cons,eF,if_neg af,hi,Option.bind_some,aR];rfl
theorem N7 {S:List Int}:∀ {k:Nat} {n:Int} {c:List Int},eF S k n=some c-> ∀ x ∈ c,(0 <=x/\x <S.length)/\ ∃ k' dF,eF S k' x=some dF/\dF.length<=c.length/\dF≠ []
 | 0,n,c,h,x,aj=>by
   simp only [eF] at h
   split at h
   · injection h with h;subst h;cases aj
   · cases h
 | k+ 1,n,c,h,x,aj=>by
   have bJ:=h
   rw [eF] at h
   split at h
   · injection h with h;subst h;cases aj
   · rename_i af
     cases hi:idx S n with
     | none=>rw [hi] at h;cases h
     | some m=>
       rw [hi,Option.bind_some] at h
       cases hu:eF S k m with
       | none=>rw [hu] at h;cases h
       | some dF=>
         rw [hu] at h
         simp only [Option.map_some,Option.some.injEq] at h
         subst h
         obtain ⟨aKN,iH,_⟩:=uM hi
         rcases List.mem_cons.1 aj with rfl | e
         · exact ⟨⟨by omega,by omega⟩,k+ 1,_,bJ,Nat.le_refl _,by simp⟩
         · obtain ⟨aB,k',eb,aR,bT,eo⟩:=N7 hu x e
           exact ⟨aB,k',eb,aR,by simp only [List.length_cons];omega,eo⟩
theorem ag0 {S:List Int}:∀ {k:Nat} {n:Int} {c:List Int},eF S k n=some c->c.Nodup
 | 0,n,c,h=>by
   simp only [eF] at h
   split at h
   · injection h with h;subst h;simp
   · cases h
 | k+ 1,n,c,h=>by
   have bJ:=h
   rw [eF] at h
   split at h
   · injection h with h;subst h;simp
   · cases hi:idx S n with
     | none=>rw [hi] at h;cases h
     | some m=>
       rw [hi,Option.bind_some] at h
       cases hu:eF S k m with
       | none=>rw [hu] at h;cases h
       | some dF=>
         rw [hu] at h
         simp only [Option.map_some,Option.some.injEq] at h
         subst h
         refine List.nodup_cons.2 ⟨fun pD=>?_,ag0 hu⟩
         obtain ⟨_,k',eb,aR,bT,_⟩:=N7 hu n pD
         have:=aIq bJ aR
         subst this
         simp only [List.length_cons] at bT
         omega
theorem XE:∀ (n:Nat) (c:List Nat),c.Nodup->(∀ x ∈ c,x <n)->c.length<=n
 | 0,c,_,h=>by
   cases c with
   | nil=>simp
   | cons x r=>exact absurd (h x (by simp)) (by omega)
 | n+ 1,c,bZ,h=>by
   by_cases af:n ∈ c
   · have aB:=XE n (c.erase n) (bZ.erase n) (fun x aj=>by
      have aR:=(bZ.mem_erase_iff).1 aj
      have:=h x aR.2
      omega)
     rw [List.length_erase_of_mem af] at aB
     omega
   · have:=XE n c bZ (fun x aj=>by
      have aB:=h x aj
      have:x≠n:=fun e=>af (e ▸ aj)
      omega)
     omega
theorem agZ {S:List Int} {k:Nat} {n:Int} {c:List Int} (h:eF S k n=some c):c.length<=S.length:=by
 have b0:=N7 h
 have bZ:=ag0 h
 have:=XE S.length (c.map Int.toNat) (by
  rw [List.Nodup,List.pairwise_map]
  refine List.Pairwise.imp_of_mem ?_ bZ
  intro a b bB aY CY e
  have aB:=(b0 a bB).1
  have aR:=(b0 b aY).1
  exact CY (by omega)) (fun x aj=>by
  obtain ⟨y,hy,rfl⟩:=List.mem_map.1 aj
  have aB:=(b0 y hy).1
  omega)
 simpa using this
theorem aIp {S:List Int} {k:Nat} {n:Int} (bh:S.length<=k):eF S k n=eF S S.length n:=by
 cases h:eF S k n with
 | some c=>
   obtain ⟨_,aR⟩:=ag1 h
   exact (N6 aR (agZ h)).symm
 | none=>
   cases dN:eF S S.length n with
   | none=>rfl
   | some c=>rw [N6 dN bh] at h;cases h
theorem aku {m:List (List UInt8 × Int)} {S:List Int} {k:Nat} {n:Int} {c:List Int} (h:eF S k n=some c) (hc:c.length<= 1000) (bW:1001 <F):vt F ⟨l,m,S⟩ n=some c:=by
 have key:∀ (k:Nat) (n:Int) (c acc:List Int) (f:Nat),eF S k n=some c->c.length <f->acc.length+c.length<= 1000 ->vu ⟨l,m,S⟩ f acc n=some (acc++c):=by
  intro k
  induction k with
  | zero=>
    intro n c acc f h I _
    obtain ⟨f,rfl⟩:∃ eR,f=eR+ 1 :=⟨f - 1,by omega⟩
    simp only [eF] at h
    split at h
    · injection h with h
      subst h
      rw [vu,decide_eq_false (by omega)]
      simp
    · cases h
  | succ k ct=>
    intro n c acc f h I az
    obtain ⟨f,rfl⟩:∃ eR,f=eR+ 1 :=⟨f - 1,by omega⟩
    rw [eF] at h
    split at h
    · injection h with h
      subst h
      rw [vu,decide_eq_false (by omega)]
      simp
    · rename_i af
      cases hi:idx S n with
      | none=>rw [hi] at h;cases h
      | some x=>
        rw [hi,Option.bind_some] at h
        cases hu:eF S k x with
        | none=>rw [hu] at h;cases h
        | some dF=>
          rw [hu] at h
          simp only [Option.map_some,Option.some.injEq] at h
          subst h
          simp only [List.length_cons] at I az
          rw [vu,decide_eq_true (by omega),cond_true]
          unfold dU
          rw [if_pos (by simp only [List.length_cons,List.length_nil];omega)]
          show ((some (acc++[n])).bind fun Ip=>(idx S n).bind fun gU=>_)=_
          rw [Option.bind_some,hi,Option.bind_some,ct x dF (acc++[n]) f hu (by omega) (by simp only [List.length_append,List.length_cons,List.length_nil];omega)]
          simp
 unfold vt
 rw [key k n c [] F h (by omega) (by simp;omega)]
 rfl
end
end J
namespace J
section
variable {F:Nat} {l:List aO}
theorem D8:(ez l).length=l.length:=by simp [ez]
theorem vN {n:Int} (bJ:0 <=n) (aB:n <l.length):∃ x,idx l n=some x/\idx (ez l) n=some (dV l x.b2):=by
 obtain ⟨x,aj⟩:∃ x,l[n.toNat]? =some x:=⟨l[n.toNat]'(by omega),List.getElem?_eq_getElem _⟩
 refine ⟨x,?_,?_⟩
 · unfold idx;rw [if_pos bJ,aj]
 · unfold idx;rw [if_pos bJ,YQ aj]
def YW (o:Option (List Int)) (acc:List Int):Way (List Int) (List Int):=match o with
 | some c=>.go (c.reverse++acc)
 | none=>.out []
def eG (l:List aO) (n:Int):List Int:=(eF (ez l) l.length n).getD []
theorem N5 (bW:1100 <F) (h:Right l) {n:Int} (aB:n <l.length):xc F l n=some (eG l n).reverse:=by
 have hlen:=h.len
 have key:∀ (d:Nat) (acc:List Int) (n:Int) (f:Nat),acc.length+d=l.length+ 1 ->d+ 1 <f->n <l.length->xd F l f n acc=some (YW (eF (ez l) d n) acc):=by
  intro d
  induction d with
  | zero=>
    intro acc n f bB I af
    obtain ⟨f,rfl⟩:∃ eR,f=eR+ 1 :=⟨f - 1,by omega⟩
    rw [xd,eF]
    by_cases bJ:n < 0
    · rw [if_pos bJ,decide_eq_false (by omega)];rfl
    · rw [if_neg bJ,decide_eq_true (by omega),cond_true,decide_eq_true (by omega)];rfl
  | succ d ct=>
    intro acc n f bB I af
    obtain ⟨f,rfl⟩:∃ eR,f=eR+ 1 :=⟨f - 1,by omega⟩
    rw [xd,eF]
    by_cases bJ:n < 0
    · rw [if_pos bJ,decide_eq_false (by omega)];rfl
    · obtain ⟨x,aj,a6⟩:=vN (l:=l) (n:=n) (by omega) af
      rw [if_neg bJ,decide_eq_true (by omega),cond_true,decide_eq_false (by omega),cond_false]
      unfold dU
      rw [if_pos (by simp only [List.length_cons,List.length_nil];omega)]
      show ((some ([n]++acc)).bind fun Iq=>(idx l n).bind fun Bl=>_)=_
      rw [Option.bind_some,aj,Option.bind_some,w0 ⟨by omega,by omega⟩,Option.bind_some,a6,Option.bind_some,ct ([n]++acc) _ f (by simp only [List.length_append,List.length_cons,List.length_nil];omega) (by omega) Rc]
      cases eF (ez l) d (dV l x.b2) with
      | none=>rfl
      | some c=>simp [YW]
 unfold xc
 rw [key (l.length+ 1) [] n F (by simp) (by omega) aB,aIp (k:=l.length+ 1) (by rw [D8];omega),D8]
 unfold eG
 cases eF (ez l) l.length n with
 | none=>rfl
 | some c=>simp [YW,dv]
def t' (l:List aO) (i:Nat):Option Int:=if (eF (ez l) l.length (i:Int)).isSome then none else some 4
theorem YV {S:List Int} {k:Nat} {n:Int} {c:List Int} (h:eF S k n=some c) (bJ:0 <=n):∃ r,c=n::r:=by
 cases k with
 | zero=>simp only [eF] at h;rw [if_neg (by omega)] at h;cases h
 | succ k=>
   rw [eF,if_neg (by omega)] at h
   cases hi:idx S n with
   | none=>rw [hi] at h;cases h
   | some m=>
     rw [hi,Option.bind_some] at h
     cases hu:eF S k m with
     | none=>rw [hu] at h;cases h
     | some dF=>rw [hu] at h;simp only [Option.map_some,Option.some.injEq] at h;exact ⟨dF,h.symm⟩
theorem akU (bW:1100 <F) (h:Right l):wS F l F 0 =some (dC ((List.range l.length).findSome? (t' l))):=kN _ (by have:=h.len;omega) (fun k i hi=>by
 rw [wS,cH hi,cond_true,N5 bW h (by omega),Option.bind_some]
 unfold t' eG
 cases hu:eF (ez l) l.length (i:Int) with
 | none=>rfl
 | some c=>
   obtain ⟨r,rfl⟩:=YV hu (by omega)
   rw [decide_eq_false (by simp;omega)]
   rfl) (fun k=>by rw [wS,cG];rfl) (by have:=h.len;omega)
theorem acQ (h:Right l) (m:List (List UInt8 × Int)) (s:List Int):∀ (d i f:Nat) (n:Int),i+d=l.length->d <f-> 0 <=n->n <l.length-> ∃ r,yr ⟨l,m,s⟩ (ez l) f n i=some r/\(r < 0 ↔ (eF (ez l) d n).isSome=true)
 | 0,i,f,n,hi,I,bJ,af=>by
   obtain ⟨f,rfl⟩:∃ eR,f=eR+ 1 :=⟨f - 1,by omega⟩
   have:i=l.length:=by omega
   subst this
   refine ⟨n,?_,?_⟩
   · rw [yr]
     show cond (decide ((l.length:Int) <(l.length:Int))) _ _=_
     rw [cG];rfl
   · rw [eF,if_neg (by omega)];simp;omega
 | d+ 1,i,f,n,hi,I,bJ,af=>by
   obtain ⟨f,rfl⟩:∃ eR,f=eR+ 1 :=⟨f - 1,by omega⟩
   obtain ⟨x,aj,a6⟩:=vN (l:=l) (n:=n) bJ af
   have hlen:=h.len
   rw [yr]
   have hc:decide ((i:Int) <((⟨l,m,s⟩:dk).l.length:Int))=true:=cH (n:=l.length) (by omega)
   rw [hc,cond_true,a6,Option.bind_some,eF,if_neg (by omega),a6,Option.bind_some]
   by_cases x5:dV l x.b2 < 0
   · rw [decide_eq_true x5,cond_true]
     refine ⟨_,rfl,?_⟩
     have:eF (ez l) d (dV l x.b2)=some []:=by cases d <;> simp [eF,x5]
     rw [this];simp [x5]
   · rw [decide_eq_false x5,cond_false,gK (n:=l.length) (by omega) (by omega)]
     obtain ⟨r,aB,aR⟩:=acQ h m s d (i+ 1) f (dV l x.b2) (by omega) (by omega) (by omega) Rc
     refine ⟨r,aB,aR.trans ?_⟩
     simp
theorem akT (bW:1100 <F) (h:Right l) (m:List (List UInt8 × Int)) (s:List Int):vr F ⟨l,m,s⟩ (ez l) F 0 =some (dC (((List.range l.length).findSome? (t' l)).map fun e=>(e,(⟨l,m,ez l⟩:dk)))):=by
 have hlen:=h.len
 have:=kN (n:=l.length) (L:=vr F ⟨l,m,s⟩ (ez l)) (fun i=>(t' l i).map fun e=>(e,(⟨l,m,ez l⟩:dk))) (by omega) (fun k i hi=>by
  rw [vr]
  have hc:decide ((i:Int) <((⟨l,m,s⟩:dk).l.length:Int))=true:=cH (n:=l.length) hi
  obtain ⟨r,aB,aR⟩:=acQ h m s l.length 0 F (i:Int) (by omega) (by omega) (by omega) (by omega)
  rw [hc,cond_true,show (0 :Int)=((0 :Nat):Int) from rfl,aB]
  simp only [Option.bind_some]
  unfold t'
  cases hu:(eF (ez l) l.length (i:Int)).isSome with
  | true=>rw [if_pos rfl,decide_eq_false (show ¬ ((0 :Nat):Int)<=r from fun bQ=>by have:=aR.2 hu;omega)];rfl
  | false=>rw [if_neg (by simp),decide_eq_true (show ((0 :Nat):Int)<=r from by
   rcases Int.lt_or_le r 0 with bQ | bQ
   · have:=aR.1 bQ;rw [hu] at this;cases this
   · exact bQ)];rfl) (fun k=>by
    rw [vr]
    show cond (decide ((l.length:Int) <(l.length:Int))) _ _=_
    rw [cG];rfl) (F:=F) (by omega)
 rw [this,LI]
structure il (l:List aO):Prop where
 right:Right l
 aLp:zw l
 aLo:∀ c ∈ l,c.b2= []\/ 0 <=dV l c.b2
 up:∀ i,i <l.length-> ∃ c,eF (ez l) l.length (i:Int)=some c
 top:∀ c ∈ l,s7 c=none
 obj:0 <=dV l [79,98,106,101,99,116]
theorem il.chain (h:il l) {n:Int} (bJ:0 <=n) (aB:n <l.length):eF (ez l) l.length n=some (eG l n)/\(eG l n).length<= 10 /\(∀ x ∈ eG l n,0 <=x/\x <l.length):=by
 obtain ⟨c,hc⟩:=h.up n.toNat (by omega)
 rw [show ((n.toNat:Nat):Int)=n by omega] at hc
 have e:eG l n=c:=by unfold eG;rw [hc];rfl
 rw [e]
 refine ⟨hc,?_,fun x aj=>?_⟩
 · have:=agZ hc;rw [D8] at this;have:=h.right.len;omega
 · have:=(N7 hc x aj).1;rw [D8] at this;exact this
theorem il.Xn (h:il l) (bW:1100 <F) (m:List (List UInt8 × Int)) {n:Int} (bJ:0 <=n) (aB:n <l.length):vt F ⟨l,m,ez l⟩ n=some (eG l n):=by
 obtain ⟨hc,az,_⟩:=h.chain bJ aB
 exact aku (l:=l) hc (by omega) (by omega)
def nF (l:List aO) (i:Int):List Field:=((idx l i).map (·.Fields)).getD []
def gp (l:List aO) (n:Int):List Field:=(eG l n).reverse.flatMap (nF l)
theorem Rr (h:Right l) (i:Int):(nF l i).length<= 6 :=by
 unfold nF
 cases aj:idx l i with
 | none=>simp
 | some x=>
   obtain ⟨_,_,aR⟩:=uM aj
   exact h.fields x (List.mem_of_getElem? aR)
theorem Rs (h:Right l):∀ r:List Int,(r.flatMap (nF l)).length<= 6 *r.length
 | []=>by simp
 | x::r=>by
   have aB:=Rr h x
   have aR:=Rs h r
   simp only [List.flatMap_cons,List.length_append,List.length_cons]
   omega
theorem ada (h:Right l) (m:List (List UInt8 × Int)) (s:List Int):∀ (rem:List Int) (acc:List Field),(∀ x ∈ rem,0 <=x/\x <l.length)->acc.length+ 6 *rem.length<= 1000 ->yu ⟨l,m,s⟩ rem acc=some (acc++rem.flatMap (nF l))
 | [],acc,_,_=>by simp [yu]
 | x::rem,acc,aj,az=>by
   obtain ⟨c,hc,_⟩:=vN (l:=l) (aj x (by simp)).1 (aj x (by simp)).2
   have I:nF l x=c.Fields:=by unfold nF;rw [hc];rfl
   have aB:=Rr h x
   rw [I] at aB
   simp only [List.length_cons] at az
   rw [yu]
   show ((idx l x).bind fun zf=>_)=_
   rw [hc,Option.bind_some]
   unfold dU
   rw [if_pos (by omega),Option.bind_some,ada h m s rem _ (fun y hy=>aj y (by simp [hy])) (by simp only [List.length_append];omega),List.flatMap_cons,I]
   simp
theorem il.Xo (h:il l) (bW:1100 <F) (m:List (List UInt8 × Int)) {n:Int} (bJ:0 <=n) (aB:n <l.length):yt F ⟨l,m,ez l⟩ n=some (gp l n):=by
 obtain ⟨_,az,hm⟩:=h.chain bJ aB
 unfold yt
 have:=h.Xn bW m bJ aB
 simp only at this ⊢
 rw [this,Option.bind_some]
 unfold I3
 rw [Option.bind_some,ada h.right m (ez l) _ [] (fun x aj=>hm x (by simpa using aj)) (by simp;omega)]
 simp [gp]
theorem il.YF (h:il l) (bW:1100 <F) {n:Int} (bJ:0 <=n) (aB:n <l.length):zx F l n=some (gp l n):=by
 obtain ⟨_,az,hm⟩:=h.chain bJ aB
 unfold zx
 rw [N5 bW h.right aB,Option.bind_some]
 have:qP l (eG l n).reverse F [] 0 =some (gp l n):=by
  refine MZ (n:=(eG l n).reverse.length) (fun k i=>qP l (eG l n).reverse k (((eG l n).reverse.take i).flatMap (nF l)) (i:Int)) (gp l n) (fun k i hi=>?_) (fun k=>?_) (F:=F) (by simp;omega)
  · obtain ⟨x,aj⟩:∃ x,(eG l n).reverse[i]? =some x:=⟨(eG l n).reverse[i],List.getElem?_eq_getElem hi⟩
    have aY:=hm x (by simpa using List.mem_of_getElem? aj)
    obtain ⟨c,hc,_⟩:=vN (l:=l) aY.1 aY.2
    have I:nF l x=c.Fields:=by unfold nF;rw [hc];rfl
    have aR:=Rr h.right x
    rw [I] at aR
    have bT:=Rs h.right ((eG l n).reverse.take i)
    simp only [List.length_take,List.length_reverse] at bT hi
    show qP l (eG l n).reverse (k+ 1) (((eG l n).reverse.take i).flatMap (nF l)) (i:Int)=_
    rw [qP,cH (by simpa using hi),cond_true,ch aj,Option.bind_some,hc,Option.bind_some]
    unfold dU
    rw [if_pos (by omega),Option.bind_some,gK (n:=(eG l n).length) hi (by omega),List.take_add_one,aj,List.flatMap_append]
    simp [I]
  · show qP l (eG l n).reverse (k+ 1) (((eG l n).reverse.take (eG l n).reverse.length).flatMap (nF l)) ((eG l n).reverse.length:Int)=_
    rw [qP,cG,List.take_length];rfl
 rw [this];rfl
end
end J
namespace J
section
variable {F:Nat} {l:List aO}
abbrev ot:=List (List UInt8) × List Target
def oX (nm:List UInt8) (x:List UInt8):Bool:=decide (nm=x)
def tJ (p:ot) (nm:List UInt8) (t:Target):ot:=match fl (oX nm) p.1 with
 | some k=>(p.1,p.2.set k t)
 | none=>(p.1 ++[nm],p.2 ++[t])
def qW (ci:Int):List Method->Nat->ot->ot
 | [],_,p=>p
 | m::r,k,p=>qW ci r (k+ 1) (tJ p m.Name ⟨ci,k⟩)
def fI (l:List aO) (i:Int):List Method:=((idx l i).map (·.aU)).getD []
def xh (l:List aO):List Int->ot->ot
 | [],p=>p
 | ci::r,p=>xh l r (qW ci (fI l ci) 0 p)
def tab (l:List aO) (n:Int):ot:=xh l (eG l n).reverse ([],[])
theorem Qx {p:ot} {nm:List UInt8} {t:Target} (h:p.1.length=p.2.length):(tJ p nm t).1.length=(tJ p nm t).2.length/\(tJ p nm t).1.length<=p.1.length+ 1 :=by
 unfold tJ
 cases fl (oX nm) p.1 with
 | some k=>simp [h]
 | none=>simp [h]
theorem Qw {ci:Int}:∀ {r:List Method} {k:Nat} {p:ot},p.1.length=p.2.length->(qW ci r k p).1.length=(qW ci r k p).2.length/\(qW ci r k p).1.length<=p.1.length+r.length
 | [],_,p,h=>⟨h,Nat.le_refl _⟩
 | m::r,k,p,h=>by
   obtain ⟨aB,aR⟩:=Qx (nm:=m.Name) (t:=⟨ci,k⟩) h
   obtain ⟨bT,eo⟩:=Qw (ci:=ci) (r:=r) (k:=k+ 1) aB
   exact ⟨bT,by simp only [qW,List.length_cons];omega⟩
theorem aFH {e4:List (List UInt8)} (h:Small F e4.length) (nm:List UInt8):Jc F e4 nm=some (((fl (oX nm) e4).map fun n:Nat=>(n:Int)).getD (-1)):=by
 unfold Jc
 have l1:y7 e4 nm F 0 =some (dC ((fl (oX nm) e4).map fun n:Nat=>(n:Int))):=Rq (oX nm) _ h.1 (fun k i x aj=>by
  rw [y7,cH (List.getElem?_eq_some_iff.1 aj).1,cond_true,ch aj,Option.bind_some];rfl) (fun k=>by rw [y7,cG];rfl) h.2
 rw [l1,j7]
 cases fl (oX nm) e4 <;> rfl
theorem agS (bW:1100 <F) (ci:Int) (c:aO) (hc:c.aU.length<= 8):∀ (d i f:Nat) (p:ot),i+d=c.aU.length->d <f->p.1.length=p.2.length->p.1.length+d<= 1000 ->
 yA F ci c f p.1 p.2 (i:Int)=some (qW ci (c.aU.drop i) i p)
 | 0,i,f,p,hi,I,b0,_=>by
   obtain ⟨f,rfl⟩:∃ eR,f=eR+ 1 :=⟨f - 1,by omega⟩
   have:i=c.aU.length:=by omega
   subst this
   rw [yA,cG,List.drop_of_length_le (Nat.le_refl _)];rfl
 | d+ 1,i,f,p,hi,I,b0,az=>by
   obtain ⟨f,rfl⟩:∃ eR,f=eR+ 1 :=⟨f - 1,by omega⟩
   have gg:i <c.aU.length:=by omega
   obtain ⟨aB,aR⟩:=Qx (nm:=c.aU[i].Name) (t:=⟨ci,i⟩) b0
   have next:=agS bW ci c hc d (i+ 1) f (tJ p c.aU[i].Name ⟨ci,i⟩) (by omega) (by omega) aB (by omega)
   rw [yA,cH gg,cond_true,ch (List.getElem?_eq_getElem gg),Option.bind_some,aFH ⟨by omega,by omega⟩,Option.bind_some,List.drop_eq_getElem_cons gg,qW,<-next]
   unfold tJ
   cases UR:fl (oX c.aU[i].Name) p.1 with
   | some k=>
     have bh:=XG UR
     simp only [Option.map_some,Option.getD_some]
     rw [decide_eq_true (show (0 :Int)<=(k:Int) by omega),cond_true,ch (List.getElem?_eq_getElem (show k <p.2.length by omega)),Option.bind_some,Option.bind_some,Option.bind_some,gK gg (by omega)]
     simp
   | none=>
     simp only [Option.map_none,Option.getD_none]
     rw [decide_eq_false (show ¬ (0 :Int)<= -1 by decide),cond_false]
     unfold dU
     rw [if_pos (by simp only [List.length_cons,List.length_nil];omega),Option.bind_some,if_pos (by simp only [List.length_cons,List.length_nil];omega),Option.bind_some,Option.bind_some,gK gg (by omega)]
theorem af7 (h:Right l) (i:Int):(fI l i).length<= 8 :=by
 unfold fI
 cases aj:idx l i with
 | none=>simp
 | some x=>
   obtain ⟨_,_,aR⟩:=uM aj
   exact h.methods x (List.mem_of_getElem? aR)
theorem agR (bW:1100 <F) (h:Right l) (m:List (List UInt8 × Int)) (s:List Int):∀ (rem:List Int) (p:ot),(∀ x ∈ rem,0 <=x/\x <l.length)->p.1.length=p.2.length->p.1.length+ 8 *rem.length<= 900 ->
 yz F ⟨l,m,s⟩ rem p.1 p.2 =some (xh l rem p)
 | [],p,_,_,_=>by simp [yz,xh]
 | x::rem,p,aj,b0,az=>by
   obtain ⟨c,hc,_⟩:=vN (l:=l) (aj x (by simp)).1 (aj x (by simp)).2
   have hm:fI l x=c.aU:=by unfold fI;rw [hc];rfl
   have sA:=af7 h x
   have Gt:=sA
   rw [hm] at Gt
   simp only [List.length_cons] at az
   obtain ⟨iH,jL⟩:=Qw (ci:=x) (r:=fI l x) (k:=0) b0
   rw [yz]
   show (Option.bind (α:=(List (List UInt8)) × (List Target)) ((idx l x).bind fun gL=>_) _)=_
   rw [hc,Option.bind_some]
   have:=agS bW x c Gt c.aU.length 0 F p (by omega) (by omega) b0 (by omega)
   rw [show ((0 :Nat):Int)= 0 from rfl] at this
   rw [this,List.drop_zero,Option.bind_some,Option.bind_some,xh,<-hm]
   exact agR bW h m s rem _ (fun y hy=>aj y (by simp [hy])) iH (by omega)
theorem il.aF' (h:il l) (bW:1100 <F) (m:List (List UInt8 × Int)) {n:Int} (bJ:0 <=n) (aB:n <l.length):Iw F ⟨l,m,ez l⟩ n=some (tab l n):=by
 obtain ⟨_,az,hm⟩:=h.chain bJ aB
 unfold Iw
 have:=h.Xn bW m bJ aB
 simp only at this ⊢
 rw [this,Option.bind_some]
 unfold I3
 rw [Option.bind_some,agR bW h.right m (ez l) _ ([],[]) (fun x aj=>hm x (by simpa using aj)) rfl (by simp;omega)]
 rfl
theorem aH8 (e4:List (List UInt8)) (m:Method) (h:Small F e4.length):tF e4 m F 0 =some (((fl (oX m.Name) e4).getD e4.length:Nat):Int):=by
 have key:∀ (d i f:Nat),i+d=e4.length->d <f->tF e4 m f (i:Int)=some ((i+(fl (oX m.Name) (e4.drop i)).getD d:Nat):Int):=by
  intro d
  induction d with
  | zero=>
    intro i f hi I
    obtain ⟨f,rfl⟩:∃ eR,f=eR+ 1 :=⟨f - 1,by omega⟩
    have:i=e4.length:=by omega
    subst this
    rw [tF,cG,List.drop_of_length_le (Nat.le_refl _)];rfl
  | succ d ct=>
    intro i f hi I
    obtain ⟨f,rfl⟩:∃ eR,f=eR+ 1 :=⟨f - 1,by omega⟩
    have gg:i <e4.length:=by omega
    rw [tF,cH gg,cond_true,ch (List.getElem?_eq_getElem gg),Option.bind_some,List.drop_eq_getElem_cons gg,fl]
    by_cases e:e4[i]=m.Name
    · rw [decide_eq_true e,if_pos (by simp [oX,e])];simp
    · rw [decide_eq_false e,if_neg (by simp [oX];exact fun h=>e h.symm)]
      simp only [Bool.not_false,cond_true]
      rw [gK gg h.1,ct (i+ 1) f (by omega) (by omega)]
      congr 2
      cases fl (oX m.Name) (e4.drop (i+ 1)) with
      | none=>simp;omega
      | some k=>simp;omega
 have:=key e4.length 0 F (by omega) h.2
 simpa using this
theorem agW (bW:1100 <F) (nj:List Int) (n:Nat) (ci:Int) (c:aO) (bQ:nj[n]? =some ci) (pz:idx l ci=some c) (hc:c.aU.length<= 8):∀ (d i f:Nat) (p:ot),i+d=c.aU.length->d <f->p.1.length=p.2.length->p.1.length+d<= 1000 ->
 xb F l nj (n:Int) f p.2 p.1 (i:Int)=some ((qW ci (c.aU.drop i) i p).2,(qW ci (c.aU.drop i) i p).1)
 | 0,i,f,p,hi,I,b0,_=>by
   obtain ⟨f,rfl⟩:∃ eR,f=eR+ 1 :=⟨f - 1,by omega⟩
   have:i=c.aU.length:=by omega
   subst this
   rw [xb,ch bQ,Option.bind_some,pz,Option.bind_some,cG,List.drop_of_length_le (Nat.le_refl _)];rfl
 | d+ 1,i,f,p,hi,I,b0,az=>by
   obtain ⟨f,rfl⟩:∃ eR,f=eR+ 1 :=⟨f - 1,by omega⟩
   have gg:i <c.aU.length:=by omega
   obtain ⟨aB,aR⟩:=Qx (nm:=c.aU[i].Name) (t:=⟨ci,i⟩) b0
   have next:=agW bW nj n ci c bQ pz hc d (i+ 1) f (tJ p c.aU[i].Name ⟨ci,i⟩) (by omega) (by omega) aB (by omega)
   rw [xb,ch bQ,Option.bind_some,pz,Option.bind_some,cH gg,cond_true,Option.bind_some,pz,Option.bind_some,ch (List.getElem?_eq_getElem gg),Option.bind_some,aH8 p.1 _ ⟨by omega,by omega⟩,Option.bind_some,List.drop_eq_getElem_cons gg,qW,<-next]
   unfold tJ
   cases UR:fl (oX c.aU[i].Name) p.1 with
   | some k=>
     have bh:=XG UR
     simp only [Option.getD_some]
     rw [decide_eq_false (show ¬ ((k:Nat):Int)=(p.1.length:Int) by omega),cond_false,Option.bind_some]
     simp only [ch bQ,Option.bind_some]
     rw [ch (List.getElem?_eq_getElem (show k <p.2.length by omega)),Option.bind_some,Option.bind_some,gK gg (by omega)]
     simp
   | none=>
     simp only [Option.getD_none,decide_true,cond_true]
     unfold dU
     rw [if_pos (by simp only [List.length_cons,List.length_nil];omega),Option.bind_some,if_pos (by simp only [List.length_cons,List.length_nil];omega),Option.bind_some,Option.bind_some]
     simp only [ch bQ,Option.bind_some]
     rw [ch (i:=p.1.length) (x:=(⟨0,0⟩:Target)) (by rw [b0];simp),Option.bind_some,Option.bind_some,gK gg (by omega)]
     simp [b0,List.set_append]
theorem il.aHu (h:il l) (bW:1100 <F) {n:Int} (bJ:0 <=n) (aB:n <l.length):Fq F l n=some (tab l n):=by
 obtain ⟨_,az,hm⟩:=h.chain bJ aB
 unfold Fq
 rw [N5 bW h.right aB,Option.bind_some]
 have key:∀ (d i f:Nat) (p:ot),i+d=(eG l n).reverse.length->d <f->p.1.length=p.2.length->p.1.length+ 8 *d<= 900 ->xa F l (eG l n).reverse f p.2 p.1 (i:Int)=some ((xh l ((eG l n).reverse.drop i) p).2,(xh l ((eG l n).reverse.drop i) p).1):=by
  intro d
  induction d with
  | zero=>
    intro i f p hi I _ _
    obtain ⟨f,rfl⟩:∃ eR,f=eR+ 1 :=⟨f - 1,by omega⟩
    have:i=(eG l n).reverse.length:=by omega
    subst this
    rw [xa,cG,List.drop_of_length_le (Nat.le_refl _)];rfl
  | succ d ct=>
    intro i f p hi I b0 aLj
    obtain ⟨f,rfl⟩:∃ eR,f=eR+ 1 :=⟨f - 1,by omega⟩
    have gg:i <(eG l n).reverse.length:=by omega
    obtain ⟨ci,pz⟩:∃ x,(eG l n).reverse[i]? =some x:=⟨(eG l n).reverse[i],List.getElem?_eq_getElem gg⟩
    have aY:=hm ci (by simpa using List.mem_of_getElem? pz)
    obtain ⟨c,hc,_⟩:=vN (l:=l) aY.1 aY.2
    have Ax:fI l ci=c.aU:=by unfold fI;rw [hc];rfl
    have sA:=af7 h.right ci
    have Gt:=sA
    rw [Ax] at Gt
    obtain ⟨iH,jL⟩:=Qw (ci:=ci) (r:=fI l ci) (k:=0) b0
    have t2:=agW (l:=l) bW (eG l n).reverse i ci c pz hc Gt c.aU.length 0 F p (by omega) (by omega) b0 (by omega)
    rw [show ((0 :Nat):Int)= 0 from rfl] at t2
    have L1:(eG l n).reverse[i]=ci:=by
     have:=List.getElem?_eq_getElem gg
     rw [pz] at this;exact (Option.some.inj this).symm
    rw [xa,cH gg,cond_true,t2,List.drop_zero,Option.bind_some,Option.bind_some,gK (n:=(eG l n).length) (by simpa using gg) (by omega),List.drop_eq_getElem_cons gg,L1,xh,Ax]
    rw [Ax] at iH jL
    exact ct (i+ 1) f _ (by omega) (by omega) iH (by omega)
 have:=key (eG l n).reverse.length 0 F ([],[]) (by omega) (by simp;omega) rfl (by simp;omega)
 rw [show ((0 :Nat):Int)= 0 from rfl,List.drop_zero] at this
 simp only at this
 rw [this];rfl
end
end J
namespace J
theorem tI {α β:Type} {l:List α} (T:Nat->List β->Nat->Option (List β)) (g:α->List β) (B M:Nat) (i_:∀ x ∈ l,(g x).length<=B)
 (a6:∀ k (i:Nat) x acc,l[i]? =some x->acc.length+B<=M->T (k+ 1) acc i=T k (acc++g x) (i+ 1)) (he:∀ k acc,T (k+ 1) acc l.length=some acc) {F:Nat} (bW:l.length <F) {acc:List β} (fp:acc.length+B*l.length<=M) :
 T F acc 0 =some (acc++l.flatMap g):=by
 have key:∀ (d i k:Nat) (acc:List β),i+d=l.length->d <k->acc.length+B*d<=M->T k acc i=some (acc++(l.drop i).flatMap g):=by
  intro d
  induction d with
  | zero=>
    intro i k acc h bh _
    obtain ⟨k,rfl⟩:∃ k',k=k'+ 1 :=⟨k - 1,by omega⟩
    have hi:i=l.length:=by omega
    subst hi
    rw [he,List.drop_of_length_le (Nat.le_refl _)];simp
  | succ d ct=>
    intro i k acc h bh hm
    obtain ⟨k,rfl⟩:∃ k',k=k'+ 1 :=⟨k - 1,by omega⟩
    have hi:i <l.length:=by omega
    have aY:=i_ l[i] (List.getElem_mem hi)
    rw [Nat.mul_succ] at hm
    rw [a6 k i l[i] acc (List.getElem?_eq_getElem hi) (by omega),ct (i+ 1) k _ (by omega) (by omega) (by simp only [List.length_append];omega),List.drop_eq_getElem_cons hi,List.flatMap_cons,List.append_assoc]
 have:=key l.length 0 F acc (by omega) bW fp
 simpa using this
theorem agc {α β:Type} {g:α->Option β} {a:α}:[a].findSome? g=g a:=by rw [List.findSome?_cons];cases g a <;> rfl
theorem Gl {α β Zp:Type} (f:α->List β) (g:β->Option Zp):∀ l:List α,(l.flatMap f).findSome? g=l.findSome? fun x=>(f x).findSome? g
 | []=>rfl
 | x::r=>by
   rw [List.flatMap_cons,List.findSome?_append,List.findSome?_cons,Gl f g r]
   cases (f x).findSome? g <;> rfl
theorem xO {α β:Type} {g:α->List β} {B:Nat}:∀ {l:List α},(∀ x ∈ l,(g x).length<=B)->(l.flatMap g).length<=B*l.length
 | [],_=>by simp
 | x::r,h=>by
   have aB:=h x (by simp)
   have aR:=xO (l:=r) (fun y hy=>h y (by simp [hy]))
   simp only [List.flatMap_cons,List.length_append,List.length_cons,Nat.mul_succ]
   omega
def jT (k:Kind):List (List UInt8):=if k.aO= [] then [] else [k.aO]
def mt (m:Method):List (List UInt8):=m.bK.flatMap jT++jT m.Returns++m.bN.map (·.aO)
def xF (c:aO):List (List UInt8):=c.Fields.flatMap (fun f=>jT f.Kind)++c.aU.flatMap mt
def rV (l:List aO):List (List UInt8):=l.flatMap xF
def j8 (l:List aO) (s:List UInt8):Option Int:=if 0 <=dV l s then none else some 5
theorem uR (k:Kind):(jT k).length<= 1 :=by unfold jT;split <;> simp
section
variable {F:Nat} {l:List aO}
theorem af8 (h:Right l) {c:aO} (hc:c ∈ l) {m:Method} (hm:m ∈ c.aU):(mt m).length<= 9 :=by
 have aB:=h.method c hc m hm
 have aR:=xO (l:=m.bK) (g:=jT) (B:=1) (fun k _=>uR k)
 have bT:=uR m.Returns
 unfold mt
 simp only [List.length_append,List.length_map]
 omega
theorem acP (h:Right l) {c:aO} (hc:c ∈ l):(xF c).length<= 78 :=by
 have aB:=xO (l:=c.Fields) (g:=fun f=>jT f.Kind) (B:=1) (fun f _=>uR f.Kind)
 have aR:=xO (l:=c.aU) (g:=mt) (B:=9) (fun m hm=>af8 h hc hm)
 have bT:=h.fields c hc
 have eo:=h.methods c hc
 unfold xF
 simp only [List.length_append]
 omega
theorem h3 {b:Nat} {α:Type} {acc r:List α} (h:(acc.length+r.length)*b<= 140737488355328):dU b acc r=some (acc++r):=by unfold dU;rw [if_pos h]
theorem YT {acc:List (List UInt8)} (h:acc.length<= 5000) (k:Kind):AW k acc=some (acc++jT k):=by
 unfold AW jT
 by_cases e:k.aO= []
 · rw [decide_eq_true e,if_pos e];simp
 · rw [decide_eq_false e,if_neg e]
   simp only [Bool.not_false,cond_true]
   rw [h3 (by simp only [List.length_cons,List.length_nil];omega)];rfl
theorem aH' (bW:1100 <F) (h:Right l) (m:List (List UInt8 × Int)) (s:List Int):vy F ⟨l,m,s⟩ F [] 0 =some (rV l):=by
 have hlen:=h.len
 have:=tI (l:=l) (fun k acc i=>vy F ⟨l,m,s⟩ k acc (i:Int)) xF 78 2000 (fun c hc=>acP h hc) (fun k i c acc aj ul=>by
  have hc:=List.mem_of_getElem? aj
  have ud:=h.fields c hc
  have sA:=h.methods c hc
  have hi:=(List.getElem?_eq_some_iff.1 aj).1
  have fO:∀ acc:List (List UInt8),acc.length<= 2000 ->vz c F acc 0 =some (acc++c.Fields.flatMap fun f=>jT f.Kind):=fun acc bB=>
   tI (l:=c.Fields) (fun k acc i=>vz c k acc (i:Int)) (fun f=>jT f.Kind) 1 3000 (fun f _=>uR f.Kind) (fun k i f acc aj ul=>by
    have hi:=(List.getElem?_eq_some_iff.1 aj).1
    rw [vz,cH hi,cond_true,ch aj,Option.bind_some,YT (by omega),Option.bind_some,gK hi (by omega)]) (fun k acc=>by rw [vz,cG];rfl) (by omega) (by omega)
  have m1:∀ acc:List (List UInt8),acc.length<= 2100 ->vA F c F acc 0 =some (acc++c.aU.flatMap mt):=fun acc bB=>
   tI (l:=c.aU) (fun k acc i=>vA F c k acc (i:Int)) mt 9 3000 (fun m hm=>af8 h hc hm) (fun k i m acc aj ul=>by
    have hm:=List.mem_of_getElem? aj
    have hi:=(List.getElem?_eq_some_iff.1 aj).1
    obtain ⟨eo,hL⟩:=h.method c hc m hm
    have sR:vB m F acc 0 =some (acc++m.bK.flatMap jT):=tI (l:=m.bK) (fun k acc i=>vB m k acc (i:Int)) jT 1 3100 (fun k _=>uR k) (fun k i x acc aj ul=>by
     have hi:=(List.getElem?_eq_some_iff.1 aj).1
     rw [vB,cH hi,cond_true,ch aj,Option.bind_some,YT (by omega),Option.bind_some,gK hi (by omega)]) (fun k acc=>by rw [vB,cG];rfl) (by omega) (by omega)
    have bh:=xO (l:=m.bK) (g:=jT) (B:=1) (fun k _=>uR k)
    have aLe:=uR m.Returns
    have Xf:∀ acc:List (List UInt8),acc.length<= 3200 ->vC m F acc 0 =some (acc++m.bN.flatMap fun h=>[h.aO]):=fun acc bB=>
     tI (l:=m.bN) (fun k acc i=>vC m k acc (i:Int)) (fun h=>[h.aO]) 1 3300 (fun k _=>by simp) (fun k i x acc aj ul=>by
      have hi:=(List.getElem?_eq_some_iff.1 aj).1
      rw [vC,cH hi,cond_true,ch aj,Option.bind_some,h3 (by simp only [List.length_cons,List.length_nil];omega),Option.bind_some,gK hi (by omega)]) (fun k acc=>by rw [vC,cG];rfl) (by omega) (by omega)
    rw [vA,cH hi,cond_true,ch aj,Option.bind_some,sR,Option.bind_some,YT (k:=(⟨m.Returns.Kind,m.Returns.aO⟩:Kind)) (by simp only [List.length_append];omega),Option.bind_some,
     Xf _ (by simp only [List.length_append];have:(jT (⟨m.Returns.Kind,m.Returns.aO⟩:Kind)).length<= 1 :=uR _;omega),Option.bind_some,Option.bind_some,gK hi (by omega)]
    have e:(m.bN.flatMap fun h=>[h.aO])=m.bN.map (·.aO):=by
     induction m.bN with
     | nil=>rfl
     | cons x r ct=>rw [List.flatMap_cons,ct];rfl
    rw [e]
    unfold mt
    simp only [List.append_assoc]) (fun k acc=>by rw [vA,cG];rfl) (by omega) (by omega)
  have bh:=xO (l:=c.Fields) (g:=fun f=>jT f.Kind) (B:=1) (fun f _=>uR f.Kind)
  rw [vy]
  have HC:decide ((i:Int) <((⟨l,m,s⟩:dk).l.length:Int))=true:=cH (n:=l.length) hi
  rw [HC,cond_true]
  show (Option.bind (α:=List (List UInt8)) ((idx l (i:Int)).bind fun cP=>_) _)=_
  rw [ch aj,Option.bind_some,fO acc (by omega),Option.bind_some,m1 _ (by simp only [List.length_append];omega),Option.bind_some,Option.bind_some,gK hi (by omega)]
  unfold xF
  simp only [List.append_assoc]) (fun k acc=>by
   rw [vy]
   show cond (decide ((l.length:Int) <(l.length:Int))) _ _=_
   rw [cG];rfl) (F:=F) (by omega) (acc:=[]) (by simp;omega)
 simpa [rV] using this
theorem Xv (s:List UInt8):(du (fK 0 l) s).isSome=decide (0 <=dV l s):=by
 rw [DM]
 unfold dV
 cases fl (jR s) l with
 | none=>simp
 | some i=>simp
theorem aH9 (bW:1100 <F) (h:Right l) (s:List Int):Ix F ⟨l,fK 0 l,s⟩=some (((rV l).findSome? (j8 l)).getD 0):=by
 have hlen:=h.len
 unfold Ix
 have bP:=aH' bW h (fK 0 l) s
 have aLl:(rV l).length<= 780 :=by
  have:=xO (l:=l) (g:=xF) (B:=78) (fun c hc=>acP h hc)
  unfold rV;omega
 rw [bP,Option.bind_some]
 have Ir:yB ⟨l,fK 0 l,s⟩ (rV l) F 0 =some (dC ((rV l).findSome? (j8 l))):=each (j8 l) (by omega) (fun k i x aj=>by
  rw [yB,cH (List.getElem?_eq_some_iff.1 aj).1,cond_true,ch aj,Option.bind_some]
  show cond (!(du (fK 0 l) x).isSome) _ _=_
  rw [Xv]
  unfold j8
  by_cases e:0 <=dV l x
  · rw [decide_eq_true e,if_pos e];rfl
  · rw [decide_eq_false e,if_neg e];rfl) (fun k=>by rw [yB,cG];rfl) (by omega)
 rw [Ir]
 cases (rV l).findSome? (j8 l) <;> rfl
def nQ (l:List aO) (k:Kind):Option Int:=(jT k).findSome? (j8 l)
theorem agX {s:List UInt8}:j8 l s=none\/j8 l s=some 5 :=by unfold j8;split <;> simp
theorem sw {α:Type} {g:α->Option Int} {e:Int} (di:∀ x,g x=none\/g x=some e):∀ r:List α,r.findSome? g=none\/r.findSome? g=some e
 | []=>.inl rfl
 | x::r=>by
   rw [List.findSome?_cons]
   rcases di x with h | h
   · rw [h];exact sw di r
   · rw [h];exact .inr rfl
theorem aFW (k:Kind):nQ l k=if k.aO= []\/ 0 <=dV l k.aO then none else some 5 :=by
 unfold nQ jT j8
 by_cases e:k.aO= []
 · simp [e]
 · by_cases b8:0 <=dV l k.aO <;> simp [e,b8]
theorem Qt (h:Small F l.length) {Ds:List Kind} (bh:Small F Ds.length):zC F l Ds=some (Ds.findSome? (nQ l)).isNone:=by
 unfold zC
 have l1:=each (l:=Ds) (L:=tH F Ds l) (fun k=>(nQ l k).map fun _=>false) bh.1 (fun k i x aj=>by
  rw [tH,cH (List.getElem?_eq_some_iff.1 aj).1,cond_true,ch aj,Option.bind_some,Option.bind_some,w0 h,Option.bind_some,aFW]
  by_cases e:x.aO= []
  · rw [if_pos (.inl e),decide_eq_true e];rfl
  · rw [decide_eq_false e]
    by_cases b8:0 <=dV l x.aO
    · rw [if_pos (.inr b8),decide_eq_false (show ¬ dV l x.aO < 0 by omega)];rfl
    · rw [if_neg (by simp [e,b8]),decide_eq_true (show dV l x.aO < 0 by omega)];rfl) (fun k=>by rw [tH,cG];rfl) bh.2
 rw [l1,LI]
 cases Ds.findSome? (nQ l) <;> rfl
theorem Vx {o:Option Int} (h:o=none\/o=some 5) (Y:Option (Way Int Unit)):cond (!o.isNone) (some (.out 5)) Y=hP o Y:=by rcases h with h | h <;> rw [h] <;> rfl
theorem W8 (k:Kind):nQ l k=none\/nQ l k=some 5 :=sw (fun _=>agX) _
theorem Ji {o lC:Option Int} {Y:Option (Way Int Unit)}:hP o (hP lC Y)=hP (o.or lC) Y:=by cases o <;> rfl
theorem aH_ (bW:1100 <F) (h:Right l):tz F l F 0 =some (dC ((rV l).findSome? (j8 l))):=by
 have hlen:=h.len
 have:=each (l:=l) (L:=tz F l) (fun c=>(xF c).findSome? (j8 l)) (by omega) (fun k n c aj=>by
  have hc:=List.mem_of_getElem? aj
  have ud:=h.fields c hc
  have sA:=h.methods c hc
  have Ir:wT F l (n:Int) F 0 =some (dC (c.Fields.findSome? fun f=>nQ l f.Kind)):=each (l:=c.Fields) (fun f=>nQ l f.Kind) (by omega) (fun k i f hy=>by
   rw [wT,ch aj,Option.bind_some,cH (List.getElem?_eq_some_iff.1 hy).1,cond_true,Option.bind_some,ch hy,Option.bind_some,Qt ⟨by omega,by omega⟩ ⟨by simp,by simp;omega⟩,Option.bind_some]
   have e:[(⟨f.Kind.Kind,f.Kind.aO⟩:Kind)].findSome? (nQ l)=nQ l f.Kind:=agc
   rw [e]
   exact Vx (W8 _) _) (fun k=>by rw [wT,ch aj,Option.bind_some,cG];rfl) (by omega)
  have Xh:wU F l (n:Int) F 0 =some (dC (c.aU.findSome? fun m=>(mt m).findSome? (j8 l))):=each (l:=c.aU) (fun m=>(mt m).findSome? (j8 l)) (by omega) (fun k i m hy=>by
   have hm:=List.mem_of_getElem? hy
   obtain ⟨eo,hL⟩:=h.method c hc m hm
   have Xi:wV F l m F 0 =some (dC (m.bN.findSome? fun x=>j8 l x.aO)):=each (l:=m.bN) (fun x=>j8 l x.aO) (by omega) (fun k i x cV=>by
    rw [wV,cH (List.getElem?_eq_some_iff.1 cV).1,cond_true,ch cV,Option.bind_some,w0 ⟨by omega,by omega⟩,Option.bind_some]
    unfold j8
    by_cases b8:0 <=dV l x.aO
    · rw [if_pos b8,decide_eq_false (show ¬ dV l x.aO < 0 by omega)];rfl
    · rw [if_neg b8,decide_eq_true (show dV l x.aO < 0 by omega)];rfl) (fun k=>by rw [wV,cG];rfl) (by omega)
   have e:[(⟨m.Returns.Kind,m.Returns.aO⟩:Kind)].findSome? (nQ l)=nQ l m.Returns:=agc
   rw [wU,ch aj,Option.bind_some,cH (List.getElem?_eq_some_iff.1 hy).1,cond_true,Option.bind_some,ch hy,Option.bind_some,Qt ⟨by omega,by omega⟩ ⟨by omega,by omega⟩,Option.bind_some,Qt ⟨by omega,by omega⟩ ⟨by simp,by simp;omega⟩,Option.bind_some,Xi,e,n6]
   rw [Vx (W8 _),Vx (sw (fun k=>W8 k) _),Ji,Ji,qx,n4]
   congr 1
   unfold mt
   rw [List.findSome?_append,List.findSome?_append,Gl,List.findSome?_map]
   cases gf:m.bK.findSome? (nQ l) with
   | some a=>
     have:(m.bK.findSome? fun x=>(jT x).findSome? (j8 l))=some a:=gf
     rw [this];rfl
   | none=>
     have:(m.bK.findSome? fun x=>(jT x).findSome? (j8 l))=none:=gf
     rw [this];rfl) (fun k=>by rw [wU,ch aj,Option.bind_some,cG];rfl) (by omega)
  rw [tz,cH (List.getElem?_eq_some_iff.1 aj).1,cond_true,Ir,Xh,n6,n6,Ji,qx,n4]
  congr 1
  unfold xF
  rw [List.findSome?_append,Gl,Gl]
  rfl) (fun k=>by rw [tz,cG];rfl) (F:=F) (by omega)
 rw [this,rV,Gl]
end
end J
namespace J
theorem M4 {κ β:Type} [DecidableEq κ] {k:κ} {v:β}:∀ m:List (κ × β),(hO m k v).length=if (du m k).isSome then m.length else m.length+ 1
 | []=>rfl
 | p::r=>by
   simp only [hO,du]
   by_cases h:p.1 =k
   · simp [h]
   · simp only [if_neg h,List.length_cons,M4 r]
     split <;> rfl
theorem IC {κ β:Type} [DecidableEq κ] {k s:κ} {v:β}:∀ m:List (κ × β),(du (hO m k v) s).isSome=true ↔ s=k\/(du m s).isSome=true
 | []=>by
   simp only [hO,du]
   by_cases h:k=s
   · simp [h]
   · simp [h];exact fun e=>h e.symm
 | p::r=>by
   have ct:=IC (k:=k) (s:=s) (v:=v) r
   simp only [hO]
   by_cases h:p.1 =k
   · rw [if_pos h]
     simp only [du]
     by_cases e:k=s
     · simp [e]
     · have b8: ¬ p.1 =s:=fun x=>e (h.symm.trans x)
       rw [if_neg e,if_neg b8]
       constructor
       · exact fun x=>.inr x
       · rintro (x | x)
         · exact absurd x.symm e
         · exact x
   · rw [if_neg h]
     simp only [du]
     by_cases e:p.1 =s
     · simp [e]
     · rw [if_neg e,if_neg e];exact ct
def ua (e4:List (List UInt8)):Option Int:=if e4.Nodup then none else some 6
section
variable {F:Nat} {l:List aO}
theorem agY (bW:1100 <F) {e4:List (List UInt8)} (af:e4.length<= 1000):Dz F e4=some (decide (¬ e4.Nodup)):=by
 have key:∀ (d i k:Nat) (m:List (List UInt8 × Bool)),i+d=e4.length->d <k->(∀ s,(du m s).isSome=true ↔ s ∈ e4.take i)->m.length<=i->(m.length=i ↔ (e4.take i).Nodup) ->
  ∃ h9,yC e4 k m (i:Int)=some h9/\h9.length<=e4.length/\(h9.length=e4.length ↔ e4.Nodup):=by
  intro d
  induction d with
  | zero=>
    intro i k m hi bh aB aR bT
    obtain ⟨k,rfl⟩:∃ k',k=k'+ 1 :=⟨k - 1,by omega⟩
    have:i=e4.length:=by omega
    subst this
    rw [List.take_length] at bT
    exact ⟨m,by rw [yC,cG];rfl,aR,bT⟩
  | succ d ct=>
    intro i k m hi bh aB aR bT
    obtain ⟨k,rfl⟩:∃ k',k=k'+ 1 :=⟨k - 1,by omega⟩
    have gg:i <e4.length:=by omega
    have bL:e4.take (i+ 1)=e4.take i++[e4[i]]:=by rw [List.take_add_one,List.getElem?_eq_getElem gg];rfl
    rw [yC,cH gg,cond_true,ch (List.getElem?_eq_getElem gg),Option.bind_some,gK gg (by omega)]
    refine ct (i+ 1) k _ (by omega) (by omega) (fun s=>?_) ?_ ?_
    · rw [IC,aB,bL,List.mem_append,List.mem_singleton]
      constructor
      · rintro (h | h)
        · exact .inr h
        · exact .inl h
      · rintro (h | h)
        · exact .inr h
        · exact .inl h
    · rw [M4];split <;> omega
    · rw [M4,bL,List.nodup_append]
      by_cases hm:(du m e4[i]).isSome=true
      · rw [if_pos hm]
        have:=(aB e4[i]).1 hm
        constructor
        · intro h;omega
        · rintro ⟨_,_,h⟩;exact absurd rfl (h _ this _ (by simp))
      · rw [if_neg hm]
        have:e4[i] ∉ e4.take i:=fun h=>hm ((aB e4[i]).2 h)
        constructor
        · intro h
          exact ⟨bT.1 (by omega),by simp,fun a bB b aY e=>by
           rw [List.mem_singleton] at aY;subst aY;exact this (e ▸ bB)⟩
        · rintro ⟨h,_,_⟩
          have:=bT.2 h
          omega
 obtain ⟨h9,aB,aR,bT⟩:=key e4.length 0 F [] (by omega) (by omega) (fun s=>by simp [du]) (by simp) (by simp)
 unfold Dz
 rw [show (0 :Int)=((0 :Nat):Int) from rfl,aB,Option.bind_some]
 congr 1
 by_cases bZ:e4.Nodup
 · have:=bT.2 bZ
   rw [decide_eq_false (by omega),decide_eq_false (by simp [bZ])]
 · have:h9.length≠e4.length:=fun e=>bZ (bT.1 e)
   rw [decide_eq_true (by omega),decide_eq_true bZ]
def Rj {α:Type} (nm:α->List UInt8) (r:List α):Option Int:=(List.range r.length).findSome? fun k=>(List.range k).findSome? fun j=>if (r[j]?).map nm=(r[k]?).map nm then some 6 else none
theorem acT {α:Type} (nm:α->List UInt8) (r:List α):Rj nm r=ua (r.map nm):=by
 have ad:Rj nm r=none\/Rj nm r=some 6 :=sw (fun k=>sw (fun j=>by split <;> simp) _) _
 unfold ua
 by_cases bZ:(r.map nm).Nodup
 · rw [if_pos bZ]
   rcases ad with h | h
   · exact h
   · exfalso
     obtain ⟨k,bh,aB⟩:=List.exists_of_findSome?_eq_some h
     obtain ⟨j,bb,aR⟩:=List.exists_of_findSome?_eq_some aB
     simp only [List.mem_range] at bh bb
     split at aR
     · rename_i e
       have:=List.pairwise_iff_getElem.1 bZ j k (by simp;omega) (by simpa using bh) bb
       apply this
       rw [List.getElem?_eq_getElem (by omega),List.getElem?_eq_getElem bh] at e
       simpa using e
     · cases aR
 · rw [if_neg bZ]
   rcases ad with h | h
   · exfalso
     apply bZ
     refine List.pairwise_iff_getElem.2 fun j k bb bh Aw e=>?_
     have aB:=List.findSome?_eq_none_iff.1 h k (by simpa using bh)
     have aR:=List.findSome?_eq_none_iff.1 aB j (by simpa using Aw)
     simp only [List.length_map] at bb bh
     rw [List.getElem?_eq_getElem bb,List.getElem?_eq_getElem bh] at aR
     simp only [List.getElem_map] at e
     rw [if_pos (by simp [e])] at aR
     cases aR
   · exact h
theorem akZ (bW:1100 <F) (r:List Field) (bQ:r.length<= 1000):wK F r F 0 =some (dC (ua (r.map (·.Name)))):=by
 rw [<-acT]
 exact kN _ (by omega) (fun k i hi=>by
  have W_:wL r (i:Int) F 0 =some (dC ((List.range i).findSome? fun j=>if (r[j]?).map (·.Name)=(r[i]?).map (·.Name) then some 6 else none)):=kN _ (by omega) (fun k j bb=>by
   rw [wL,cH bb,cond_true,ch (List.getElem?_eq_getElem (show j <r.length by omega)),Option.bind_some,ch (List.getElem?_eq_getElem hi),Option.bind_some,List.getElem?_eq_getElem (show j <r.length by omega),List.getElem?_eq_getElem hi]
   simp only [Option.map_some,Option.some.injEq]
   by_cases e:r[j].Name=r[i].Name
   · rw [decide_eq_true e,if_pos e];rfl
   · rw [decide_eq_false e,if_neg e];rfl) (fun k=>by rw [wL,cG];rfl) (by omega)
  rw [wK,cH hi,cond_true,W_,n6,qx,n4]) (fun k=>by rw [wK,cG];rfl) (by omega)
theorem ak0 (bW:1100 <F) (c:aO) (bQ:c.aU.length<= 1000):wM F c F 0 =some (dC (ua (c.aU.map (·.Name)))):=by
 rw [<-acT]
 exact kN _ (by omega) (fun k i hi=>by
  have W_:wN c (i:Int) F 0 =some (dC ((List.range i).findSome? fun j=>if (c.aU[j]?).map (·.Name)=(c.aU[i]?).map (·.Name) then some 6 else none)):=kN _ (by omega) (fun k j bb=>by
   rw [wN,cH bb,cond_true,ch (List.getElem?_eq_getElem (show j <c.aU.length by omega)),Option.bind_some,ch (List.getElem?_eq_getElem hi),Option.bind_some,List.getElem?_eq_getElem (show j <c.aU.length by omega),List.getElem?_eq_getElem hi]
   simp only [Option.map_some,Option.some.injEq]
   by_cases e:c.aU[j].Name=c.aU[i].Name
   · rw [decide_eq_true e,if_pos e];rfl
   · rw [decide_eq_false e,if_neg e];rfl) (fun k=>by rw [wN,cG];rfl) (by omega)
  rw [wM,cH hi,cond_true,W_,n6,qx,n4]) (fun k=>by rw [wM,cG];rfl) (by omega)
def yO (l:List aO) (i:Nat):Option Int:=(ua ((gp l i).map (·.Name))).or (ua ((fI l i).map (·.Name)))
theorem adf (h:il l) {n:Int} (bJ:0 <=n) (aB:n <l.length):(gp l n).length<= 60 :=by
 obtain ⟨_,az,_⟩:=h.chain bJ aB
 have:=Rs h.right (eG l n).reverse
 unfold gp
 simp only [List.length_reverse] at this
 omega
theorem acU {e4:List (List UInt8)} {Y:Option (Way Int Unit)}:cond (decide (¬ e4.Nodup)) (some (.out 6)) Y=hP (ua e4) Y:=by
 unfold ua
 by_cases h:e4.Nodup
 · rw [if_pos h,decide_eq_false (by simp [h])];rfl
 · rw [if_neg h,decide_eq_true h];rfl
theorem af6 {i:Nat} {c:aO} (h:l[i]? =some c):fI l (i:Int)=c.aU:=by unfold fI;rw [ch h];rfl
theorem aGE (bW:1100 <F) (h:il l):wW F l F 0 =some (dC ((List.range l.length).findSome? (yO l))):=by
 have hlen:=h.right.len
 exact kN _ (by omega) (fun k i hi=>by
  obtain ⟨c,aj⟩:∃ x,l[i]? =some x:=⟨l[i],List.getElem?_eq_getElem hi⟩
  have sA:=h.right.methods c (List.mem_of_getElem? aj)
  have ad8:=adf h (n:=(i:Int)) (by omega) (by omega)
  rw [wW,cH hi,cond_true,h.YF bW (by omega) (by omega),Option.bind_some,akZ bW _ (by omega),n6,ch aj,Option.bind_some,ak0 bW c (by omega),n6,Ji,qx,n4]
  unfold yO
  rw [af6 aj]) (fun k=>by rw [wW,cG];rfl) (by omega)
theorem aGD (bW:1100 <F) (h:il l) (m:List (List UInt8 × Int)):Iv F ⟨l,m,ez l⟩=some (((List.range l.length).findSome? (yO l)).getD 0):=by
 have hlen:=h.right.len
 have:=kN (n:=l.length) (L:=yy F ⟨l,m,ez l⟩) (yO l) (by omega) (fun k i hi=>by
  obtain ⟨c,aj⟩:∃ x,l[i]? =some x:=⟨l[i],List.getElem?_eq_getElem hi⟩
  have sA:=h.right.methods c (List.mem_of_getElem? aj)
  have ad8:=adf h (n:=(i:Int)) (by omega) (by omega)
  have fO:vw (gp l i) F [] 0 =some ((gp l i).map (·.Name)):=by
   have:=tI (l:=gp l i) (fun k acc AL=>vw (gp l i) k acc (AL:Int)) (fun f=>[f.Name]) 1 3000 (fun f _=>by simp) (fun k j x acc aj ul=>by
    have bb:=(List.getElem?_eq_some_iff.1 aj).1
    rw [vw,cH bb,cond_true,ch aj,Option.bind_some,h3 (by simp only [List.length_cons,List.length_nil];omega),Option.bind_some,gK bb (by omega)]) (fun k acc=>by rw [vw,cG];rfl) (F:=F) (by omega) (acc:=[]) (by simp;omega)
   rw [show (0 :Int)=((0 :Nat):Int) from rfl,this]
   congr 1
   rw [List.nil_append]
   induction gp l i with
   | nil=>rfl
   | cons x r ct=>rw [List.flatMap_cons,ct];rfl
  have m1:vx c F [] 0 =some (c.aU.map (·.Name)):=by
   have:=tI (l:=c.aU) (fun k acc AL=>vx c k acc (AL:Int)) (fun f=>[f.Name]) 1 3000 (fun f _=>by simp) (fun k j x acc aj ul=>by
    have bb:=(List.getElem?_eq_some_iff.1 aj).1
    rw [vx,cH bb,cond_true,ch aj,Option.bind_some,h3 (by simp only [List.length_cons,List.length_nil];omega),Option.bind_some,gK bb (by omega)]) (fun k acc=>by rw [vx,cG];rfl) (F:=F) (by omega) (acc:=[]) (by simp;omega)
   rw [show (0 :Int)=((0 :Nat):Int) from rfl,this]
   congr 1
   rw [List.nil_append]
   induction c.aU with
   | nil=>rfl
   | cons x r ct=>rw [List.flatMap_cons,ct];rfl
  rw [yy]
  have HC:decide ((i:Int) <((⟨l,m,ez l⟩:dk).l.length:Int))=true:=cH (n:=l.length) hi
  have awH:=h.Xo bW m (n:=(i:Int)) (by omega) (by omega)
  rw [HC,cond_true]
  show eh (α:=Unit) ((idx l (i:Int)).bind fun fg=>(yt F ⟨l,m,ez l⟩ (i:Int)).bind fun iz=>_) _=_
  rw [ch aj,Option.bind_some,awH,Option.bind_some,fO,Option.bind_some,m1,Option.bind_some,agY bW (by simp;omega),Option.bind_some,agY bW (by simp;omega),Option.bind_some,acU,acU,Ji,qx,n4]
  unfold yO
  rw [af6 aj]) (fun k=>by
   rw [yy]
   show cond (decide ((l.length:Int) <(l.length:Int))) _ _=_
   rw [cG];rfl) (F:=F) (by omega)
 unfold Iv
 rw [this]
 cases (List.range l.length).findSome? (yO l) <;> rfl
theorem agG {a b:List Kind} (bB:a.length<= 1000) (aY:b.length<= 1000) (bW:1100 <F):tD F a b=some (decide (a=b)):=by
 unfold tD
 by_cases az:a.length=b.length
 · rw [decide_eq_true (show (a.length:Int)=(b.length:Int) by omega)]
   simp only [Bool.not_true,cond_false]
   have l1:oq a b F 0 =some (dC ((List.range a.length).findSome? fun i=>if a[i]? =b[i]? then none else some false)):=kN _ (by omega) (fun k i hi=>by
    rw [oq,cH hi,cond_true,ch (List.getElem?_eq_getElem hi),Option.bind_some,ch (List.getElem?_eq_getElem (show i <b.length by omega)),Option.bind_some,List.getElem?_eq_getElem hi,List.getElem?_eq_getElem (show i <b.length by omega)]
    simp only [Option.some.injEq]
    by_cases e:a[i]=b[i]
    · rw [decide_eq_true e,if_pos e];rfl
    · rw [decide_eq_false e,if_neg e];rfl) (fun k=>by rw [oq,cG];rfl) (by omega)
   rw [l1,j7]
   cases I:(List.range a.length).findSome? fun i=>if a[i]? =b[i]? then none else some false with
   | some e=>
     obtain ⟨i,hi,aB⟩:=List.exists_of_findSome?_eq_some I
     split at aB
     · cases aB
     · rename_i eN
       injection aB with aB
       subst aB
       rw [decide_eq_false (fun e=>eN (by rw [e]))];rfl
   | none=>
     rw [decide_eq_true];rfl
     apply List.ext_getElem?
     intro i
     by_cases hi:i <a.length
     · have:=List.findSome?_eq_none_iff.1 I i (by simpa using hi)
       split at this
       · assumption
       · cases this
     · rw [List.getElem?_eq_none (by omega),List.getElem?_eq_none (by omega)]
 · rw [decide_eq_false (show ¬ (a.length:Int)=(b.length:Int) by omega),decide_eq_false (fun e=>az (by rw [e]))];rfl
theorem alh {a b:List Kind} (bB:a.length<= 1000) (aY:b.length<= 1000) (bW:1100 <F):I9 F a b=some (decide (a=b)):=by
 rw [<-agG bB aY bW]
 unfold I9 tD
 have e:∀ k n,A' a b k n=oq a b k n:=by
  intro k
  induction k with
  | zero=>intro n;rfl
  | succ k ct=>intro n;rw [A',oq];simp only [ct]
 rw [e]
def Rd (a b:Method):Bool:=decide (a.Name=b.Name) && (a.Static || b.Static || !decide (a.bK=b.bK) || !decide (a.Returns=b.Returns))
def pv (a b:Method):Option Int:=if Rd a b then some 4 else none
def tZ (l:List aO) (c:aO) (u:Int):Option Int:=c.aU.findSome? fun a=>(fI l u).findSome? (pv a)
def DB (l:List aO) (c:aO) (i:Nat):Option Int:=(eG l i).tail.findSome? (tZ l c)
theorem akB (a b:Method):pv a b=none\/pv a b=some 4 :=by unfold pv;split <;> simp
theorem acE (c:aO) (u:Int):tZ l c u=none\/tZ l c u=some 4 :=sw (fun _=>sw (fun _=>akB _ _) _) _
theorem alw {α:Type} {g:α->Option Int} {e:Int} (di:∀ x,g x=none\/g x=some e) (r:List α):r.reverse.findSome? g=r.findSome? g:=by
 rcases sw di r with h | h
 · rw [h,List.findSome?_eq_none_iff]
   intro x aj
   exact List.findSome?_eq_none_iff.1 h x (by simpa using aj)
 · rw [h]
   rcases sw di r.reverse with aR | aR
   · obtain ⟨x,aj,bT⟩:=List.exists_of_findSome?_eq_some h
     have:=List.findSome?_eq_none_iff.1 aR x (by simpa using aj)
     rw [bT] at this;cases this
   · exact aR
theorem aGi (bW:1100 <F) (h:il l) (m:List (List UInt8 × Int)):Iu F ⟨l,m,ez l⟩=some (((List.range l.length).findSome? fun i=>(l[i]?).bind fun c=>DB l c i).getD 0):=by
 have hlen:=h.right.len
 have:=kN (n:=l.length) (L:=yv F ⟨l,m,ez l⟩) (fun i=>(l[i]?).bind fun c=>DB l c i) (by omega) (fun k i hi=>by
  obtain ⟨c,aj⟩:∃ x,l[i]? =some x:=⟨l[i],List.getElem?_eq_getElem hi⟩
  have mQ:=List.mem_of_getElem? aj
  have sA:=h.right.methods c mQ
  obtain ⟨Ss,nM,xW⟩:=h.chain (n:=(i:Int)) (by omega) (by omega)
  obtain ⟨r,bQ⟩:=YV Ss (by omega)
  have sR:∀ (a:Method),a ∈ c.aU-> ∀ (u:aO),u ∈ l->vv F a u F 0 =some (dC (u.aU.findSome? (pv a))):=fun a bB u hu=>each (pv a) (by have:=h.right.methods u hu;omega) (fun k j b aY=>by
   have Si:=List.mem_of_getElem? aY
   have apv:=h.right.method c mQ a bB
   have aq0:=h.right.method u hu b Si
   rw [vv,cH (List.getElem?_eq_some_iff.1 aY).1,cond_true,ch aY,Option.bind_some]
   unfold MV
   simp only
   rw [alh (by omega) (by omega) bW]
   unfold pv Rd
   show cond _ (Option.bind (cond _ (Option.bind _ fun r=>cond r (some (decide (a.Returns=b.Returns))) _) _) _) _=_
   by_cases af:a.Name=b.Name
   · rw [decide_eq_true af]
     simp only [Option.bind_some,cond_true,Bool.true_and]
     cases a.Static <;> cases b.Static <;> cases decide (a.bK=b.bK) <;> cases decide (a.Returns=b.Returns) <;> rfl
   · rw [decide_eq_false af];rfl) (fun k=>by rw [vv,cG];rfl) (by have:=h.right.methods u hu;omega)
  have m1:∀ (x:Int),0 <=x->x <l.length->yx F ⟨l,m,ez l⟩ c x F 0 =some (dC (tZ l c x)):=fun x bJ aB=>each (fun a=>(fI l x).findSome? (pv a)) (by omega) (fun k j a bB=>by
   obtain ⟨u,hu,_⟩:=vN (l:=l) bJ aB
   have Mm:u ∈ l:=by obtain ⟨_,_,aR⟩:=uM hu;exact List.mem_of_getElem? aR
   have hm:fI l x=u.aU:=by unfold fI;rw [hu];rfl
   rw [yx,cH (List.getElem?_eq_some_iff.1 bB).1,cond_true,ch bB,Option.bind_some]
   show eh (α:=Unit) ((idx l x).bind fun j'=>_) _=_
   rw [hu,Option.bind_some,sR a (List.mem_of_getElem? bB) u Mm,n6,qx,n4,hm]) (fun k=>by rw [yx,cG];rfl) (by omega)
  have fO:yw F ⟨l,m,ez l⟩ c (eG l i).tail F 0 =some (dC ((eG l i).tail.findSome? (tZ l c))):=each (tZ l c) (by simp;omega) (fun k j x Vq=>by
   have aY:=xW x (List.mem_of_mem_tail (List.mem_of_getElem? Vq))
   rw [yw,cH (List.getElem?_eq_some_iff.1 Vq).1,cond_true,ch Vq,Option.bind_some,m1 x aY.1 aY.2,n6,qx,n4]) (fun k=>by rw [yw,cG];rfl) (by simp;omega)
  rw [yv]
  have HC:decide ((i:Int) <((⟨l,m,ez l⟩:dk).l.length:Int))=true:=cH (n:=l.length) hi
  have aAg:=h.Xn bW m (n:=(i:Int)) (by omega) (by omega)
  rw [HC,cond_true]
  show eh (α:=Unit) ((idx l (i:Int)).bind fun dr=>(vt F ⟨l,m,ez l⟩ (i:Int)).bind fun ph=>_) _=_
  have au8:cut (eG l i) 1 ((eG l i).length:Int)=some (eG l i).tail:=by
   unfold cut
   rw [if_pos (by rw [bQ];simp only [List.length_cons];omega)]
   rw [bQ];simp
  rw [ch aj,Option.bind_some,aAg,Option.bind_some,au8,Option.bind_some,fO,n6,qx,n4,aj]
  rfl) (fun k=>by
   rw [yv]
   show cond (decide ((l.length:Int) <(l.length:Int))) _ _=_
   rw [cG];rfl) (F:=F) (by omega)
 unfold Iu
 rw [this]
 cases (List.range l.length).findSome? (fun i=>(l[i]?).bind fun c=>DB l c i) <;> rfl
theorem aGj (bW:1100 <F) (h:il l):wO F l F 0 =some (dC ((List.range l.length).findSome? fun i=>(l[i]?).bind fun c=>DB l c i)):=by
 have hlen:=h.right.len
 exact kN _ (by omega) (fun k i hi=>by
  obtain ⟨c,aj⟩:∃ x,l[i]? =some x:=⟨l[i],List.getElem?_eq_getElem hi⟩
  have mQ:=List.mem_of_getElem? aj
  have sA:=h.right.methods c mQ
  obtain ⟨Ss,nM,xW⟩:=h.chain (n:=(i:Int)) (by omega) (by omega)
  obtain ⟨r,bQ⟩:=YV Ss (by omega)
  have aCr:(eG l i).reverse=(eG l i).tail.reverse++[(i:Int)]:=by rw [bQ];simp
  have aFZ:wP F l (i:Int) (eG l i).reverse F 0 =some (dC ((eG l i).tail.reverse.findSome? (tZ l c))):=each (l:=(eG l i).tail.reverse) (tZ l c) (by simp;omega) (fun k u x Vs=>by
   have Mm:=(List.getElem?_eq_some_iff.1 Vs).1
   have aY:=xW x (List.mem_of_mem_tail (by simpa using List.mem_of_getElem? Vs))
   obtain ⟨w,hw,_⟩:=vN (l:=l) aY.1 aY.2
   have aeD:w ∈ l:=by obtain ⟨_,_,aR⟩:=uM hw;exact List.mem_of_getElem? aR
   have aLm:=h.right.methods w aeD
   have hm:fI l x=w.aU:=by unfold fI;rw [hw];rfl
   have aeQ:(eG l i).reverse[u]? =some x:=by rw [aCr,List.getElem?_append_left Mm];exact Vs
   have aF0:wQ F l (i:Int) (eG l i).reverse (u:Int) F 0 =some (dC (tZ l c x)):=each (l:=c.aU) (fun a=>(fI l x).findSome? (pv a)) (by omega) (fun k j a bB=>by
    have apy:=List.mem_of_getElem? bB
    have aF1:tw F l (i:Int) (eG l i).reverse (u:Int) (j:Int) F 0 =some (dC (w.aU.findSome? (pv a))):=each (l:=w.aU) (pv a) (by omega) (fun k q b aY=>by
     have Si:=List.mem_of_getElem? aY
     have apv:=h.right.method c mQ a apy
     have aq0:=h.right.method w aeD b Si
     rw [tw]
     simp only [ch aeQ,Option.bind_some,hw,cH (List.getElem?_eq_some_iff.1 aY).1,cond_true,ch aj,ch bB,ch aY]
     rw [agG (by omega) (by omega) bW]
     unfold pv Rd
     show cond _ (cond _ _ (Option.bind _ fun r=>cond (!r) _ (cond (!decide (a.Returns=b.Returns)) _ _))) _=_
     by_cases af:a.Name=b.Name
     · rw [decide_eq_true af]
       simp only [Option.bind_some,cond_true,Bool.true_and]
       cases a.Static <;> cases b.Static <;> cases decide (a.bK=b.bK) <;> cases decide (a.Returns=b.Returns) <;> rfl
     · rw [decide_eq_false af];rfl) (fun k=>by rw [tw];simp only [ch aeQ,Option.bind_some,hw,cG];rfl) (by omega)
    rw [wQ,ch aj,Option.bind_some,cH (List.getElem?_eq_some_iff.1 bB).1,cond_true,aF1,n6,qx,n4,hm]) (fun k=>by rw [wQ,ch aj,Option.bind_some,cG];rfl) (by omega)
   have HB:decide ((u:Int) <av (((eG l i).reverse.length:Int) - 1))=true:=by
    rw [eC (by omega) (by simp;omega)]
    simp only [List.length_reverse,List.length_tail] at Mm
    exact decide_eq_true (by simp only [List.length_reverse];omega)
   rw [wP,HB,cond_true,aF0,n6,qx,n4]) (fun k=>by
    have HB:decide (((eG l i).tail.reverse.length:Int) <av (((eG l i).reverse.length:Int) - 1))=false:=by
     rw [eC (by omega) (by simp;omega)]
     exact decide_eq_false (by rw [bQ];simp)
    rw [wP,HB];rfl) (by simp;omega)
  rw [wO,cH hi,cond_true,N5 bW h.right (by omega),Option.bind_some,aFZ,n6,qx,n4,aj,alw (acE c)]
  rfl) (fun k=>by rw [wO,cG];rfl) (by omega)
end
end J
namespace J
def wd (W:List Int) (i:Nat):Int:=(W[i]?).getD 0
def Bc (k:bt) (t:Int):List Field:=(k.Fields[(t - 3).toNat]?).getD []
def iw (k:bt) (t:Int):Bool:=decide (1 <=t) && decide (t<= 2 +k.aG.length)
def isLen (k:bt) (t n:Int):Bool:=decide (0 <=n) && decide (n<= 500) && (decide (t < 3) || decide (n=(Bc k t).length))
def hd (k:bt) (t:Int) (j:Nat):Bool:=decide (t= 2) || (decide (3 <=t) && ((Bc k t)[j]?.map fun f=>!decide (f.Kind.Kind= 1)).getD false)
structure h2 (k:bt):Prop where
 Rb:k.aG.length<= 1000
 nF:k.Fields.length=k.aG.length
theorem ll {W:List Int} {i:Nat} (h:i <W.length):idx W (i:Int)=some (wd W i):=by
 rw [ch (List.getElem?_eq_getElem h)];unfold wd;rw [List.getElem?_eq_getElem h];rfl
theorem jQ {W:List Int} {a:Int} {i:Nat} (e:a=(i:Int)) (h:i <W.length):idx W a=some (wd W i):=by rw [e];exact ll h
theorem aFS {k:bt} {t:Int}:iw k t=true ↔ 1 <=t/\t<= 2 +k.aG.length:=by simp [iw]
theorem yo {k:bt} {t n:Int}:isLen k t n=true ↔ (0 <=n/\n<= 500)/\(t < 3 \/n=(Bc k t).length):=by simp [isLen]
section
variable {k:bt}
theorem agL (h:h2 k) (t:Int):ux ⟨k⟩ t=some (iw k t):=by
 have hc:=h.Rb
 unfold ux mS iw
 have e:av (av (3 +(k.aG.length:Int)) - 1)= 2 +k.aG.length:=by rw [eC (n:=3 +(k.aG.length:Int)) (by omega) (by omega),eC (by omega) (by omega)];omega
 simp only [e,Option.bind_some]
 by_cases aB:t= 1
 · subst aB;simp;omega
 by_cases aR:t= 2
 · subst aR;simp;omega
 rw [show ((decide (t= 1)) || (decide (t= 2)))=false by simp [aB,aR],cond_false,Option.some.injEq,Bool.eq_iff_iff]
 simp;omega
theorem N2 (h:h2 k) {t:Int} (bP:iw k t=true) (bT: ¬ t < 3):idx k.Fields (av (t - 3))=some (Bc k t):=by
 obtain ⟨aB,aR⟩:=aFS.1 bP
 have hc:=h.Rb;have I:=h.nF
 rw [eC (by omega) (by omega)]
 unfold idx Bc
 rw [if_pos (by omega)]
 have:(t - 3).toNat <k.Fields.length:=by omega
 rw [List.getElem?_eq_getElem this];rfl
theorem agM (h:h2 k) {t:Int} (bP:iw k t=true) (n:Int):uy ⟨k⟩ t n=some (isLen k t n):=by
 unfold uy mS isLen
 simp only [Option.bind_some]
 cases aY:(decide (0 <=n) && decide (n<= 500)) with
 | false=>simp
 | true=>
   by_cases bT:t < 3
   · simp [bT]
   · rw [N2 h bP bT];simp [bT]
theorem YL (h:h2 k) {t:Int} (bP:iw k t=true) {n:Int} (af:isLen k t n=true) {j:Nat} (bb:(j:Int) <n):pB ⟨k⟩ t (j:Int)=some (hd k t j):=by
 unfold pB hd
 obtain ⟨_,az⟩:=yo.1 af
 by_cases aR:t= 2
 · simp [aR]
 by_cases bT:t < 3
 · have: ¬ 3 <=t:=by omega
   simp [aR,this]
 · have az:=az.resolve_left bT
   have RC:3 <=t:=by omega
   have C_:j <(Bc k t).length:=by omega
   rw [N2 h bP bT,Option.bind_some,ch (List.getElem?_eq_getElem C_),List.getElem?_eq_getElem C_]
   simp [aR,RC]
inductive gZ (k:bt) (W:List Int) (to:Nat):Nat->List Int->Prop
 | nil:gZ k W to to []
 | cons {q:Nat} {r:List Int}:iw k (wd W q)=true->isLen k (wd W q) (wd W (q+ 1))=true->q+ 3 +(wd W (q+ 1)).toNat<=to->gZ k W to (q+ 3 +(wd W (q+ 1)).toNat) r->gZ k W to q ((q:Int)::r)
theorem gZ.inv {W:List Int} {to q:Nat} {L:List Int} (h:gZ k W to q L) (ea:q <to):∃ r,L=(q:Int)::r/\iw k (wd W q)=true/\isLen k (wd W q) (wd W (q+ 1))=true/\q+ 3 +(wd W (q+ 1)).toNat<=to/\gZ k W to (q+ 3 +(wd W (q+ 1)).toNat) r:=by
 cases h with
 | nil=>omega
 | cons aB aR bT eo=>exact ⟨_,rfl,aB,aR,bT,eo⟩
theorem aH7 (v:cl) (a6:h2 v.S.K) {to:Nat} (AI:to<=v.H.Words.length) (jz:v.H.Words.length<= 5000):∀ (f q:Nat) (acc:List Int) (m:List (Int × Bool)),q<=to->to - q <f->acc.length+(to - q)<= 5000 ->(∀ p ∈ m,p.1 <(q:Int)) ->
 (∃ L,gZ v.S.K v.H.Words to q L/\ri (to:Int) v f acc m (q:Int)=some (.go (acc++L,m++L.map fun a=>(a,true)))) \/
 ((∀ L,¬ gZ v.S.K v.H.Words to q L)/\ ∃ h9,ri (to:Int) v f acc m (q:Int)=some (.out ([],false,{ v with c6:=h9 }))):=by
 intro f
 induction f with
 | zero=>intro q acc m _ h;omega
 | succ f ct=>
   intro q acc m ea I ul hm
   rw [ri]
   by_cases dP:q <to
   case neg=>
    have:q=to:=by omega
    subst this
    refine .inl ⟨[],.nil,?_⟩
    rw [cG];simp
   rw [cH dP,cond_true,eC (n:=(q:Int)+ 3) (by omega) (by omega)]
   by_cases bT:(to:Int) <(q:Int)+ 3
   · rw [decide_eq_true bT]
     refine .inr ⟨fun L hD=>?_,m,rfl⟩
     obtain ⟨_,_,_,_,h,_⟩:=hD.inv dP
     omega
   rw [decide_eq_false bT,cond_false,ll (by omega),Option.bind_some,eC (n:=(q:Int)+ 1) (by omega) (by omega),jQ (i:=q+ 1) (by omega) (by omega),Option.bind_some]
   have bL:ux (⟨(⟨v.S.K.aG,v.S.K.aE,v.S.K.Fields,v.S.K.Names,v.S.K.aD⟩:bt)⟩:dn) (wd v.H.Words q)=some (iw v.S.K (wd v.H.Words q)):=agL a6 _
   rw [bL,Option.bind_some]
   cases bP:iw v.S.K (wd v.H.Words q) with
   | false=>
     refine .inr ⟨fun L hD=>?_,m,rfl⟩
     obtain ⟨_,_,h,_⟩:=hD.inv dP
     rw [bP] at h;cases h
   | true=>
     have b8:uy (⟨(⟨v.S.K.aG,v.S.K.aE,v.S.K.Fields,v.S.K.Names,v.S.K.aD⟩:bt)⟩:dn) (wd v.H.Words q) (wd v.H.Words (q+ 1))=some (isLen v.S.K (wd v.H.Words q) (wd v.H.Words (q+ 1))):=agM a6 bP _
     rw [b8,Option.bind_some,Bool.not_true,cond_false]
     cases az:isLen v.S.K (wd v.H.Words q) (wd v.H.Words (q+ 1)) with
     | false=>
       refine .inr ⟨fun L hD=>?_,m,rfl⟩
       obtain ⟨_,_,_,h,_⟩:=hD.inv dP
       rw [az] at h;cases h
     | true=>
       obtain ⟨⟨Dt,l1⟩,_⟩:=yo.1 az
       rw [Bool.not_true,Bool.false_or,eC (n:=(q:Int)+ 3 +wd v.H.Words (q+ 1)) (by omega) (by omega)]
       by_cases uC:(to:Int) <(q:Int)+ 3 +wd v.H.Words (q+ 1)
       · rw [decide_eq_true uC]
         refine .inr ⟨fun L hD=>?_,m,rfl⟩
         obtain ⟨_,_,_,_,h,_⟩:=hD.inv dP
         omega
       rw [decide_eq_false uC,cond_false,h3 (by simp;omega),Option.bind_some,eC (n:=3 +wd v.H.Words (q+ 1)) (by omega) (by omega),eC (n:=(q:Int)+(3 +wd v.H.Words (q+ 1))) (by omega) (by omega)]
       have Az:du m (q:Int)=none:=by
        clear ct bL b8
        induction m with
        | nil=>rfl
        | cons p r ct=>
          have b0:=hm p List.mem_cons_self
          rw [du,if_neg (by omega)]
          exact ct (fun x aj=>hm x (List.mem_cons_of_mem _ aj))
       rw [Xt Az,show (q:Int)+(3 +wd v.H.Words (q+ 1))=((q+ 3 +(wd v.H.Words (q+ 1)).toNat:Nat):Int) by omega]
       rcases ct (q+ 3 +(wd v.H.Words (q+ 1)).toNat) (acc++[(q:Int)]) (m++[((q:Int),true)]) (by omega) (by omega) (by simp;omega) (fun p b0=>by
        rcases List.mem_append.1 b0 with b0 | b0
        · have:=hm p b0;omega
        · simp at b0;subst b0;simp;omega) with ⟨L,hD,e⟩ | ⟨af,h9,e⟩
       · refine .inl ⟨(q:Int)::L,.cons bP az (by omega) hD,?_⟩
         rw [e];simp
       · refine .inr ⟨fun L hD=>?_,h9,e⟩
         obtain ⟨r,_,_,_,_,h⟩:=hD.inv dP
         exact af r h
theorem agV {F:Nat} (bW:6000 <F) (v:cl) (a6:h2 v.S.K) {q to:Nat} (ea:q<=to) (AI:to<=v.H.Words.length) (jz:v.H.Words.length<= 5000) (hm:∀ p ∈ v.c6,p.1 <(q:Int)) :
 (∃ L,gZ v.S.K v.H.Words to q L/\mR F v (q:Int) (to:Int)=some (L,true,{ v with c6:=v.c6++L.map fun a=>(a,true) })) \/
 ((∀ L,¬ gZ v.S.K v.H.Words to q L)/\ ∃ h9,mR F v (q:Int) (to:Int)=some ([],false,{ v with c6:=h9 })):=by
 unfold mR
 rcases aH7 v a6 AI jz F q [] v.c6 ea (by omega) (by simp;omega) hm with ⟨L,hD,e⟩ | ⟨af,h9,e⟩
 · exact .inl ⟨L,hD,by rw [e,qw];simp⟩
 · exact .inr ⟨af,h9,by rw [e,agJ]⟩
end
end J
