/- Part 6 of the proof that is ended in the last text: small logic, what the functions compute, walks, plain laws. -/
import Derived.Test.YtpkhpagplommoaaGreatZg5
namespace Go.Proofs.YtpkhpagplommoaaGreat
open Go Go.RowKit aZ
set_option maxHeartbeats 4000000
set_option maxRecDepth 20000
theorem aiq {W:World} {X:List Nat} {F:Nat} {h_:J.bw} {aa:J.bs} {r:Int} {ag:aP} {ah:Nat} {aK:aP} {aO:Nat} {aR:aP} {aU:Nat} {bl:aP} {bp:Nat} {bg:aP} {bj:Nat} {bB:aP} {bC:Nat} {bA:aP} {bD:Nat} {M0:List Nat} (hm:ar W M0 X W [] [U (ak .i64) ag ah h_.Words,U (ak .i64) aK aO h_.aE,U J.a' aR aU aa.aD,U (ak .i64) bl bp aa.aA,U (aG J.aW) bg bj aa.Fields,U (aG bE) bB bC aa.Names,U (aG J.bS) bA bD aa.az]) (h:J.Bw F h_ aa=some r) :
 Calls Tryz.prog 50 [.agg #[.q ag ah h_.Words,.i h_.au,.i h_.aI,.i h_.aV,.i h_.aT,.q aK aO h_.aE,.i h_.Next],.agg #[.q aR aU aa.aD,.q bl bp aa.aA,.q bg bj aa.Fields,.q bB bC aa.Names,.q bA bD aa.az]].toArray W (fun e aF=>e= .returned (.i r)/\ar W M0 X aF [] []):=by
 refine enter Tryz.func50 rfl Tryz.ntmps50 rfl fun a I=>?_;rw [J.Bw] at h;refine wp_seq_k fun K c6=>aY <| cD (cs:=[.q ag ah h_.Words,.i h_.au,.i h_.aI,.i h_.aV,.i h_.aT,.q aK aO h_.aE,.i h_.Next]) wn (ei rfl rfl (I.g rfl)) I hm rfl rfl fun a bY w _ I hm=>cD (cs:=[.q aR aU aa.aD,.q bl bp aa.aA,.q bg bj aa.Fields,.q bB bC aa.Names,.q bA bD aa.az]) wn (ei rfl rfl (I.g rfl)) I hm rfl rfl fun a cy w _ I hm=>aN 1 [] [] I fun a I=>wpList_nil (c6 _ _ ?_);refine wp_seq_k fun K bN=>?_
 refine wp_seq_k fun K cb=>aY <| bi 2 [0,1] [(21,.i h_.au)] [bY,1] (av (a2 (hm.e 1 rfl)) aw) I fun a I=>?_;obtain ⟨b',iB,h⟩:=J.aH h;have hc:=hm;refine bP (vs:=[.i h_.au,.i 3,.i 2000]) wn rfl Tryz.call41 ⟨(I.g rfl),(cW _ _),(cW _ _),trivial⟩ (oj ((hc.into 0).pick trivial) iB) I rfl rfl ?_;rintro _ w ⟨rfl,af⟩;refine ⟨_,rfl,fun a I=>?_⟩;have hm:=hc.back 0 af;clear af hc;refine aN 2 [] [(24,.bool (!b'))] I fun a I=>?_;rcases Bool.eq_false_or_eq_true (!b') with qQ | qQ
 · have h:=J.dj qQ h;have I:=I.b6 24 rfl qQ;refine aN 5 [1,1,1,1,1] [(29,.bool true)] I fun a I=>wpList_nil (cb _ _ ?_);refine eG (I.g rfl) rfl <| bt [] [(4,.i 3)] I fun a I=>wp_ret ?_;obtain rfl:=ay h;refine aj <| bq Tryz.results50 I rfl ?_;exact ⟨rfl,hm.aX [] []⟩
 have h:=J.di qQ h;have I:=I.b6 24 rfl qQ;refine bi 2 [1,1,0,2] [(26,.i h_.aI)] [bY,2] (av (a2 (hm.e 1 rfl)) aw) I fun a I=>?_;obtain ⟨nN,q1,h⟩:=J.aH h;have hc:=hm;refine bP (vs:=[.i h_.aI,.i 3,.i 2000]) (cV I rfl rfl rfl rfl) rfl Tryz.call41 ⟨(I.g rfl),(cW _ _),(cW _ _),trivial⟩ (oj ((hc.into 0).pick trivial) q1) I rfl rfl ?_;rintro _ w ⟨rfl,af⟩;refine ⟨_,rfl,fun a I=>?_⟩;have hm:=hc.back 0 af;clear af hc;refine aN 2 [1,1] [(29,.bool (!nN))] I fun a I=>wpList_nil (cb _ _ ?_);refine bk (I.g rfl) h (fun apk h=>?_) (fun apk h=>?_)
 · refine bt [] [(4,.i 3)] I fun a I=>wp_ret ?_;obtain rfl:=ay h;refine aj <| bq Tryz.results50 I rfl ?_;exact ⟨rfl,hm.aX [] []⟩
 refine wp_skip <| bN _ _ <| wp_seq_k fun K dE=>wp_seq_k fun K dl=>eE [0,0,0,1,0,2] [(39,.bool (!decide ((h_.Words.length:Int)=(J.ap ((J.ap (1 +h_.au))+h_.aI)))))] [bY,2,bY,1,bY,0] (av (a2 (hm.e 1 rfl)) aw) I fun a I=>dl _ _ <| bk (I.g rfl) h (fun Q' h=>?_) (fun Q' h=>?_)
 · refine bt [] [(4,.i 1)] I fun a I=>wp_ret ?_;obtain rfl:=ay h;refine aj <| bq Tryz.results50 I rfl ?_;exact ⟨rfl,hm.aX [] []⟩
 refine wp_skip <| dE _ _ <| wp_seq_k fun K dq=>wp_seq_k fun K dc=>aY <| bi 5 [0,3,0,1] [(41,.i h_.aV),(44,.i (J.ap (h_.au+ 1)))] [bY,1,bY,3] (av (a2 (hm.e 1 rfl)) aw) I fun a I=>?_;obtain ⟨eH,Hk,h⟩:=J.aH h;have hc:=hm;refine bP (vs:=[.i h_.aV,.i 1,.i (J.ap (h_.au+ 1))]) wn rfl Tryz.call41 ⟨(I.g rfl),(cW _ _),(I.g rfl),trivial⟩ (oj ((hc.into 0).pick trivial) Hk) I rfl rfl ?_;rintro _ w ⟨rfl,af⟩;refine ⟨_,rfl,fun a I=>?_⟩;have hm:=hc.back 0 af;clear af hc
 refine aN 2 [] [(47,.bool (!eH))] I fun a I=>?_;rcases Bool.eq_false_or_eq_true (!eH) with tK | tK
 · have h:=J.dj tK h;have I:=I.b6 47 rfl tK;refine aN 19 [1,1,1,1,1,1,1,1,1,1,1,1,1,1,1,1,1,1] [(66,.bool true)] I fun a I=>wpList_nil (dc _ _ ?_);refine eG (I.g rfl) rfl <| bt [] [(4,.i 3)] I fun a I=>wp_ret ?_;obtain rfl:=ay h;refine aj <| bq Tryz.results50 I rfl ?_;exact ⟨rfl,hm.aX [] []⟩
 have h:=J.di tK h;have I:=I.b6 47 rfl tK;refine bi 11 [1,1,0,4,1,1,0,1,1,1,1,0,1,1,1,0,2,1,1] [(49,.i h_.aT),(52,.i (J.ap (h_.au+ 1))),(58,.i (J.ap ((J.ap (h_.au+h_.aI))+ 1)))] [bY,2,bY,1,bY,1,bY,4] (av (a2 (hm.e 1 rfl)) aw) I fun a I=>?_;obtain ⟨gb,Hl,h⟩:=J.aH h;have hc:=hm;refine bP (vs:=[.i h_.aT,.i (J.ap (h_.au+ 1)),.i (J.ap ((J.ap (h_.au+h_.aI))+ 1))]) (cV I rfl rfl rfl rfl) rfl Tryz.call41 ⟨(I.g rfl),(I.g rfl),(I.g rfl),trivial⟩ (oj ((hc.into 0).pick trivial) Hl) I rfl rfl ?_;rintro _ w ⟨rfl,af⟩;refine ⟨_,rfl,fun a I=>?_⟩;have ad:ba [] _ w:=af.ev;have hm:=hc.back 0 af
 clear af hc;clear ad;refine bi 7 [1,1,0,0,0,6,0,0] [(66,.bool ((!gb) || (decide (h_.Next < 1))))] [bY,6] (av (a2 (hm.e 1 rfl)) aw) I fun a I=>wpList_nil (dc _ _ ?_);refine bk (I.g rfl) h (fun qR h=>?_) (fun qR h=>?_)
 · refine bt [] [(4,.i 3)] I fun a I=>wp_ret ?_;obtain rfl:=ay h;refine aj <| bq Tryz.results50 I rfl ?_;exact ⟨rfl,hm.aX [] []⟩
 refine wp_skip <| dq _ _ <| wp_seq_k fun K dL=>aY <| bi 2 [0,0,1,0] [(68,.agg #[.q ag ah h_.Words,.i h_.au,.i h_.aI,.i h_.aV,.i h_.aT,.q aK aO h_.aE,.i h_.Next]),(69,.agg #[.q aR aU aa.aD,.q bl bp aa.aA,.q bg bj aa.Fields,.q bB bC aa.Names,.q bA bD aa.az])] [cy,0,bY,0] (av (a2 (hm.e 1 rfl)) (av (a2 (hm.e 0 rfl)) aw)) I fun a I=>?_;obtain ⟨cm,Hm,h⟩:=J.aH h;have hc:=hm
 refine bP (vs:=[.agg #[.q ag ah h_.Words,.i h_.au,.i h_.aI,.i h_.aV,.i h_.aT,.q aK aO h_.aE,.i h_.Next],.agg #[.q aR aU aa.aD,.q bl bp aa.aA,.q bg bj aa.Fields,.q bB bC aa.Names,.q bA bD aa.az]]) wn rfl Tryz.call61 ⟨(I.g rfl),(I.g rfl),trivial⟩ (abd ((hc.into 0).pick ⟨⟨0,rfl⟩,⟨1,rfl⟩,⟨2,rfl⟩,⟨3,rfl⟩,⟨4,rfl⟩,⟨5,rfl⟩,⟨6,rfl⟩,trivial⟩) Hm) I rfl rfl ?_;rintro _ w ⟨gg,gi,aKi,dT,eb,aKj,rfl,af⟩;refine ⟨_,rfl,fun a I=>?_⟩;have hm:=hc.back 0 af;clear af hc
 refine aN 7 [] [(5,.q gg gi cm.1),(6,.q dT eb cm.2.1),(7,.bool cm.2.2)] I fun a I=>wpList_nil (dL _ _ ?_);refine wp_seq_k fun K ft=>bb [] [(75,.bool (!cm.2.2))] I fun a I=>bk (I.g rfl) h (fun apP h=>?_) (fun apP h=>?_)
 · refine bt [] [(4,.i 1)] I fun a I=>wp_ret ?_;obtain rfl:=ay h;refine aj <| bq Tryz.results50 I rfl ?_;exact ⟨rfl,hm.aX [] []⟩
 refine wp_skip <| ft _ _ <| wp_seq_k fun K g9=>aY <| gq (cs:=[]) wn (DM Tryz.underlying22 Tryz.sizeOf3 rfl) I hm rfl rfl fun a aci w _ I hm=>aN 1 [] [(77,.q gg gi cm.1)] I fun a I=>?_;obtain ⟨aeG,ayG,h⟩:=J.aH h;have hm:=hm.freeze 1 0 rfl rfl;have hm:=hm.nI (sz:=1) 0 ([]:fq) rfl rfl rfl rfl;have hm:=hm.more (y:=al.rows (ak .i64) [] []) rfl;refine rr (T:=(ak .i64)) 0 0 1 hm rfl rfl rfl Tryz.underlying22 nD rfl rfl ayG rfl wn rfl (I.g rfl) (I.g rfl) I rfl rfl fun a vC wW aKo w I hm=>?_
 refine aN 1 [] [(79,.q dT eb cm.2.1)] I fun a I=>?_;obtain ⟨cq,ayL,h⟩:=J.aH h;have hm:=hm.freeze 1 4 rfl rfl;refine rr (T:=(ak .i64)) 0 1 0 hm rfl rfl rfl Tryz.underlying22 nD rfl rfl ayL rfl wn rfl (I.g rfl) (I.g rfl) I rfl rfl fun a eJ fc fp w I hm=>aN 1 [] [(8,.q eJ fc cq)] I fun a I=>wpList_nil (g9 _ _ ?_);refine wp_seq_k fun K fu=>bb [] [(9,.i 0)] I fun a I=>?_;obtain ⟨UK,h,R9⟩:=J.dZ h
 refine ca (fun a w=>Fr ⟨288,[]⟩ [(2,.aL bY),(3,.aL cy),(6,.q dT eb cm.2.1),(8,.q eJ fc cq)] a/\ar W M0 X w [aq.row 3 1 (.q eJ fc cq) cq fp,aq.br cy 30 [.q aR aU aa.aD,.q bl bp aa.aA,.q bg bj aa.Fields,.q bB bC aa.Names,.q bA bD aa.az],aq.br bY 24 [.q ag ah h_.Words,.i h_.au,.i h_.aI,.i h_.aV,.i h_.aT,.q aK aO h_.aE,.i h_.Next]] [al.rows (ak .i64) fp cq,U (ak .i64) dT eb cm.2.1,U (ak .i64) gg gi cm.1,U (ak .i64) ag ah h_.Words,U (ak .i64) aK aO h_.aE,U J.a' aR aU aa.aD,U (ak .i64) bl bp aa.aA,U (aG J.aW) bg bj aa.Fields,U (aG bE) bB bC aa.Names,U (aG J.bS) bA bD aa.az]/\UK=(.go ())) (fun K fR=>?_) ?_
 · refine cw (fun (bu:Nat) a w=>∃ (oP:Int),Fr ⟨288,[]⟩ [(2,.aL bY),(3,.aL cy),(6,.q dT eb cm.2.1),(8,.q eJ fc cq),(9,.i oP)] a/\ar W M0 X w [aq.row 3 1 (.q eJ fc cq) cq fp,aq.br cy 30 [.q aR aU aa.aD,.q bl bp aa.aA,.q bg bj aa.Fields,.q bB bC aa.Names,.q bA bD aa.az],aq.br bY 24 [.q ag ah h_.Words,.i h_.au,.i h_.aI,.i h_.aV,.i h_.aT,.q aK aO h_.aE,.i h_.Next]] [al.rows (ak .i64) fp cq,U (ak .i64) dT eb cm.2.1,U (ak .i64) gg gi cm.1,U (ak .i64) ag ah h_.Words,U (ak .i64) aK aO h_.aE,U J.a' aR aU aa.aD,U (ak .i64) bl bp aa.aA,U (aG J.aW) bg bj aa.Fields,U (aG bE) bB bC aa.Names,U (aG J.bS) bA bD aa.az]/\J.vU h_ cq bu oP=some UK) F ⟨0,I.cut,hm.eA [0,1,4,7,8,9,10,11,12,13],h⟩ ?_ ?_
   · rintro a w ⟨oP,I,hm,h⟩;exact absurd h (by simp [J.vU])
   rintro bu a w ⟨oP,I,hm,h⟩ K gm;rw [J.vU] at h;refine wp_seq_k fun K gK=>bb [] [(84,.bool (decide (oP <(cq.length:Int))))] I fun a I=>bk (I.g rfl) h (fun aoH h=>?_) (fun aoH h=>?_)
   · refine wp_skip <| gK _ _ <| wp_seq_k fun K hX=>wp_block <| wp_seq_k fun K ho=>hk (m:=14) 14 (ba []) (by kernel_rfl) rfl fun w ad=>?_;have hm:=hm.dw ad;clear ad;have bh:=hm;have aB:=ba.refl [] w;refine ch [0,1,2,3,9,10,11] 7 [0,0,0,6] [(88,.q ag ah h_.Words),(89,.q eJ fc cq),(90,.i oP),(98,.i (J.ap (h_.Next - 1)))] [bY,6,bY,0] (fun a6 ad=>(av (b2 ad (a2 (bh.e 2 rfl))) aw)) I aB fun a I=>?_;obtain ⟨vj,Us,h⟩:=J.aH h;obtain ⟨QG,RY,_,rfl,Ro⟩:=gN (bh.e 0 rfl) (bh.d 0 rfl) Us
     refine eM 4 rfl (by kernel_rfl) wn (fun a6=>bF Tryz.underlying22 Tryz.sizeOf3 rfl (I.g rfl) (I.g rfl) QG RY) aB I rfl rfl fun a I=>ch [5,6] 2 [0,0] [(93,.i (J.ap (vj+ 2)))] [bG eJ,bH eJ+(oP).toNat* 1] (fun a6 ad=>(av (b2 ad Ro) aw)) I aB fun a I=>?_;obtain ⟨h8,z_,h⟩:=J.aH h;obtain ⟨zt,zQ,_,rfl,zG⟩:=bX _ (bh.d 3 rfl) z_;refine eM 7 rfl (by kernel_rfl) wn (fun a6=>bF Tryz.underlying22 Tryz.sizeOf3 rfl (I.g rfl) (I.g rfl) zt zQ) aB I rfl rfl fun a I=>?_
     refine ch [8] 1 [0,0] [(95,.i h8)] [bG ag,bH ag+(J.ap (vj+ 2)).toNat* 1] (fun a6 ad=>(av (b2 ad zG) aw)) I aB fun a I=>da 12 rfl (by kernel_rfl) (fun _=>aB) ?_;obtain ⟨WU,sf,h⟩:=J.aH h;have hc:=hm;refine bP (vs:=[.i h8,.i 1,.i (J.ap (h_.Next - 1))]) wn rfl Tryz.call41 ⟨(I.g rfl),(cW _ _),(I.g rfl),trivial⟩ (oj ((hc.into 0).pick trivial) sf) I rfl rfl ?_;rintro _ w ⟨rfl,af⟩;refine ⟨_,rfl,fun a I=>?_⟩;have ad:ba [] _ w:=af.ev;have hm:=hc.back 0 af;clear af hc;have aB:=fo aB ad;clear ad;refine c5 ?_
     refine ch [13] 1 [] [(100,.bool (!WU))] [] (fun a6 ad=>aw) I aB fun a I=>fm (by kernel_rfl) ?_ (fun _=>aB);clear bh aB;refine ho _ _ <| bk (I.g rfl) h (fun aoN h=>?_) (fun aoN h=>?_)
     · refine bt [] [(4,.i 3)] I fun a I=>wp_ret ?_;obtain rfl:=ay h;obtain rfl:=ay R9;refine a8 (aj (aj (a8 (aj (aj ?_)))));refine bq Tryz.results50 I rfl ?_;exact ⟨rfl,hm.aX [] []⟩
     refine wp_skip <| hX _ _ <| Dc [] [(2,.aL bY),(3,.aL cy),(6,.q dT eb cm.2.1),(8,.q eJ fc cq),(9,.i (J.ap (oP+ 1)))] I fun a I=>?_;exact gm _ _ ⟨J.ap (oP+ 1),I.cut,hm,h⟩
   refine wp_exit <| bz (bz (cr ?_));exact fR _ _ ⟨I.cut,hm,(os h)⟩
 rintro a w ⟨I,hm,bc⟩;subst UK;have h:=R9;clear R9;dsimp only [J.dW] at h;refine fu _ _ <| wp_seq_k fun K hq=>bb [] [(10,.i 0)] I fun a I=>?_;obtain ⟨V4,h,TD⟩:=J.dZ h
 refine ca (fun a w=>Fr ⟨288,[]⟩ [(2,.aL bY),(3,.aL cy),(6,.q dT eb cm.2.1),(8,.q eJ fc cq)] a/\ar W M0 X w [aq.row 3 1 (.q eJ fc cq) cq fp,aq.br cy 30 [.q aR aU aa.aD,.q bl bp aa.aA,.q bg bj aa.Fields,.q bB bC aa.Names,.q bA bD aa.az],aq.br bY 24 [.q ag ah h_.Words,.i h_.au,.i h_.aI,.i h_.aV,.i h_.aT,.q aK aO h_.aE,.i h_.Next]] [al.rows (ak .i64) fp cq,U (ak .i64) dT eb cm.2.1,U (ak .i64) gg gi cm.1,U (ak .i64) ag ah h_.Words,U (ak .i64) aK aO h_.aE,U J.a' aR aU aa.aD,U (ak .i64) bl bp aa.aA,U (aG J.aW) bg bj aa.Fields,U (aG bE) bB bC aa.Names,U (aG J.bS) bA bD aa.az]/\V4=(.go ())) (fun K jl=>?_) ?_
 · refine cw (fun (c7:Nat) a w=>∃ (iF:Int),Fr ⟨288,[]⟩ [(2,.aL bY),(3,.aL cy),(6,.q dT eb cm.2.1),(8,.q eJ fc cq),(10,.i iF)] a/\ar W M0 X w [aq.row 3 1 (.q eJ fc cq) cq fp,aq.br cy 30 [.q aR aU aa.aD,.q bl bp aa.aA,.q bg bj aa.Fields,.q bB bC aa.Names,.q bA bD aa.az],aq.br bY 24 [.q ag ah h_.Words,.i h_.au,.i h_.aI,.i h_.aV,.i h_.aT,.q aK aO h_.aE,.i h_.Next]] [al.rows (ak .i64) fp cq,U (ak .i64) dT eb cm.2.1,U (ak .i64) gg gi cm.1,U (ak .i64) ag ah h_.Words,U (ak .i64) aK aO h_.aE,U J.a' aR aU aa.aD,U (ak .i64) bl bp aa.aA,U (aG J.aW) bg bj aa.Fields,U (aG bE) bB bC aa.Names,U (aG J.bS) bA bD aa.az]/\J.sY F h_ cq c7 iF=some V4) F ⟨0,I.cut,hm,h⟩ ?_ ?_
   · rintro a w ⟨iF,I,hm,h⟩;exact absurd h (by simp [J.sY])
   rintro c7 a w ⟨iF,I,hm,h⟩ K my;rw [J.sY] at h;refine wp_seq_k fun K jD=>bb [] [(104,.bool (decide (iF <(cq.length:Int))))] I fun a I=>bk (I.g rfl) h (fun aoz h=>?_) (fun aoz h=>?_)
   · refine wp_skip <| jD _ _ <| wp_seq_k fun K j9=>?_;obtain ⟨ad1,h,Sf⟩:=J.eT h
     refine ca (fun a w=>Fr ⟨288,[]⟩ [(2,.aL bY),(3,.aL cy),(6,.q dT eb cm.2.1),(8,.q eJ fc cq),(10,.i iF)] a/\ar W M0 X w [aq.row 3 1 (.q eJ fc cq) cq fp,aq.br cy 30 [.q aR aU aa.aD,.q bl bp aa.aA,.q bg bj aa.Fields,.q bB bC aa.Names,.q bA bD aa.az],aq.br bY 24 [.q ag ah h_.Words,.i h_.au,.i h_.aI,.i h_.aV,.i h_.aT,.q aK aO h_.aE,.i h_.Next]] [al.rows (ak .i64) fp cq,U (ak .i64) dT eb cm.2.1,U (ak .i64) gg gi cm.1,U (ak .i64) ag ah h_.Words,U (ak .i64) aK aO h_.aE,U J.a' aR aU aa.aD,U (ak .i64) bl bp aa.aA,U (aG J.aW) bg bj aa.Fields,U (aG bE) bB bC aa.Names,U (aG J.bS) bA bD aa.az]/\ad1=(.go ())) (fun K j_=>?_) ?_
     · refine bb [] [(11,.i 0)] I fun a I=>?_;obtain ⟨UR,h,Sh⟩:=J.eT h
       refine ca (fun a w=>Fr ⟨288,[]⟩ [(2,.aL bY),(3,.aL cy),(6,.q dT eb cm.2.1),(8,.q eJ fc cq),(10,.i iF)] a/\ar W M0 X w [aq.row 3 1 (.q eJ fc cq) cq fp,aq.br cy 30 [.q aR aU aa.aD,.q bl bp aa.aA,.q bg bj aa.Fields,.q bB bC aa.Names,.q bA bD aa.az],aq.br bY 24 [.q ag ah h_.Words,.i h_.au,.i h_.aI,.i h_.aV,.i h_.aT,.q aK aO h_.aE,.i h_.Next]] [al.rows (ak .i64) fp cq,U (ak .i64) dT eb cm.2.1,U (ak .i64) gg gi cm.1,U (ak .i64) ag ah h_.Words,U (ak .i64) aK aO h_.aE,U J.a' aR aU aa.aD,U (ak .i64) bl bp aa.aA,U (aG J.aW) bg bj aa.Fields,U (aG bE) bB bC aa.Names,U (aG J.bS) bA bD aa.az]/\UR=(.go ())) (fun K ot=>?_) ?_
       · refine cw (fun (et:Nat) a w=>∃ (nJ:Int),Fr ⟨288,[]⟩ [(2,.aL bY),(3,.aL cy),(6,.q dT eb cm.2.1),(8,.q eJ fc cq),(10,.i iF),(11,.i nJ)] a/\ar W M0 X w [aq.row 3 1 (.q eJ fc cq) cq fp,aq.br cy 30 [.q aR aU aa.aD,.q bl bp aa.aA,.q bg bj aa.Fields,.q bB bC aa.Names,.q bA bD aa.az],aq.br bY 24 [.q ag ah h_.Words,.i h_.au,.i h_.aI,.i h_.aV,.i h_.aT,.q aK aO h_.aE,.i h_.Next]] [al.rows (ak .i64) fp cq,U (ak .i64) dT eb cm.2.1,U (ak .i64) gg gi cm.1,U (ak .i64) ag ah h_.Words,U (ak .i64) aK aO h_.aE,U J.a' aR aU aa.aD,U (ak .i64) bl bp aa.aA,U (aG J.aW) bg bj aa.Fields,U (aG bE) bB bC aa.Names,U (aG J.bS) bA bD aa.az]/\J.vV h_ cq iF et nJ=some UR) F ⟨0,I.cut,hm,h⟩ ?_ ?_
         · rintro a w ⟨nJ,I,hm,h⟩;exact absurd h (by simp [J.vV])
         rintro et a w ⟨nJ,I,hm,h⟩ K lF;rw [J.vV] at h;refine wp_seq_k fun K ou=>bb [] [(109,.bool (decide (nJ <iF)))] I fun a I=>bk (I.g rfl) h (fun aoJ h=>?_) (fun aoJ h=>?_)
         · refine wp_skip <| ou _ _ <| wp_seq_k fun K mz=>wp_block <| wp_seq_k fun K qN=>hA (by kernel_rfl) (by kernel_rfl) <| dB 4 [0,0] [(113,.q ag ah h_.Words),(114,.q eJ fc cq),(115,.i iF)] [bY,0] (fun a6 ad=>(av (b2 ad (a2 (hm.e 2 rfl))) aw)) I fun a I=>?_;obtain ⟨Nf,aBJ,h⟩:=J.aH h;obtain ⟨akU,avM,_,rfl,arv⟩:=gN (hm.e 0 rfl) (hm.d 0 rfl) aBJ;refine ek wn (fun a6 ad=>bF Tryz.underlying22 Tryz.sizeOf3 rfl (I.g rfl) (I.g rfl) akU avM) I rfl rfl fun a I=>dB 2 [0,0] [(118,.i (J.ap (Nf+ 2)))] [bG eJ,bH eJ+(iF).toNat* 1] (fun a6 ad=>(av (b2 ad arv) aw)) I fun a I=>?_
           obtain ⟨Ng,aBK,h⟩:=J.aH h;obtain ⟨akV,avN,_,rfl,arw⟩:=bX _ (hm.d 3 rfl) aBK;refine ek wn (fun a6 ad=>bF Tryz.underlying22 Tryz.sizeOf3 rfl (I.g rfl) (I.g rfl) akV avN) I rfl rfl fun a I=>C5 5 [0,0,1,0] [(2,.aL bY),(3,.aL cy),(6,.q dT eb cm.2.1),(8,.q eJ fc cq),(10,.i iF),(11,.i nJ),(120,.i Ng),(122,.q ag ah h_.Words),(123,.q eJ fc cq),(124,.i nJ)] [bY,0,bG ag,bH ag+(J.ap (Nf+ 2)).toNat* 1] (fun a6 ad=>(av (b2 ad arw) (av (b2 ad (a2 (hm.e 2 rfl))) aw))) I fun a I=>?_;obtain ⟨Nh,aBL,h⟩:=J.aH h
           obtain ⟨akW,avO,_,rfl,arx⟩:=gN (hm.e 0 rfl) (hm.d 0 rfl) aBL;refine ek wn (fun a6 ad=>bF Tryz.underlying22 Tryz.sizeOf3 rfl (I.g rfl) (I.g rfl) akW avO) I rfl rfl fun a I=>dB 2 [0,0] [(127,.i (J.ap (Nh+ 2)))] [bG eJ,bH eJ+(nJ).toNat* 1] (fun a6 ad=>(av (b2 ad arx) aw)) I fun a I=>?_;obtain ⟨Ya,aBM,h⟩:=J.aH h;obtain ⟨akX,avP,_,rfl,ary⟩:=bX _ (hm.d 3 rfl) aBM;refine ek wn (fun a6 ad=>bF Tryz.underlying22 Tryz.sizeOf3 rfl (I.g rfl) (I.g rfl) akX avP) I rfl rfl fun a I=>?_
           refine dB 2 [0,0] [(130,.bool (decide (Ng=Ya)))] [bG ag,bH ag+(J.ap (Nh+ 2)).toNat* 1] (fun a6 ad=>(av (b2 ad ary) aw)) I fun a I=>wpQuiet_nil fun w ad=>?_;have hm:=hm.dw ad;clear ad;refine qN _ _ <| bk (I.g rfl) h (fun aoL h=>?_) (fun aoL h=>?_)
           · refine bt [] [(4,.i 6)] I fun a I=>wp_ret ?_;obtain rfl:=ay h;obtain rfl:=ay Sh;obtain rfl:=ay Sf;obtain rfl:=ay TD;refine a8 (aj (aj (a8 (aj (a8 (aj (aj (aj (a8 (aj (aj ?_)))))))))));refine bq Tryz.results50 I rfl ?_;exact ⟨rfl,hm.aX [] []⟩
           refine wp_skip <| mz _ _ <| cg [] [(11,.i (J.ap (nJ+ 1)))] I fun a I=>?_;exact lF _ _ ⟨J.ap (nJ+ 1),I.cut,hm,h⟩
         refine wp_exit <| bz (bz (cr ?_));exact ot _ _ ⟨I.cut,hm,(os h)⟩
       rintro a w ⟨I,hm,bc⟩;subst UR;have h:=Sh;clear Sh;dsimp only [J.eN] at h;exact j_ _ _ ⟨I.cut,hm,(os h)⟩
     rintro a w ⟨I,hm,bc⟩;subst ad1;have h:=Sf;clear Sf;dsimp only [J.eN] at h;refine j9 _ _ <| cg [] [(10,.i (J.ap (iF+ 1)))] I fun a I=>?_;exact my _ _ ⟨J.ap (iF+ 1),I.cut,hm,h⟩
   refine wp_exit <| bz (bz (cr ?_));exact jl _ _ ⟨I.cut,hm,(os h)⟩
 rintro a w ⟨I,hm,bc⟩;subst V4;have h:=TD;clear TD;dsimp only [J.dW] at h;refine hq _ _ <| wp_seq_k fun K mA=>bb [] [(12,.i 0)] I fun a I=>?_;obtain ⟨Vd,h,SD⟩:=J.dZ h
 refine ca (fun a w=>Fr ⟨288,[]⟩ [(2,.aL bY),(3,.aL cy),(6,.q dT eb cm.2.1)] a/\ar W M0 X w [aq.row 3 1 (.q eJ fc cq) cq fp,aq.br cy 30 [.q aR aU aa.aD,.q bl bp aa.aA,.q bg bj aa.Fields,.q bB bC aa.Names,.q bA bD aa.az],aq.br bY 24 [.q ag ah h_.Words,.i h_.au,.i h_.aI,.i h_.aV,.i h_.aT,.q aK aO h_.aE,.i h_.Next]] [al.rows (ak .i64) fp cq,U (ak .i64) dT eb cm.2.1,U (ak .i64) gg gi cm.1,U (ak .i64) ag ah h_.Words,U (ak .i64) aK aO h_.aE,U J.a' aR aU aa.aD,U (ak .i64) bl bp aa.aA,U (aG J.aW) bg bj aa.Fields,U (aG bE) bB bC aa.Names,U (aG J.bS) bA bD aa.az]/\Vd=(.go ())) (fun K qO=>?_) ?_
 · refine cw (fun (fy:Nat) a w=>∃ (lb:Int),Fr ⟨288,[]⟩ [(2,.aL bY),(3,.aL cy),(6,.q dT eb cm.2.1),(8,.q eJ fc cq),(12,.i lb)] a/\ar W M0 X w [aq.row 3 1 (.q eJ fc cq) cq fp,aq.br cy 30 [.q aR aU aa.aD,.q bl bp aa.aA,.q bg bj aa.Fields,.q bB bC aa.Names,.q bA bD aa.az],aq.br bY 24 [.q ag ah h_.Words,.i h_.au,.i h_.aI,.i h_.aV,.i h_.aT,.q aK aO h_.aE,.i h_.Next]] [al.rows (ak .i64) fp cq,U (ak .i64) dT eb cm.2.1,U (ak .i64) gg gi cm.1,U (ak .i64) ag ah h_.Words,U (ak .i64) aK aO h_.aE,U J.a' aR aU aa.aD,U (ak .i64) bl bp aa.aA,U (aG J.aW) bg bj aa.Fields,U (aG bE) bB bC aa.Names,U (aG J.bS) bA bD aa.az]/\J.vW F h_ aa cq fy lb=some Vd) F ⟨0,I.cut,hm,h⟩ ?_ ?_
   · rintro a w ⟨lb,I,hm,h⟩;exact absurd h (by simp [J.vW])
   rintro fy a w ⟨lb,I,hm,h⟩ K ov;rw [J.vW] at h;refine wp_seq_k fun K ow=>bb [] [(134,.bool (decide (lb <(cq.length:Int))))] I fun a I=>bk (I.g rfl) h (fun apC h=>?_) (fun apC h=>?_)
   · refine wp_skip <| ow _ _ <| wp_seq_k fun K r_=>?_;obtain ⟨aee,h,SM⟩:=J.eT h
     refine ca (fun a w=>Fr ⟨288,[]⟩ [(2,.aL bY),(3,.aL cy),(6,.q dT eb cm.2.1),(8,.q eJ fc cq),(12,.i lb)] a/\ar W M0 X w [aq.row 3 1 (.q eJ fc cq) cq fp,aq.br cy 30 [.q aR aU aa.aD,.q bl bp aa.aA,.q bg bj aa.Fields,.q bB bC aa.Names,.q bA bD aa.az],aq.br bY 24 [.q ag ah h_.Words,.i h_.au,.i h_.aI,.i h_.aV,.i h_.aT,.q aK aO h_.aE,.i h_.Next]] [al.rows (ak .i64) fp cq,U (ak .i64) dT eb cm.2.1,U (ak .i64) gg gi cm.1,U (ak .i64) ag ah h_.Words,U (ak .i64) aK aO h_.aE,U J.a' aR aU aa.aD,U (ak .i64) bl bp aa.aA,U (aG J.aW) bg bj aa.Fields,U (aG bE) bB bC aa.Names,U (aG J.bS) bA bD aa.az]/\aee=(.go ())) (fun K tC=>?_) ?_
     · refine wp_seq_k fun K tD=>hk (m:=8) 8 (ba []) (by kernel_rfl) rfl fun w ad=>?_;have hm:=hm.dw ad;clear ad;have bh:=hm;have aB:=ba.refl [] w
       refine ch [0,1,2,3] 4 [0,0,1,0] [(137,.agg #[.q ag ah h_.Words,.i h_.au,.i h_.aI,.i h_.aV,.i h_.aT,.q aK aO h_.aE,.i h_.Next]),(138,.agg #[.q aR aU aa.aD,.q bl bp aa.aA,.q bg bj aa.Fields,.q bB bC aa.Names,.q bA bD aa.az]),(139,.q eJ fc cq),(140,.i lb)] [cy,0,bY,0] (fun a6 ad=>(av (b2 ad (a2 (bh.e 2 rfl))) (av (b2 ad (a2 (bh.e 1 rfl))) aw))) I aB fun a I=>?_;obtain ⟨Nq,aCu,h⟩:=J.aH h;obtain ⟨alL,awB,_,rfl,asl⟩:=gN (bh.e 0 rfl) (bh.d 0 rfl) aCu
       refine eM 4 rfl (by kernel_rfl) wn (fun a6=>bF Tryz.underlying22 Tryz.sizeOf3 rfl (I.g rfl) (I.g rfl) alL awB) aB I rfl rfl fun a I=>ch [5] 1 [0,0] [(142,.i Nq)] [bG eJ,bH eJ+(lb).toNat* 1] (fun a6 ad=>(av (b2 ad asl) aw)) I aB fun a I=>da 6 rfl (by kernel_rfl) (fun _=>aB) ?_;obtain ⟨jS,aAb,h⟩:=J.aH h;have hc:=hm
       refine bP (vs:=[.agg #[.q ag ah h_.Words,.i h_.au,.i h_.aI,.i h_.aV,.i h_.aT,.q aK aO h_.aE,.i h_.Next],.agg #[.q aR aU aa.aD,.q bl bp aa.aA,.q bg bj aa.Fields,.q bB bC aa.Names,.q bA bD aa.az],.i Nq]) wn rfl Tryz.call43 ⟨(I.g rfl),(I.g rfl),(I.g rfl),trivial⟩ (Kw ((hc.into 0).pick ⟨⟨3,rfl⟩,⟨4,rfl⟩,⟨5,rfl⟩,⟨6,rfl⟩,⟨7,rfl⟩,⟨8,rfl⟩,⟨9,rfl⟩,trivial⟩) aAb) I rfl rfl ?_;rintro _ w ⟨rL,BV,Oj,rfl,af⟩;refine ⟨_,rfl,fun a I=>?_⟩;have ad:ba [] _ w:=af.ev;have hm:=hc.back 0 af;clear af hc;have aB:=fo aB ad;clear ad
       refine c5 <| a0 [7] 1 [] [(2,.aL bY),(3,.aL cy),(6,.q dT eb cm.2.1),(8,.q eJ fc cq),(12,.i lb),(13,.q rL BV jS)] [] (fun a6 ad=>aw) I aB fun a I=>fm (by kernel_rfl) ?_ (fun _=>aB);clear bh aB;refine tD _ _ <| bb [] [(14,.i 0)] I fun a I=>?_;obtain ⟨Vt,h,SR⟩:=J.eT h
       refine ca (fun a w=>Fr ⟨288,[]⟩ [(2,.aL bY),(3,.aL cy),(6,.q dT eb cm.2.1),(8,.q eJ fc cq),(12,.i lb)] a/\ar W M0 X w [aq.row 3 1 (.q rL BV jS) jS Oj,aq.row 3 1 (.q eJ fc cq) cq fp,aq.br cy 30 [.q aR aU aa.aD,.q bl bp aa.aA,.q bg bj aa.Fields,.q bB bC aa.Names,.q bA bD aa.az],aq.br bY 24 [.q ag ah h_.Words,.i h_.au,.i h_.aI,.i h_.aV,.i h_.aT,.q aK aO h_.aE,.i h_.Next]] [al.rows (ak .i64) Oj jS,al.rows (ak .i64) fp cq,U (ak .i64) dT eb cm.2.1,U (ak .i64) gg gi cm.1,U (ak .i64) ag ah h_.Words,U (ak .i64) aK aO h_.aE,U J.a' aR aU aa.aD,U (ak .i64) bl bp aa.aA,U (aG J.aW) bg bj aa.Fields,U (aG bE) bB bC aa.Names,U (aG J.bS) bA bD aa.az]/\Vt=(.go ())) (fun K tE=>?_) ?_
       · refine cw (fun (hZ:Nat) a w=>∃ (ki:Int),Fr ⟨288,[]⟩ [(2,.aL bY),(3,.aL cy),(6,.q dT eb cm.2.1),(8,.q eJ fc cq),(12,.i lb),(13,.q rL BV jS),(14,.i ki)] a/\ar W M0 X w [aq.row 3 1 (.q rL BV jS) jS Oj,aq.row 3 1 (.q eJ fc cq) cq fp,aq.br cy 30 [.q aR aU aa.aD,.q bl bp aa.aA,.q bg bj aa.Fields,.q bB bC aa.Names,.q bA bD aa.az],aq.br bY 24 [.q ag ah h_.Words,.i h_.au,.i h_.aI,.i h_.aV,.i h_.aT,.q aK aO h_.aE,.i h_.Next]] [al.rows (ak .i64) Oj jS,al.rows (ak .i64) fp cq,U (ak .i64) dT eb cm.2.1,U (ak .i64) gg gi cm.1,U (ak .i64) ag ah h_.Words,U (ak .i64) aK aO h_.aE,U J.a' aR aU aa.aD,U (ak .i64) bl bp aa.aA,U (aG J.aW) bg bj aa.Fields,U (aG bE) bB bC aa.Names,U (aG J.bS) bA bD aa.az]/\J.sZ F h_ cq jS hZ ki=some Vt) F ⟨0,I.cut,hm,h⟩ ?_ ?_
         · rintro a w ⟨ki,I,hm,h⟩;exact absurd h (by simp [J.sZ])
         rintro hZ a w ⟨ki,I,hm,h⟩ K xl;rw [J.sZ] at h;refine wp_seq_k fun K tF=>bb [] [(147,.bool (decide (ki <(jS.length:Int))))] I fun a I=>bk (I.g rfl) h (fun apI h=>?_) (fun apI h=>?_)
         · refine wp_skip <| tF _ _ <| wp_seq_k fun K Ci=>wp_block <| wp_seq_k fun K xm=>hk (m:=22) 22 (ba []) (by kernel_rfl) rfl fun w ad=>?_;have hm:=hm.dw ad;clear ad;have bh:=hm;have aB:=ba.refl [] w;refine ch [0,1,2,3] 4 [0,0] [(151,.q ag ah h_.Words),(152,.q rL BV jS),(153,.i ki)] [bY,0] (fun a6 ad=>(av (b2 ad (a2 (bh.e 3 rfl))) aw)) I aB fun a I=>?_;obtain ⟨Nt,aCx,h⟩:=J.aH h;obtain ⟨alO,awE,_,rfl,aso⟩:=gN (bh.e 0 rfl) (bh.d 0 rfl) aCx
           refine eM 4 rfl (by kernel_rfl) wn (fun a6=>bF Tryz.underlying22 Tryz.sizeOf3 rfl (I.g rfl) (I.g rfl) alO awE) aB I rfl rfl fun a I=>ch [5] 1 [0,0] [(155,.i Nt)] [bG rL,bH rL+(ki).toNat* 1] (fun a6 ad=>(av (b2 ad aso) aw)) I aB fun a I=>?_;obtain ⟨Nu,aCy,h⟩:=J.aH h;obtain ⟨alP,awF,_,rfl,asp⟩:=bX _ (bh.d 4 rfl) aCy;refine eM 6 rfl (by kernel_rfl) wn (fun a6=>bF Tryz.underlying22 Tryz.sizeOf3 rfl (I.g rfl) (I.g rfl) alP awF) aB I rfl rfl fun a I=>?_
           refine ch [7,8,9] 3 [0,0] [(159,.bool (!decide (Nu= 0)))] [bG ag,bH ag+(Nt).toNat* 1] (fun a6 ad=>(av (b2 ad asp) aw)) I aB fun a I=>?_;rcases Bool.eq_false_or_eq_true (!decide (Nu= 0)) with Gd | Gd
           · have h:=J.dj Gd h;have I:=I.b6 159 rfl Gd;refine ch [10,11,12,13,14] 5 [1,1,1,0,0,1,1] [(160,.q eJ fc cq),(162,.q ag ah h_.Words),(163,.q rL BV jS),(164,.i ki)] [bY,0] (fun a6 ad=>(av (b2 ad (a2 (bh.e 3 rfl))) aw)) I aB fun a I=>?_;obtain ⟨Nw,aCA,h⟩:=J.aH h;obtain ⟨alR,awH,_,rfl,asr⟩:=gN (bh.e 0 rfl) (bh.d 0 rfl) aCA;refine eM 15 rfl (by kernel_rfl) (cV I rfl rfl rfl rfl) (fun a6=>bF Tryz.underlying22 Tryz.sizeOf3 rfl (I.g rfl) (I.g rfl) alR awH) aB I rfl rfl fun a I=>?_
             refine ch [16] 1 [1,0,0] [(166,.i Nw)] [bG rL,bH rL+(ki).toNat* 1] (fun a6 ad=>(av (b2 ad asr) aw)) I aB fun a I=>?_;obtain ⟨Ny,aCC,h⟩:=J.aH h;obtain ⟨alT,awJ,_,rfl,ast⟩:=bX _ (bh.d 4 rfl) aCC;refine eM 17 rfl (by kernel_rfl) (cV I rfl rfl rfl rfl) (fun a6=>bF Tryz.underlying22 Tryz.sizeOf3 rfl (I.g rfl) (I.g rfl) alT awJ) aB I rfl rfl fun a I=>ch [18] 1 [1,0,0] [(168,.i Ny)] [bG ag,bH ag+(Nw).toNat* 1] (fun a6 ad=>(av (b2 ad ast) aw)) I aB fun a I=>da 19 rfl (by kernel_rfl) (fun _=>aB) ?_
             obtain ⟨Xf,aAd,h⟩:=J.aH h;have hc:=hm;have ax:=hc.freeze 1 1 rfl rfl;refine bP (vs:=[.q eJ fc cq,.i Ny]) (cV I rfl rfl rfl rfl) rfl Tryz.call42 ⟨(I.g rfl),(I.g rfl),trivial⟩ (B9 ((ax.into 0).pick ⟨⟨0,rfl⟩,trivial⟩) aAd) I rfl rfl ?_;rintro _ w ⟨rfl,af⟩;refine ⟨_,rfl,fun a I=>?_⟩;have ad:ba [] _ w:=af.ev;have hm:=hc.fP 0 (by exact trivial) af;clear af hc ax;have aB:=fo aB ad;clear ad;refine c5 <| ch [20,21] 2 [1,1] [(171,.bool (!Xf))] [] (fun a6 ad=>aw) I aB fun a I=>?_
             refine fm (by kernel_rfl) ?_ (fun _=>aB);clear bh aB;refine xm _ _ <| bk (I.g rfl) h (fun apJ h=>?_) (fun apJ h=>?_)
             · refine bt [] [(4,.i 5)] I fun a I=>wp_ret ?_;obtain rfl:=ay h;obtain rfl:=ay SR;obtain rfl:=ay SM;obtain rfl:=ay SD;refine a8 (aj (aj (a8 (aj (a8 (aj (aj (aj (a8 (aj (aj ?_)))))))))));refine bq Tryz.results50 I rfl ?_;exact ⟨rfl,hm.aX [] []⟩
             refine wp_skip <| Ci _ _ <| cg [] [(14,.i (J.ap (ki+ 1)))] I fun a I=>?_;exact xl _ _ ⟨J.ap (ki+ 1),I.cut,hm,h⟩
           have h:=J.di Gd h;have I:=I.b6 159 rfl Gd;refine ch [10,11,12,13,14,15,16,17,18] 9 [1,1,1,1,1,1,1,1,1] [(160,undef),(168,undef)] [] (fun a6 ad=>aw) I aB fun a I=>da 19 rfl (by kernel_rfl) (fun _=>aB) <| aN 1 [1] [(169,undef)] I fun a I=>c5 <| ch [20,21] 2 [1,1] [(171,.bool false)] [] (fun a6 ad=>aw) I aB fun a I=>fm (by kernel_rfl) ?_ (fun _=>aB);clear bh aB;refine xm _ _ <| hW (I.g rfl) rfl <| wp_skip <| Ci _ _ <| cg [] [(14,.i (J.ap (ki+ 1)))] I fun a I=>?_
           exact xl _ _ ⟨J.ap (ki+ 1),I.cut,hm,h⟩
         refine wp_exit <| bz (bz (cr ?_));exact tE _ _ ⟨I.cut,hm,(os h)⟩
       rintro a w ⟨I,hm,bc⟩;subst Vt;have h:=SR;clear SR;dsimp only [J.eN] at h;exact tC _ _ ⟨I.cut,hm.aX [1,2,3] [1,2,3,4,5,6,7,8,9,10],(os h)⟩
     rintro a w ⟨I,hm,bc⟩;subst aee;have h:=SM;clear SM;dsimp only [J.eN] at h;refine r_ _ _ <| cg [] [(12,.i (J.ap (lb+ 1)))] I fun a I=>?_;exact ov _ _ ⟨J.ap (lb+ 1),I.cut,hm,h⟩
   refine wp_exit <| bz (bz (cr ?_));exact qO _ _ ⟨I.cut,hm,(os h)⟩
 rintro a w ⟨I,hm,bc⟩;subst Vd;have h:=SD;clear SD;dsimp only [J.dW] at h;refine mA _ _ <| wp_seq_k fun K tG=>bb [] [(15,.i 0)] I fun a I=>?_;obtain ⟨Vu,h,Ld⟩:=J.dZ h
 refine ca (fun a w=>Fr ⟨288,[]⟩ [(2,.aL bY),(3,.aL cy),(6,.q dT eb cm.2.1)] a/\ar W M0 X w [aq.row 3 1 (.q eJ fc cq) cq fp,aq.br cy 30 [.q aR aU aa.aD,.q bl bp aa.aA,.q bg bj aa.Fields,.q bB bC aa.Names,.q bA bD aa.az],aq.br bY 24 [.q ag ah h_.Words,.i h_.au,.i h_.aI,.i h_.aV,.i h_.aT,.q aK aO h_.aE,.i h_.Next]] [al.rows (ak .i64) fp cq,U (ak .i64) dT eb cm.2.1,U (ak .i64) gg gi cm.1,U (ak .i64) ag ah h_.Words,U (ak .i64) aK aO h_.aE,U J.a' aR aU aa.aD,U (ak .i64) bl bp aa.aA,U (aG J.aW) bg bj aa.Fields,U (aG bE) bB bC aa.Names,U (aG J.bS) bA bD aa.az]/\Vu=(.go ())) (fun K zx=>?_) ?_
 · refine cw (fun (jG:Nat) a w=>∃ (hP:Int),Fr ⟨288,[]⟩ [(2,.aL bY),(3,.aL cy),(6,.q dT eb cm.2.1),(15,.i hP)] a/\ar W M0 X w [aq.row 3 1 (.q eJ fc cq) cq fp,aq.br cy 30 [.q aR aU aa.aD,.q bl bp aa.aA,.q bg bj aa.Fields,.q bB bC aa.Names,.q bA bD aa.az],aq.br bY 24 [.q ag ah h_.Words,.i h_.au,.i h_.aI,.i h_.aV,.i h_.aT,.q aK aO h_.aE,.i h_.Next]] [al.rows (ak .i64) fp cq,U (ak .i64) dT eb cm.2.1,U (ak .i64) gg gi cm.1,U (ak .i64) ag ah h_.Words,U (ak .i64) aK aO h_.aE,U J.a' aR aU aa.aD,U (ak .i64) bl bp aa.aA,U (aG J.aW) bg bj aa.Fields,U (aG bE) bB bC aa.Names,U (aG J.bS) bA bD aa.az]/\J.rR h_ jG hP=some Vu) F ⟨0,I.cut,hm,h⟩ ?_ ?_
   · rintro a w ⟨hP,I,hm,h⟩;exact absurd h (by simp [J.rR])
   rintro jG a w ⟨hP,I,hm,h⟩ K xn;rw [J.rR] at h;refine wp_seq_k fun K FI=>wp_seq_k fun K FJ=>eE [0,0] [(176,.bool (decide (hP <(h_.Words.length:Int))))] [bY,0] (av (a2 (hm.e 2 rfl)) aw) I fun a I=>FJ _ _ <| bk (I.g rfl) h (fun apM h=>?_) (fun apM h=>?_)
   · refine wp_skip <| FI _ _ <| wp_seq_k fun K Cj=>wp_block <| wp_seq_k fun K zy=>aY <| bi 3 [0,0] [(180,.q ag ah h_.Words),(181,.i hP)] [bY,0] (av (a2 (hm.e 2 rfl)) aw) I fun a I=>?_;obtain ⟨Nz,aCE,h⟩:=J.aH h;obtain ⟨alV,awL,_,rfl,asv⟩:=bX _ (hm.d 3 rfl) aCE;refine bQ wn (bF Tryz.underlying22 Tryz.sizeOf3 rfl (I.g rfl) (I.g rfl) alV awL) I rfl rfl fun a I=>bi 3 [0,0] [(185,.bool (!decide (Nz= 0)))] [bG ag,bH ag+(hP).toNat* 1] (av asv aw) I fun a I=>?_;rcases Bool.eq_false_or_eq_true (!decide (Nz= 0)) with Gf | Gf
     · have h:=J.dj Gf h;have I:=I.b6 185 rfl Gf;refine aN 3 [1,1,1] [(188,.bool (decide (hP= 0)))] I fun a I=>?_;rcases Bool.eq_false_or_eq_true (decide (hP= 0)) with Gg | Gg
       · have h:=J.dj Gg h;have I:=I.b6 188 rfl Gg;refine eu 14 [1,1,1,1,1,1,1,1,1,1,1,1,1,1,1,1] [(2,.aL bY),(3,.aL cy),(6,.q dT eb cm.2.1),(15,.i hP),(202,.bool true)] I fun a I=>wpList_nil (zy _ _ ?_);refine eG (I.g rfl) rfl <| bt [] [(4,.i 1)] I fun a I=>wp_ret ?_;obtain rfl:=ay h;obtain rfl:=ay Ld;refine a8 (aj (aj (a8 (aj (aj ?_)))));refine bq Tryz.results50 I rfl ?_;exact ⟨rfl,hm.aX [] []⟩
       have h:=J.di Gg h;have I:=I.b6 188 rfl Gg;refine jT 5 [1,1,1,0,3,1,1,0,1] [(2,.aL bY),(3,.aL cy),(6,.q dT eb cm.2.1),(15,.i hP),(185,.bool true),(188,.bool false),(189,.i hP),(191,.i h_.aV),(193,.i h_.au)] [bY,1,bY,3] (av (a2 (hm.e 2 rfl)) aw) I fun a I=>?_;obtain ⟨Xg,aAe,h⟩:=J.aH h;have hc:=hm;refine bP (vs:=[.i hP,.i h_.aV,.i h_.au]) (cV I rfl rfl rfl rfl) rfl Tryz.call41 ⟨(I.g rfl),(I.g rfl),(I.g rfl),trivial⟩ (oj ((hc.into 0).pick trivial) aAe) I rfl rfl ?_;rintro _ w ⟨rfl,af⟩;refine ⟨_,rfl,fun a I=>?_⟩;have ad:ba [] _ w:=af.ev;have hm:=hc.back 0 af
       clear af hc;clear ad;refine bi 8 [1,1,1,0,0,0,0,4,0,1,0,1] [(202,.bool (Xg || (decide (h_.aT<=hP))))] [bY,4] (av (a2 (hm.e 2 rfl)) aw) I fun a I=>wpList_nil (zy _ _ ?_);refine bk (I.g rfl) h (fun apN h=>?_) (fun apN h=>?_)
       · refine bt [] [(4,.i 1)] I fun a I=>wp_ret ?_;obtain rfl:=ay h;obtain rfl:=ay Ld;refine a8 (aj (aj (a8 (aj (aj ?_)))));refine bq Tryz.results50 I rfl ?_;exact ⟨rfl,hm.aX [] []⟩
       refine wp_skip <| Cj _ _ <| cg [] [(15,.i (J.ap (hP+ 1)))] I fun a I=>?_;exact xn _ _ ⟨J.ap (hP+ 1),I.cut,hm,h⟩
     have h:=J.di Gf h;have I:=I.b6 185 rfl Gf;refine aN 17 [1,1,1,1,1,1,1,1,1,1,1,1,1,1,1,1,1] [(202,.bool false)] I fun a I=>wpList_nil (zy _ _ ?_);refine hW (I.g rfl) rfl <| wp_skip <| Cj _ _ <| Dc [] [(2,.aL bY),(3,.aL cy),(6,.q dT eb cm.2.1),(15,.i (J.ap (hP+ 1)))] I fun a I=>?_;exact xn _ _ ⟨J.ap (hP+ 1),I.cut,hm,h⟩
   refine wp_exit <| bz (bz (cr ?_));exact zx _ _ ⟨I.cut,hm,(os h)⟩
 rintro a w ⟨I,hm,bc⟩;subst Vu;have h:=Ld;clear Ld;dsimp only [J.dW] at h;refine tG _ _ <| wp_seq_k fun K QR=>bb [] [(16,.i 0)] I fun a I=>?_;obtain ⟨Vv,h,zS⟩:=J.dZ h
 refine ca (fun a w=>Fr ⟨288,[]⟩ [(2,.aL bY),(3,.aL cy),(6,.q dT eb cm.2.1)] a/\ar W M0 X w [aq.row 3 1 (.q eJ fc cq) cq fp,aq.br cy 30 [.q aR aU aa.aD,.q bl bp aa.aA,.q bg bj aa.Fields,.q bB bC aa.Names,.q bA bD aa.az],aq.br bY 24 [.q ag ah h_.Words,.i h_.au,.i h_.aI,.i h_.aV,.i h_.aT,.q aK aO h_.aE,.i h_.Next]] [al.rows (ak .i64) fp cq,U (ak .i64) dT eb cm.2.1,U (ak .i64) gg gi cm.1,U (ak .i64) ag ah h_.Words,U (ak .i64) aK aO h_.aE,U J.a' aR aU aa.aD,U (ak .i64) bl bp aa.aA,U (aG J.aW) bg bj aa.Fields,U (aG bE) bB bC aa.Names,U (aG J.bS) bA bD aa.az]/\Vv=(.go ())) (fun K QS=>?_) ?_
 · refine cw (fun (si:Nat) a w=>∃ (fS:Int),Fr ⟨288,[]⟩ [(2,.aL bY),(3,.aL cy),(6,.q dT eb cm.2.1),(16,.i fS)] a/\ar W M0 X w [aq.row 3 1 (.q eJ fc cq) cq fp,aq.br cy 30 [.q aR aU aa.aD,.q bl bp aa.aA,.q bg bj aa.Fields,.q bB bC aa.Names,.q bA bD aa.az],aq.br bY 24 [.q ag ah h_.Words,.i h_.au,.i h_.aI,.i h_.aV,.i h_.aT,.q aK aO h_.aE,.i h_.Next]] [al.rows (ak .i64) fp cq,U (ak .i64) dT eb cm.2.1,U (ak .i64) gg gi cm.1,U (ak .i64) ag ah h_.Words,U (ak .i64) aK aO h_.aE,U J.a' aR aU aa.aD,U (ak .i64) bl bp aa.aA,U (aG J.aW) bg bj aa.Fields,U (aG bE) bB bC aa.Names,U (aG J.bS) bA bD aa.az]/\J.rS F h_ aa cm si fS=some Vv) F ⟨0,I.cut,hm,h⟩ ?_ ?_
   · rintro a w ⟨fS,I,hm,h⟩;exact absurd h (by simp [J.rS])
   rintro si a w ⟨fS,I,hm,h⟩ K KX;rw [J.rS] at h;refine wp_seq_k fun K QT=>wp_seq_k fun K QU=>eE [0,5] [(207,.bool (decide (fS <(h_.aE.length:Int))))] [bY,5] (av (a2 (hm.e 2 rfl)) aw) I fun a I=>QU _ _ <| bk (I.g rfl) h (fun apU h=>?_) (fun apU h=>?_)
   · refine wp_skip <| QT _ _ <| wp_seq_k fun K KY=>wp_block <| wp_seq_k fun K zz=>hk (m:=38) 38 (ba []) (by kernel_rfl) rfl fun w ad=>?_;have hm:=hm.dw ad;clear ad;have bh:=hm;have aB:=ba.refl [] w;refine ch [0,1,2] 3 [] [(212,.bool (decide (0 <fS)))] [] (fun a6 ad=>aw) I aB fun a I=>?_;rcases Bool.eq_false_or_eq_true (decide (0 <fS)) with Gi | Gi
     · have h:=J.dj Gi h;have I:=I.b6 212 rfl Gi;refine a0 [3,4,5,8,9,10,11] 7 [1,1,0,5,1,1,1,0,5,1,1] [(2,.aL bY),(3,.aL cy),(6,.q dT eb cm.2.1),(16,.i fS),(212,.bool true),(214,.q aK aO h_.aE),(215,.i fS),(219,.q aK aO h_.aE),(221,.i (J.ap (fS - 1)))] [bY,5,bY,5] (fun a6 ad=>(av (b2 ad (a2 (bh.e 2 rfl))) aw)) I aB fun a I=>?_;obtain ⟨Iw,aCH,h⟩:=J.aH h;obtain ⟨alZ,awO,_,rfl,asy⟩:=bX _ (bh.d 4 rfl) aCH
       refine eM 6 rfl (by kernel_rfl) (cV I rfl rfl rfl rfl) (fun a6=>bF Tryz.underlying22 Tryz.sizeOf3 rfl (I.g rfl) (I.g rfl) alZ awO) aB I rfl rfl fun a I=>ch [7] 1 [1,0,0] [(217,.i Iw)] [bG aK,bH aK+(fS).toNat* 1] (fun a6 ad=>(av (b2 ad asy) aw)) I aB fun a I=>?_;obtain ⟨NB,aCI,h⟩:=J.aH h;obtain ⟨al0,awP,_,rfl,asz⟩:=bX _ (bh.d 4 rfl) aCI;refine eM 12 rfl (by kernel_rfl) (cV I rfl rfl rfl rfl) (fun a6=>bF Tryz.underlying22 Tryz.sizeOf3 rfl (I.g rfl) (I.g rfl) al0 awP) aB I rfl rfl fun a I=>?_
       refine ch [13,14,15,16] 4 [1,0,0,1,1] [(226,.bool (decide (Iw<=NB)))] [bG aK,bH aK+(J.ap (fS - 1)).toNat* 1] (fun a6 ad=>(av (b2 ad asz) aw)) I aB fun a I=>?_;rcases Bool.eq_false_or_eq_true (decide (Iw<=NB)) with Gj | Gj
       · have h:=J.dj Gj h;have I:=I.b6 226 rfl Gj;refine ch [17,18,19,20,21,22] 6 [1,1,1,1,1,1] [(227,undef),(232,undef)] [] (fun a6 ad=>aw) I aB fun a I=>da 23 rfl (by kernel_rfl) (fun _=>aB) <| aN 1 [1] [(233,undef)] I fun a I=>c5 <| ch [24,25,26,27,28,29,30,31,32,33] 10 [1,1,1,1,1,1,1,1,1] [(236,.bool true),(237,undef),(238,undef),(243,undef)] [] (fun a6 ad=>aw) I aB fun a I=>da 34 rfl (by kernel_rfl) (fun _=>aB) <| aN 1 [1] [(244,undef)] I fun a I=>c5 ?_
         refine ch [35,36,37] 3 [1,1,1] [(247,.bool true)] [] (fun a6 ad=>aw) I aB fun a I=>fm (by kernel_rfl) ?_ (fun _=>aB);clear bh aB;refine zz _ _ <| eG (I.g rfl) rfl <| bt [] [(4,.i 4)] I fun a I=>wp_ret ?_;obtain rfl:=ay h;obtain rfl:=ay zS;refine a8 (aj (aj (a8 (aj (aj ?_)))));refine bq Tryz.results50 I rfl ?_;exact ⟨rfl,hm.aX [] []⟩
       have h:=J.di Gj h;have I:=I.b6 226 rfl Gj;refine ch [17,18,19,20] 4 [1,1,1,0,5,1] [(227,.q dT eb cm.2.1),(229,.q aK aO h_.aE),(230,.i fS)] [bY,5] (fun a6 ad=>(av (b2 ad (a2 (bh.e 2 rfl))) aw)) I aB fun a I=>?_;obtain ⟨NC,aCJ,h⟩:=J.aH h;obtain ⟨al1,awQ,_,rfl,asA⟩:=bX _ (bh.d 4 rfl) aCJ;refine eM 21 rfl (by kernel_rfl) (cV I rfl rfl rfl rfl) (fun a6=>bF Tryz.underlying22 Tryz.sizeOf3 rfl (I.g rfl) (I.g rfl) al1 awQ) aB I rfl rfl fun a I=>?_
       refine ch [22] 1 [1,0,0] [(232,.i NC)] [bG aK,bH aK+(fS).toNat* 1] (fun a6 ad=>(av (b2 ad asA) aw)) I aB fun a I=>da 23 rfl (by kernel_rfl) (fun _=>aB) ?_;obtain ⟨C',aAg,h⟩:=J.aH h;have hc:=hm;refine bP (vs:=[.q dT eb cm.2.1,.i NC]) (cV I rfl rfl rfl rfl) rfl Tryz.call42 ⟨(I.g rfl),(I.g rfl),trivial⟩ (B9 ((hc.into 0).pick ⟨⟨1,rfl⟩,trivial⟩) aAg) I rfl rfl ?_;rintro _ w ⟨rfl,af⟩;refine ⟨_,rfl,fun a I=>?_⟩;have ad:ba [] _ w:=af.ev;have hm:=hc.back 0 af;clear af hc;have aB:=fo aB ad;clear ad;refine c5 ?_
       refine ch [24,25,26] 3 [1,1] [(236,.bool (!C'))] [] (fun a6 ad=>aw) I aB fun a I=>?_;rcases Bool.eq_false_or_eq_true (!C') with Gk | Gk
       · have h:=J.dj Gk h;have I:=I.b6 236 rfl Gk;refine ch [27,28,29,30,31,32,33] 7 [1,1,1,1,1,1,1] [(237,undef),(238,undef),(243,undef)] [] (fun a6 ad=>aw) I aB fun a I=>da 34 rfl (by kernel_rfl) (fun _=>aB) <| aN 1 [1] [(244,undef)] I fun a I=>c5 <| ch [35,36,37] 3 [1,1,1] [(247,.bool true)] [] (fun a6 ad=>aw) I aB fun a I=>fm (by kernel_rfl) ?_ (fun _=>aB);clear bh aB;refine zz _ _ <| eG (I.g rfl) rfl <| bt [] [(4,.i 4)] I fun a I=>wp_ret ?_
         obtain rfl:=ay h;obtain rfl:=ay zS;refine a8 (aj (aj (a8 (aj (aj ?_)))));refine bq Tryz.results50 I rfl ?_;exact ⟨rfl,hm.aX [] []⟩
       have h:=J.di Gk h;have I:=I.b6 236 rfl Gk;refine ch [27,28,29,30,31] 5 [1,0,0,1,1,0,1,1,0,5,1] [(237,.agg #[.q ag ah h_.Words,.i h_.au,.i h_.aI,.i h_.aV,.i h_.aT,.q aK aO h_.aE,.i h_.Next]),(238,.agg #[.q aR aU aa.aD,.q bl bp aa.aA,.q bg bj aa.Fields,.q bB bC aa.Names,.q bA bD aa.az]),(240,.q aK aO h_.aE),(241,.i fS)] [bY,5,cy,0,bY,0] (fun a6 ad=>(av (b2 ad (a2 (bh.e 2 rfl))) (av (b2 ad (a2 (bh.e 1 rfl))) aw))) I aB fun a I=>?_;obtain ⟨Dv,aCK,h⟩:=J.aH h
       obtain ⟨al2,awR,_,rfl,asB⟩:=bX _ (bh.d 4 rfl) aCK;refine eM 32 rfl (by kernel_rfl) (cV I rfl rfl rfl rfl) (fun a6=>bF Tryz.underlying22 Tryz.sizeOf3 rfl (I.g rfl) (I.g rfl) al2 awR) aB I rfl rfl fun a I=>ch [33] 1 [1,0,0] [(243,.i Dv)] [bG aK,bH aK+(fS).toNat* 1] (fun a6 ad=>(av (b2 ad asB) aw)) I aB fun a I=>da 34 rfl (by kernel_rfl) (fun _=>aB) ?_;obtain ⟨H3,aAi,h⟩:=J.aH h;have hc:=hm
       refine bP (vs:=[.agg #[.q ag ah h_.Words,.i h_.au,.i h_.aI,.i h_.aV,.i h_.aT,.q aK aO h_.aE,.i h_.Next],.agg #[.q aR aU aa.aD,.q bl bp aa.aA,.q bg bj aa.Fields,.q bB bC aa.Names,.q bA bD aa.az],.i Dv]) (cV I rfl rfl rfl rfl) rfl Tryz.call43 ⟨(I.g rfl),(I.g rfl),(I.g rfl),trivial⟩ (Kw ((hc.into 0).pick ⟨⟨3,rfl⟩,⟨4,rfl⟩,⟨5,rfl⟩,⟨6,rfl⟩,⟨7,rfl⟩,⟨8,rfl⟩,⟨9,rfl⟩,trivial⟩) aAi) I rfl rfl ?_;rintro _ w ⟨aIG,aIX,aKm,rfl,af⟩;refine ⟨_,rfl,fun a I=>?_⟩;have ad:ba [] _ w:=af.ev;have hm:=hc.back 0 af;clear af hc
       have aB:=fo aB ad;clear ad;refine c5 <| ch [35,36,37] 3 [1,1,1] [(247,.bool (decide ((H3.length:Int)= 0)))] [] (fun a6 ad=>aw) I aB fun a I=>fm (by kernel_rfl) ?_ (fun _=>aB);clear bh aB;refine zz _ _ <| bk (I.g rfl) h (fun apW h=>?_) (fun apW h=>?_)
       · refine bt [] [(4,.i 4)] I fun a I=>wp_ret ?_;obtain rfl:=ay h;obtain rfl:=ay zS;refine a8 (aj (aj (a8 (aj (aj ?_)))));refine bq Tryz.results50 I rfl ?_;exact ⟨rfl,hm.aX [] []⟩
       refine wp_skip <| KY _ _ <| cg [] [(16,.i (J.ap (fS+ 1)))] I fun a I=>?_;exact KX _ _ ⟨J.ap (fS+ 1),I.cut,hm.aX [1,2,3] [1,2,3,4,5,6,7,8,9,10],h⟩
     have h:=J.di Gi h;have I:=I.b6 212 rfl Gi;refine a0 [3,4,5,6,7,8,9,10,11,12,13,14,15,16,17,18,19,20] 18 [1,1,1,1,1,1,1,1,1,1,1,1,1,1,1,1,0,5,1] [(2,.aL bY),(3,.aL cy),(6,.q dT eb cm.2.1),(16,.i fS),(226,.bool false),(227,.q dT eb cm.2.1),(229,.q aK aO h_.aE),(230,.i fS)] [bY,5] (fun a6 ad=>(av (b2 ad (a2 (bh.e 2 rfl))) aw)) I aB fun a I=>?_;obtain ⟨ND,aCL,h⟩:=J.aH h;obtain ⟨al3,awS,_,rfl,asC⟩:=bX _ (bh.d 4 rfl) aCL
     refine eM 21 rfl (by kernel_rfl) (cV I rfl rfl rfl rfl) (fun a6=>bF Tryz.underlying22 Tryz.sizeOf3 rfl (I.g rfl) (I.g rfl) al3 awS) aB I rfl rfl fun a I=>ch [22] 1 [1,0,0] [(232,.i ND)] [bG aK,bH aK+(fS).toNat* 1] (fun a6 ad=>(av (b2 ad asC) aw)) I aB fun a I=>da 23 rfl (by kernel_rfl) (fun _=>aB) ?_;obtain ⟨MA,aAk,h⟩:=J.aH h;have hc:=hm;refine bP (vs:=[.q dT eb cm.2.1,.i ND]) (cV I rfl rfl rfl rfl) rfl Tryz.call42 ⟨(I.g rfl),(I.g rfl),trivial⟩ (B9 ((hc.into 0).pick ⟨⟨1,rfl⟩,trivial⟩) aAk) I rfl rfl ?_;rintro _ w ⟨rfl,af⟩;refine ⟨_,rfl,fun a I=>?_⟩;have ad:ba [] _ w:=af.ev
     have hm:=hc.back 0 af;clear af hc;have aB:=fo aB ad;clear ad;refine c5 <| ch [24,25,26] 3 [1,1] [(236,.bool (!MA))] [] (fun a6 ad=>aw) I aB fun a I=>?_;rcases Bool.eq_false_or_eq_true (!MA) with Gm | Gm
     · have h:=J.dj Gm h;have I:=I.b6 236 rfl Gm;refine ch [27,28,29,30,31,32,33] 7 [1,1,1,1,1,1,1] [(237,undef),(238,undef),(243,undef)] [] (fun a6 ad=>aw) I aB fun a I=>da 34 rfl (by kernel_rfl) (fun _=>aB) <| aN 1 [1] [(244,undef)] I fun a I=>c5 <| ch [35,36,37] 3 [1,1,1] [(247,.bool true)] [] (fun a6 ad=>aw) I aB fun a I=>fm (by kernel_rfl) ?_ (fun _=>aB);clear bh aB;refine zz _ _ <| eG (I.g rfl) rfl <| bt [] [(4,.i 4)] I fun a I=>wp_ret ?_
       obtain rfl:=ay h;obtain rfl:=ay zS;refine a8 (aj (aj (a8 (aj (aj ?_)))));refine bq Tryz.results50 I rfl ?_;exact ⟨rfl,hm.aX [] []⟩
     have h:=J.di Gm h;have I:=I.b6 236 rfl Gm;refine ch [27,28,29,30,31] 5 [1,0,0,1,1,0,1,1,0,5,1] [(237,.agg #[.q ag ah h_.Words,.i h_.au,.i h_.aI,.i h_.aV,.i h_.aT,.q aK aO h_.aE,.i h_.Next]),(238,.agg #[.q aR aU aa.aD,.q bl bp aa.aA,.q bg bj aa.Fields,.q bB bC aa.Names,.q bA bD aa.az]),(240,.q aK aO h_.aE),(241,.i fS)] [bY,5,cy,0,bY,0] (fun a6 ad=>(av (b2 ad (a2 (bh.e 2 rfl))) (av (b2 ad (a2 (bh.e 1 rfl))) aw))) I aB fun a I=>?_;obtain ⟨NF,aCM,h⟩:=J.aH h
     obtain ⟨al4,awT,_,rfl,asD⟩:=bX _ (bh.d 4 rfl) aCM;refine eM 32 rfl (by kernel_rfl) (cV I rfl rfl rfl rfl) (fun a6=>bF Tryz.underlying22 Tryz.sizeOf3 rfl (I.g rfl) (I.g rfl) al4 awT) aB I rfl rfl fun a I=>ch [33] 1 [1,0,0] [(243,.i NF)] [bG aK,bH aK+(fS).toNat* 1] (fun a6 ad=>(av (b2 ad asD) aw)) I aB fun a I=>da 34 rfl (by kernel_rfl) (fun _=>aB) ?_;obtain ⟨Xh,aAl,h⟩:=J.aH h;have hc:=hm
     refine bP (vs:=[.agg #[.q ag ah h_.Words,.i h_.au,.i h_.aI,.i h_.aV,.i h_.aT,.q aK aO h_.aE,.i h_.Next],.agg #[.q aR aU aa.aD,.q bl bp aa.aA,.q bg bj aa.Fields,.q bB bC aa.Names,.q bA bD aa.az],.i NF]) (cV I rfl rfl rfl rfl) rfl Tryz.call43 ⟨(I.g rfl),(I.g rfl),(I.g rfl),trivial⟩ (Kw ((hc.into 0).pick ⟨⟨3,rfl⟩,⟨4,rfl⟩,⟨5,rfl⟩,⟨6,rfl⟩,⟨7,rfl⟩,⟨8,rfl⟩,⟨9,rfl⟩,trivial⟩) aAl) I rfl rfl ?_;rintro _ w ⟨aIH,aIY,aKn,rfl,af⟩;refine ⟨_,rfl,fun a I=>?_⟩;have ad:ba [] _ w:=af.ev;have hm:=hc.back 0 af;clear af hc
     have aB:=fo aB ad;clear ad;refine c5 <| ch [35,36,37] 3 [1,1,1] [(247,.bool (decide ((Xh.length:Int)= 0)))] [] (fun a6 ad=>aw) I aB fun a I=>fm (by kernel_rfl) ?_ (fun _=>aB);clear bh aB;refine zz _ _ <| bk (I.g rfl) h (fun apX h=>?_) (fun apX h=>?_)
     · refine bt [] [(4,.i 4)] I fun a I=>wp_ret ?_;obtain rfl:=ay h;obtain rfl:=ay zS;refine a8 (aj (aj (a8 (aj (aj ?_)))));refine bq Tryz.results50 I rfl ?_;exact ⟨rfl,hm.aX [] []⟩
     refine wp_skip <| KY _ _ <| cg [] [(16,.i (J.ap (fS+ 1)))] I fun a I=>?_;exact KX _ _ ⟨J.ap (fS+ 1),I.cut,hm.aX [1,2,3] [1,2,3,4,5,6,7,8,9,10],h⟩
   refine wp_exit <| bz (bz (cr ?_));exact QS _ _ ⟨I.cut,hm,(os h)⟩
 rintro a w ⟨I,hm,bc⟩;subst Vv;have h:=zS;clear zS;dsimp only [J.dW] at h;refine QR _ _ <| wp_seq_k fun K QV=>bb [] [(17,.i 0)] I fun a I=>?_;obtain ⟨VG,h,S7⟩:=J.dZ h
 refine ca (fun a w=>Fr ⟨288,[]⟩ [] a/\ar W M0 X w [aq.row 3 1 (.q eJ fc cq) cq fp,aq.br cy 30 [.q aR aU aa.aD,.q bl bp aa.aA,.q bg bj aa.Fields,.q bB bC aa.Names,.q bA bD aa.az],aq.br bY 24 [.q ag ah h_.Words,.i h_.au,.i h_.aI,.i h_.aV,.i h_.aT,.q aK aO h_.aE,.i h_.Next]] [al.rows (ak .i64) fp cq,U (ak .i64) dT eb cm.2.1,U (ak .i64) gg gi cm.1,U (ak .i64) ag ah h_.Words,U (ak .i64) aK aO h_.aE,U J.a' aR aU aa.aD,U (ak .i64) bl bp aa.aA,U (aG J.aW) bg bj aa.Fields,U (aG bE) bB bC aa.Names,U (aG J.bS) bA bD aa.az]/\VG=(.go ())) (fun K QW=>?_) ?_
 · refine cw (fun (ub:Nat) a w=>∃ (h2:Int),Fr ⟨288,[]⟩ [(2,.aL bY),(3,.aL cy),(6,.q dT eb cm.2.1),(17,.i h2)] a/\ar W M0 X w [aq.row 3 1 (.q eJ fc cq) cq fp,aq.br cy 30 [.q aR aU aa.aD,.q bl bp aa.aA,.q bg bj aa.Fields,.q bB bC aa.Names,.q bA bD aa.az],aq.br bY 24 [.q ag ah h_.Words,.i h_.au,.i h_.aI,.i h_.aV,.i h_.aT,.q aK aO h_.aE,.i h_.Next]] [al.rows (ak .i64) fp cq,U (ak .i64) dT eb cm.2.1,U (ak .i64) gg gi cm.1,U (ak .i64) ag ah h_.Words,U (ak .i64) aK aO h_.aE,U J.a' aR aU aa.aD,U (ak .i64) bl bp aa.aA,U (aG J.aW) bg bj aa.Fields,U (aG bE) bB bC aa.Names,U (aG J.bS) bA bD aa.az]/\J.vX F h_ aa cm ub h2=some VG) F ⟨0,I.cut,hm,h⟩ ?_ ?_
   · rintro a w ⟨h2,I,hm,h⟩;exact absurd h (by simp [J.vX])
   rintro ub a w ⟨h2,I,hm,h⟩ K QX;rw [J.vX] at h;refine wp_seq_k fun K QY=>bb [] [(251,.bool (decide (h2 <(cm.2.1.length:Int))))] I fun a I=>bk (I.g rfl) h (fun aqC h=>?_) (fun aqC h=>?_)
   · refine wp_skip <| QY _ _ <| wp_seq_k fun K QZ=>?_;obtain ⟨aer,h,Tk⟩:=J.eT h
     refine ca (fun a w=>Fr ⟨288,[]⟩ [(2,.aL bY),(3,.aL cy),(6,.q dT eb cm.2.1),(17,.i h2)] a/\ar W M0 X w [aq.row 3 1 (.q eJ fc cq) cq fp,aq.br cy 30 [.q aR aU aa.aD,.q bl bp aa.aA,.q bg bj aa.Fields,.q bB bC aa.Names,.q bA bD aa.az],aq.br bY 24 [.q ag ah h_.Words,.i h_.au,.i h_.aI,.i h_.aV,.i h_.aT,.q aK aO h_.aE,.i h_.Next]] [al.rows (ak .i64) fp cq,U (ak .i64) dT eb cm.2.1,U (ak .i64) gg gi cm.1,U (ak .i64) ag ah h_.Words,U (ak .i64) aK aO h_.aE,U J.a' aR aU aa.aD,U (ak .i64) bl bp aa.aA,U (aG J.aW) bg bj aa.Fields,U (aG bE) bB bC aa.Names,U (aG J.bS) bA bD aa.az]/\aer=(.go ())) (fun K aoa=>?_) ?_
     · refine wp_seq_k fun K Q0=>hk (m:=8) 8 (ba []) (by kernel_rfl) rfl fun w ad=>?_;have hm:=hm.dw ad;clear ad;have bh:=hm;have aB:=ba.refl [] w
       refine a0 [0,1,2,3] 4 [0,0,1,0] [(2,.aL bY),(3,.aL cy),(6,.q dT eb cm.2.1),(17,.i h2),(254,.agg #[.q ag ah h_.Words,.i h_.au,.i h_.aI,.i h_.aV,.i h_.aT,.q aK aO h_.aE,.i h_.Next]),(255,.agg #[.q aR aU aa.aD,.q bl bp aa.aA,.q bg bj aa.Fields,.q bB bC aa.Names,.q bA bD aa.az]),(256,.q dT eb cm.2.1),(257,.i h2)] [cy,0,bY,0] (fun a6 ad=>(av (b2 ad (a2 (bh.e 2 rfl))) (av (b2 ad (a2 (bh.e 1 rfl))) aw))) I aB fun a I=>?_
       obtain ⟨NP,aDi,h⟩:=J.aH h;obtain ⟨amz,axp,_,rfl,as_⟩:=bX _ (bh.d 1 rfl) aDi;refine eM 4 rfl (by kernel_rfl) wn (fun a6=>bF Tryz.underlying22 Tryz.sizeOf3 rfl (I.g rfl) (I.g rfl) amz axp) aB I rfl rfl fun a I=>ch [5] 1 [0,0] [(259,.i NP)] [bG dT,bH dT+(h2).toNat* 1] (fun a6 ad=>(av (b2 ad as_) aw)) I aB fun a I=>da 6 rfl (by kernel_rfl) (fun _=>aB) ?_;obtain ⟨kL,aAK,h⟩:=J.aH h;have hc:=hm
       refine bP (vs:=[.agg #[.q ag ah h_.Words,.i h_.au,.i h_.aI,.i h_.aV,.i h_.aT,.q aK aO h_.aE,.i h_.Next],.agg #[.q aR aU aa.aD,.q bl bp aa.aA,.q bg bj aa.Fields,.q bB bC aa.Names,.q bA bD aa.az],.i NP]) wn rfl Tryz.call43 ⟨(I.g rfl),(I.g rfl),(I.g rfl),trivial⟩ (Kw ((hc.into 0).pick ⟨⟨3,rfl⟩,⟨4,rfl⟩,⟨5,rfl⟩,⟨6,rfl⟩,⟨7,rfl⟩,⟨8,rfl⟩,⟨9,rfl⟩,trivial⟩) aAK) I rfl rfl ?_;rintro _ w ⟨yS,E_,Ov,rfl,af⟩;refine ⟨_,rfl,fun a I=>?_⟩;have ad:ba [] _ w:=af.ev;have hm:=hc.back 0 af;clear af hc;have aB:=fo aB ad;clear ad
       refine c5 <| ch [7] 1 [] [(18,.q yS E_ kL)] [] (fun a6 ad=>aw) I aB fun a I=>fm (by kernel_rfl) ?_ (fun _=>aB);clear bh aB;refine Q0 _ _ <| bb [] [(19,.i 0)] I fun a I=>?_;obtain ⟨VT,h,Tl⟩:=J.eT h
       refine ca (fun a w=>Fr ⟨288,[]⟩ [(2,.aL bY),(3,.aL cy),(6,.q dT eb cm.2.1),(17,.i h2)] a/\ar W M0 X w [aq.row 3 1 (.q yS E_ kL) kL Ov,aq.row 3 1 (.q eJ fc cq) cq fp,aq.br cy 30 [.q aR aU aa.aD,.q bl bp aa.aA,.q bg bj aa.Fields,.q bB bC aa.Names,.q bA bD aa.az],aq.br bY 24 [.q ag ah h_.Words,.i h_.au,.i h_.aI,.i h_.aV,.i h_.aT,.q aK aO h_.aE,.i h_.Next]] [al.rows (ak .i64) Ov kL,al.rows (ak .i64) fp cq,U (ak .i64) dT eb cm.2.1,U (ak .i64) gg gi cm.1,U (ak .i64) ag ah h_.Words,U (ak .i64) aK aO h_.aE,U J.a' aR aU aa.aD,U (ak .i64) bl bp aa.aA,U (aG J.aW) bg bj aa.Fields,U (aG bE) bB bC aa.Names,U (aG J.bS) bA bD aa.az]/\VT=(.go ())) (fun K Q1=>?_) ?_
       · refine cw (fun (sj:Nat) a w=>∃ (lW:Int),Fr ⟨288,[]⟩ [(2,.aL bY),(3,.aL cy),(6,.q dT eb cm.2.1),(17,.i h2),(18,.q yS E_ kL),(19,.i lW)] a/\ar W M0 X w [aq.row 3 1 (.q yS E_ kL) kL Ov,aq.row 3 1 (.q eJ fc cq) cq fp,aq.br cy 30 [.q aR aU aa.aD,.q bl bp aa.aA,.q bg bj aa.Fields,.q bB bC aa.Names,.q bA bD aa.az],aq.br bY 24 [.q ag ah h_.Words,.i h_.au,.i h_.aI,.i h_.aV,.i h_.aT,.q aK aO h_.aE,.i h_.Next]] [al.rows (ak .i64) Ov kL,al.rows (ak .i64) fp cq,U (ak .i64) dT eb cm.2.1,U (ak .i64) gg gi cm.1,U (ak .i64) ag ah h_.Words,U (ak .i64) aK aO h_.aE,U J.a' aR aU aa.aD,U (ak .i64) bl bp aa.aA,U (aG J.aW) bg bj aa.Fields,U (aG bE) bB bC aa.Names,U (aG J.bS) bA bD aa.az]/\J.s0 F h_ cm h2 kL sj lW=some VT) F ⟨0,I.cut,hm,h⟩ ?_ ?_
         · rintro a w ⟨lW,I,hm,h⟩;exact absurd h (by simp [J.s0])
         rintro sj a w ⟨lW,I,hm,h⟩ K acA;rw [J.s0] at h;refine wp_seq_k fun K Q2=>bb [] [(264,.bool (decide (lW <(kL.length:Int))))] I fun a I=>bk (I.g rfl) h (fun aqH h=>?_) (fun aqH h=>?_)
         · refine wp_skip <| Q2 _ _ <| wp_seq_k fun K KZ=>wp_block <| wp_seq_k fun K K0=>hk (m:=21) 21 (ba []) (by kernel_rfl) rfl fun w ad=>?_;have hm:=hm.dw ad;clear ad;have bh:=hm;have aB:=ba.refl [] w;refine ch [0,1,2,3,8,9] 6 [0,0,0,1] [(268,.q ag ah h_.Words),(269,.q yS E_ kL),(270,.i lW),(276,.i h_.au)] [bY,1,bY,0] (fun a6 ad=>(av (b2 ad (a2 (bh.e 3 rfl))) aw)) I aB fun a I=>?_;obtain ⟨NR,aDj,h⟩:=J.aH h;obtain ⟨amA,axq,_,rfl,ata⟩:=gN (bh.e 0 rfl) (bh.d 0 rfl) aDj
           refine eM 4 rfl (by kernel_rfl) wn (fun a6=>bF Tryz.underlying22 Tryz.sizeOf3 rfl (I.g rfl) (I.g rfl) amA axq) aB I rfl rfl fun a I=>ch [5] 1 [0,0] [(272,.i NR)] [bG yS,bH yS+(lW).toNat* 1] (fun a6 ad=>(av (b2 ad ata) aw)) I aB fun a I=>?_;obtain ⟨NS,aDk,h⟩:=J.aH h;obtain ⟨amB,axr,_,rfl,atb⟩:=bX _ (bh.d 4 rfl) aDk;refine eM 6 rfl (by kernel_rfl) wn (fun a6=>bF Tryz.underlying22 Tryz.sizeOf3 rfl (I.g rfl) (I.g rfl) amB axr) aB I rfl rfl fun a I=>?_
           refine ch [7] 1 [0,0] [(274,.i NS)] [bG ag,bH ag+(NR).toNat* 1] (fun a6 ad=>(av (b2 ad atb) aw)) I aB fun a I=>da 10 rfl (by kernel_rfl) (fun _=>aB) ?_;obtain ⟨MF,aAM,h⟩:=J.aH h;have hc:=hm;refine bP (vs:=[.i NS,.i 1,.i h_.au]) wn rfl Tryz.call41 ⟨(I.g rfl),(cW _ _),(I.g rfl),trivial⟩ (oj ((hc.into 0).pick trivial) aAM) I rfl rfl ?_;rintro _ w ⟨rfl,af⟩;refine ⟨_,rfl,fun a I=>?_⟩;have ad:ba [] _ w:=af.ev;have hm:=hc.back 0 af;clear af hc;have aB:=fo aB ad;clear ad;refine c5 ?_
           refine ch [11] 1 [] [(278,.bool MF)] [] (fun a6 ad=>aw) I aB fun a I=>?_;rcases Bool.eq_false_or_eq_true MF with Gv | Gv
           · have h:=J.dj Gv h;have I:=I.b6 278 rfl Gv;refine ch [12,13,14,15] 4 [1,1,0,5,1,1] [(280,.q aK aO h_.aE),(281,.q dT eb cm.2.1),(282,.i h2)] [bY,5] (fun a6 ad=>(av (b2 ad (a2 (bh.e 3 rfl))) aw)) I aB fun a I=>?_;obtain ⟨NT,aDm,h⟩:=J.aH h;obtain ⟨amC,axs,_,rfl,atc⟩:=bX _ (bh.d 2 rfl) aDm;refine eM 16 rfl (by kernel_rfl) (cV I rfl rfl rfl rfl) (fun a6=>bF Tryz.underlying22 Tryz.sizeOf3 rfl (I.g rfl) (I.g rfl) amC axs) aB I rfl rfl fun a I=>?_
             refine ch [17] 1 [1,0,0] [(284,.i NT)] [bG dT,bH dT+(h2).toNat* 1] (fun a6 ad=>(av (b2 ad atc) aw)) I aB fun a I=>da 18 rfl (by kernel_rfl) (fun _=>aB) ?_;obtain ⟨Xx,aAN,h⟩:=J.aH h;have hc:=hm;refine bP (vs:=[.q aK aO h_.aE,.i NT]) (cV I rfl rfl rfl rfl) rfl Tryz.call42 ⟨(I.g rfl),(I.g rfl),trivial⟩ (B9 ((hc.into 0).pick ⟨⟨5,rfl⟩,trivial⟩) aAN) I rfl rfl ?_;rintro _ w ⟨rfl,af⟩;refine ⟨_,rfl,fun a I=>?_⟩;have ad:ba [] _ w:=af.ev;have hm:=hc.back 0 af;clear af hc;have aB:=fo aB ad;clear ad;refine c5 ?_
             refine ch [19,20] 2 [1,1] [(287,.bool (!Xx))] [] (fun a6 ad=>aw) I aB fun a I=>fm (by kernel_rfl) ?_ (fun _=>aB);clear bh aB;refine K0 _ _ <| bk (I.g rfl) h (fun aqJ h=>?_) (fun aqJ h=>?_)
             · refine bt [] [(4,.i 4)] I fun a I=>wp_ret ?_;obtain rfl:=ay h;obtain rfl:=ay Tl;obtain rfl:=ay Tk;obtain rfl:=ay S7;refine a8 (aj (aj (a8 (aj (a8 (aj (aj (aj (a8 (aj (aj ?_)))))))))));refine bq Tryz.results50 I rfl ?_;exact ⟨rfl,hm.aX [] []⟩
             refine wp_skip <| KZ _ _ <| cg [] [(19,.i (J.ap (lW+ 1)))] I fun a I=>?_;exact acA _ _ ⟨J.ap (lW+ 1),I.cut,hm,h⟩
           have h:=J.di Gv h;have I:=I.b6 278 rfl Gv;refine ch [12,13,14,15,16,17] 6 [1,1,1,1,1,1] [(280,undef),(284,undef)] [] (fun a6 ad=>aw) I aB fun a I=>da 18 rfl (by kernel_rfl) (fun _=>aB) <| aN 1 [1] [(285,undef)] I fun a I=>c5 <| ch [19,20] 2 [1,1] [(287,.bool false)] [] (fun a6 ad=>aw) I aB fun a I=>fm (by kernel_rfl) ?_ (fun _=>aB);clear bh aB;refine K0 _ _ <| hW (I.g rfl) rfl <| wp_skip <| KZ _ _ <| cg [] [(19,.i (J.ap (lW+ 1)))] I fun a I=>?_
           exact acA _ _ ⟨J.ap (lW+ 1),I.cut,hm,h⟩
         refine wp_exit <| bz (bz (cr ?_));exact Q1 _ _ ⟨I.cut,hm,(os h)⟩
       rintro a w ⟨I,hm,bc⟩;subst VT;have h:=Tl;clear Tl;dsimp only [J.eN] at h;exact aoa _ _ ⟨I.cut,hm.aX [1,2,3] [1,2,3,4,5,6,7,8,9,10],(os h)⟩
     rintro a w ⟨I,hm,bc⟩;subst aer;have h:=Tk;clear Tk;dsimp only [J.eN] at h;refine QZ _ _ <| cg [] [(17,.i (J.ap (h2+ 1)))] I fun a I=>?_;exact QX _ _ ⟨J.ap (h2+ 1),I.cut,hm,h⟩
   refine wp_exit <| bz (bz (cr ?_));exact QW _ _ ⟨I.cut,hm,(os h)⟩
 rintro a w ⟨I,hm,bc⟩;subst VG;have h:=S7;clear S7;dsimp only [J.dW] at h;refine QV _ _ <| bt [] [(4,.i 0)] I fun a I=>wp_ret ?_;obtain rfl:=ay h;refine bq Tryz.results50 I rfl ?_;exact ⟨rfl,hm.aX [] []⟩
theorem aix {W:World} {X:List Nat} {F:Nat} {h_:J.bw} {aa:J.bs} {r:Int} {ag:aP} {ah:Nat} {aK:aP} {aO:Nat} {aR:aP} {aU:Nat} {bl:aP} {bp:Nat} {bg:aP} {bj:Nat} {bB:aP} {bC:Nat} {bA:aP} {bD:Nat} {M0:List Nat} (hm:ar W M0 X W [] [U (ak .i64) ag ah h_.Words,U (ak .i64) aK aO h_.aE,U J.a' aR aU aa.aD,U (ak .i64) bl bp aa.aA,U (aG J.aW) bg bj aa.Fields,U (aG bE) bB bC aa.Names,U (aG J.bS) bA bD aa.az]) (h:J.rU F h_ aa=some r) :
 Calls Tryz.prog 18 [.agg #[.q ag ah h_.Words,.i h_.au,.i h_.aI,.i h_.aV,.i h_.aT,.q aK aO h_.aE,.i h_.Next],.agg #[.q aR aU aa.aD,.q bl bp aa.aA,.q bg bj aa.Fields,.q bB bC aa.Names,.q bA bD aa.az]].toArray W (fun e aF=>e= .returned (.i r)/\ar W M0 X aF [] []):=by
 refine enter Tryz.func18 rfl Tryz.ntmps18 rfl fun a I=>?_;rw [J.rU] at h;refine wp_seq_k fun K c6=>aY <| cD (cs:=[.q ag ah h_.Words,.i h_.au,.i h_.aI,.i h_.aV,.i h_.aT,.q aK aO h_.aE,.i h_.Next]) wn (ei rfl rfl (I.g rfl)) I hm rfl rfl fun a bY w _ I hm=>cD (cs:=[.q aR aU aa.aD,.q bl bp aa.aA,.q bg bj aa.Fields,.q bB bC aa.Names,.q bA bD aa.az]) wn (ei rfl rfl (I.g rfl)) I hm rfl rfl fun a cy w _ I hm=>aN 1 [] [] I fun a I=>wpList_nil (c6 _ _ ?_);refine wp_seq_k fun K bN=>?_
 refine aY <| bi 1 [0,0] [(6,.agg #[.q aR aU aa.aD,.q bl bp aa.aA,.q bg bj aa.Fields,.q bB bC aa.Names,.q bA bD aa.az])] [cy,0] (av (a2 (hm.e 0 rfl)) aw) I fun a I=>?_;obtain ⟨b',iB,h⟩:=J.aH h;have hc:=hm;refine bP (vs:=[.agg #[.q aR aU aa.aD,.q bl bp aa.aA,.q bg bj aa.Fields,.q bB bC aa.Names,.q bA bD aa.az]]) wn rfl Tryz.call49 ⟨(I.g rfl),trivial⟩ (ais ((hc.into 0).pick ⟨⟨2,rfl⟩,⟨3,rfl⟩,⟨4,rfl⟩,⟨5,rfl⟩,⟨6,rfl⟩,trivial⟩) iB) I rfl rfl ?_;rintro _ w ⟨rfl,af⟩;refine ⟨_,rfl,fun a I=>?_⟩;have ad:ba [] _ w:=af.ev;have hm:=hc.back 0 af
 clear af hc;clear ad;refine aN 1 [] [(5,.i b')] I fun a I=>wpList_nil (bN _ _ ?_);refine wp_seq_k fun K cb=>bb [] [(9,.bool (decide (b'= 0)))] I fun a I=>bk (I.g rfl) h (fun qQ h=>?_) (fun qQ h=>?_)
 · refine aY <| bi 2 [0,0,1,0] [(10,.agg #[.q ag ah h_.Words,.i h_.au,.i h_.aI,.i h_.aV,.i h_.aT,.q aK aO h_.aE,.i h_.Next]),(11,.agg #[.q aR aU aa.aD,.q bl bp aa.aA,.q bg bj aa.Fields,.q bB bC aa.Names,.q bA bD aa.az])] [cy,0,bY,0] (av (a2 (hm.e 1 rfl)) (av (a2 (hm.e 0 rfl)) aw)) I fun a I=>?_;obtain ⟨nN,q1,h⟩:=J.aH h;have hc:=hm
   refine bP (vs:=[.agg #[.q ag ah h_.Words,.i h_.au,.i h_.aI,.i h_.aV,.i h_.aT,.q aK aO h_.aE,.i h_.Next],.agg #[.q aR aU aa.aD,.q bl bp aa.aA,.q bg bj aa.Fields,.q bB bC aa.Names,.q bA bD aa.az]]) wn rfl Tryz.call50 ⟨(I.g rfl),(I.g rfl),trivial⟩ (aiq ((hc.into 0).pick ⟨⟨0,rfl⟩,⟨1,rfl⟩,⟨2,rfl⟩,⟨3,rfl⟩,⟨4,rfl⟩,⟨5,rfl⟩,⟨6,rfl⟩,trivial⟩) q1) I rfl rfl ?_;rintro _ w ⟨rfl,af⟩;refine ⟨_,rfl,fun a I=>?_⟩;have hm:=hc.back 0 af;clear af hc
   refine eu 1 [] [(5,.i nN)] I fun a I=>wpList_nil (cb _ _ ?_);refine bt [] [(4,.i nN)] I fun a I=>wp_ret ?_;obtain rfl:=ay h;refine bq Tryz.results18 I rfl ?_;exact ⟨rfl,hm.aX [] []⟩
 refine wp_skip <| cb _ _ <| bt [] [(4,.i b')] I fun a I=>wp_ret ?_;obtain rfl:=ay h;refine bq Tryz.results18 I rfl ?_;exact ⟨rfl,hm.aX [] []⟩
end Go.Proofs.YtpkhpagplommoaaGreat
namespace J
def wu (F:Nat) (h_:bw) (aa:bs) (at_:Int):Option (Bool):=
 (qz F (⟨h_.Words,h_.au,h_.aI,h_.aV,h_.aT,h_.aE,h_.Next⟩:bw) (⟨aa.aD,aa.aA,aa.Fields,aa.Names,aa.az⟩:bs)).bind fun b'=>
 (n7 F b'.1 at_).bind fun yc=>
 cond (yc) (some true) ((n7 F b'.2.1 at_).bind fun W6=>
 some W6)
end J
namespace Go.Proofs.YtpkhpagplommoaaGreat
open Go Go.RowKit aZ
set_option maxHeartbeats 4000000
set_option maxRecDepth 20000
theorem aiv {W:World} {X:List Nat} {F:Nat} {h_:J.bw} {aa:J.bs} {at_:Int} {r:Bool} {ag:aP} {ah:Nat} {aK:aP} {aO:Nat} {aR:aP} {aU:Nat} {bl:aP} {bp:Nat} {bg:aP} {bj:Nat} {bB:aP} {bC:Nat} {bA:aP} {bD:Nat} {M0:List Nat} (hm:ar W M0 X W [] [U (ak .i64) ag ah h_.Words,U (ak .i64) aK aO h_.aE,U J.a' aR aU aa.aD,U (ak .i64) bl bp aa.aA,U (aG J.aW) bg bj aa.Fields,U (aG bE) bB bC aa.Names,U (aG J.bS) bA bD aa.az]) (h:J.wu F h_ aa at_=some r) :
 Calls Tryz.prog 25 [.agg #[.q ag ah h_.Words,.i h_.au,.i h_.aI,.i h_.aV,.i h_.aT,.q aK aO h_.aE,.i h_.Next],.agg #[.q aR aU aa.aD,.q bl bp aa.aA,.q bg bj aa.Fields,.q bB bC aa.Names,.q bA bD aa.az],.i at_].toArray W (fun e aF=>e= .returned (.bool r)/\ar W M0 X aF [] []):=by
 refine enter Tryz.func25 rfl Tryz.ntmps25 rfl fun a I=>?_;rw [J.wu] at h;refine wp_seq_k fun K c6=>aY <| cD (cs:=[.q ag ah h_.Words,.i h_.au,.i h_.aI,.i h_.aV,.i h_.aT,.q aK aO h_.aE,.i h_.Next]) wn (ei rfl rfl (I.g rfl)) I hm rfl rfl fun a bY w _ I hm=>cD (cs:=[.q aR aU aa.aD,.q bl bp aa.aA,.q bg bj aa.Fields,.q bB bC aa.Names,.q bA bD aa.az]) wn (ei rfl rfl (I.g rfl)) I hm rfl rfl fun a cy w _ I hm=>aN 1 [] [] I fun a I=>wpList_nil (c6 _ _ ?_);refine wp_seq_k fun K bN=>?_
 refine aY <| bi 2 [0,0,1,0] [(11,.agg #[.q ag ah h_.Words,.i h_.au,.i h_.aI,.i h_.aV,.i h_.aT,.q aK aO h_.aE,.i h_.Next]),(12,.agg #[.q aR aU aa.aD,.q bl bp aa.aA,.q bg bj aa.Fields,.q bB bC aa.Names,.q bA bD aa.az])] [cy,0,bY,0] (av (a2 (hm.e 1 rfl)) (av (a2 (hm.e 0 rfl)) aw)) I fun a I=>?_;obtain ⟨b',iB,h⟩:=J.aH h;have hc:=hm
 refine bP (vs:=[.agg #[.q ag ah h_.Words,.i h_.au,.i h_.aI,.i h_.aV,.i h_.aT,.q aK aO h_.aE,.i h_.Next],.agg #[.q aR aU aa.aD,.q bl bp aa.aA,.q bg bj aa.Fields,.q bB bC aa.Names,.q bA bD aa.az]]) wn rfl Tryz.call61 ⟨(I.g rfl),(I.g rfl),trivial⟩ (abd ((hc.into 0).pick ⟨⟨0,rfl⟩,⟨1,rfl⟩,⟨2,rfl⟩,⟨3,rfl⟩,⟨4,rfl⟩,⟨5,rfl⟩,⟨6,rfl⟩,trivial⟩) iB) I rfl rfl ?_;rintro _ w ⟨dR,ey,DE,gf,gh,agy,rfl,af⟩;refine ⟨_,rfl,fun a I=>?_⟩;have hm:=hc.back 0 af;clear af hc
 refine aN 7 [] [(7,.q dR ey b'.1),(8,.q gf gh b'.2.1)] I fun a I=>wpList_nil (bN _ _ ?_);refine wp_seq_k fun K cb=>aY <| aN 2 [] [(17,.q dR ey b'.1),(18,.i at_)] I fun a I=>?_;obtain ⟨yc,T_,h⟩:=J.aH h;have hc:=hm;have ax:=hc.freeze 0 0 rfl rfl;refine bP (vs:=[.q dR ey b'.1,.i at_]) wn rfl Tryz.call42 ⟨(I.g rfl),(I.g rfl),trivial⟩ (B9 ((ax.into 0).pick ⟨⟨0,rfl⟩,trivial⟩) T_) I rfl rfl ?_;rintro _ w ⟨rfl,af⟩;refine ⟨_,rfl,fun a I=>?_⟩;have ad:ba [] _ w:=af.ev;have hm:=hc.fP 0 (by exact trivial) af;clear af hc ax
 clear ad;refine aN 1 [] [(20,.bool yc)] I fun a I=>?_;rcases Bool.eq_false_or_eq_true yc with F5 | F5
 · have h:=J.dj F5 h;have I:=I.b6 20 rfl F5;refine eu 5 [1,1,1,1] [(6,.bool true)] I fun a I=>wpList_nil (cb _ _ ?_);refine wp_ret ?_;obtain rfl:=ay h;refine bq Tryz.results25 I rfl ?_;exact ⟨rfl,hm.aX [] []⟩
 have h:=J.di F5 h;have I:=I.b6 20 rfl F5;refine aN 2 [1,1] [(21,.q gf gh b'.2.1),(22,.i at_)] I fun a I=>?_;obtain ⟨W6,az1,h⟩:=J.aH h;have hc:=hm;have ax:=hc.freeze 1 1 rfl rfl;refine bP (vs:=[.q gf gh b'.2.1,.i at_]) (cV I rfl rfl rfl rfl) rfl Tryz.call42 ⟨(I.g rfl),(I.g rfl),trivial⟩ (B9 ((ax.into 0).pick ⟨⟨0,rfl⟩,trivial⟩) az1) I rfl rfl ?_;rintro _ w ⟨rfl,af⟩;refine ⟨_,rfl,fun a I=>?_⟩;have ad:ba [] _ w:=af.ev;have hm:=hc.fP 0 (by exact trivial) af;clear af hc ax;clear ad;refine eu 2 [1] [(6,.bool W6)] I fun a I=>wpList_nil (cb _ _ ?_);refine wp_ret ?_
 obtain rfl:=ay h;refine bq Tryz.results25 I rfl ?_;exact ⟨rfl,hm.aX [] []⟩
end Go.Proofs.YtpkhpagplommoaaGreat
namespace J
def yZ (F:Nat) (h_:bw) (aa:bs) (at_:Int) (bU:Int):Option (Bool):=
 (sb F (⟨h_.Words,h_.au,h_.aI,h_.aV,h_.aT,h_.aE,h_.Next⟩:bw) (⟨aa.aD,aa.aA,aa.Fields,aa.Names,aa.az⟩:bs) at_).bind fun b'=>
 (pi F (⟨h_.Words,h_.au,h_.aI,h_.aV,h_.aT,h_.aE,h_.Next⟩:bw) (⟨aa.aD,aa.aA,aa.Fields,aa.Names,aa.az⟩:bs) at_ bU).bind fun lh=>
 (sa F (⟨h_.Words,h_.au,h_.aI,h_.aV,h_.aT,h_.aE,h_.Next⟩:bw) (⟨aa.aD,aa.aA,aa.Fields,aa.Names,aa.az⟩:bs) at_).bind fun eF=>
 (rU F (⟨h_.Words,h_.au,h_.aI,h_.aV,h_.aT,h_.aE,h_.Next⟩:bw) (⟨aa.aD,aa.aA,aa.Fields,aa.Names,aa.az⟩:bs)).bind fun nO=>
 Option.bind (α:=Int) (cond (decide (nO= 0)) ((wu F (⟨h_.Words,h_.au,h_.aI,h_.aV,h_.aT,h_.aE,h_.Next⟩:bw) (⟨aa.aD,aa.aA,aa.Fields,aa.Names,aa.az⟩:bs) at_).bind fun Xd=>
 cond (!Xd) (some 5) (some nO)) (some nO)) fun (iU:Int)=>
 Option.bind (α:=Int × Int × Int × Int × Int × (List Int)) (cond (decide (iU= 0)) ((idx h_.Words at_).bind fun yG=>
 (idx h_.Words (ap (at_+ 1))).bind fun o_=>
 (idx h_.Words (ap (at_+ 2))).bind fun il=>
 (cut h_.Words (ap (at_+ 3)) (ap ((ap (at_+ 3))+o_))).bind fun uN=>
 cond ((decide (bU < 0)) || (decide (o_<=bU))) (some (3,yG,o_,il,0,uN)) ((idx uN bU).bind fun Na=>
 some (iU,yG,o_,il,Na,uN))) (some (iU,0,0,0,0,[]))) fun ((ii,Ao,Ap,jO,Aq,xU):Int × Int × Int × Int × Int × (List Int))=>
 (JP F).bind fun u5=>
 cond (((((((u5 && (decide (b'.2.2.2 =iU))) && (decide (b'.1 =Ao))) && (decide (b'.2.1 =Ap))) && (decide (b'.2.2.1 =jO))) && (decide (lh.2 =ii))) && (decide (lh.1 =Aq))) && (decide (eF.2 =iU))) ((y4 F eF.1 xU).bind fun Au=>
 some Au) (some false)
end J
namespace Go.Proofs.YtpkhpagplommoaaGreat
open Go Go.RowKit aZ
set_option maxHeartbeats 4000000
set_option maxRecDepth 20000
theorem aim {W:World} {X:List Nat} {F:Nat} {h_:J.bw} {aa:J.bs} {at_:Int} {bU:Int} {r:Bool} {ag:aP} {ah:Nat} {aK:aP} {aO:Nat} {aR:aP} {aU:Nat} {bl:aP} {bp:Nat} {bg:aP} {bj:Nat} {bB:aP} {bC:Nat} {bA:aP} {bD:Nat} {M0:List Nat} (hm:ar W M0 X W [] [U (ak .i64) ag ah h_.Words,U (ak .i64) aK aO h_.aE,U J.a' aR aU aa.aD,U (ak .i64) bl bp aa.aA,U (aG J.aW) bg bj aa.Fields,U (aG bE) bB bC aa.Names,U (aG J.bS) bA bD aa.az]) (h:J.yZ F h_ aa at_ bU=some r) :
 Calls Tryz.prog 9 [.agg #[.q ag ah h_.Words,.i h_.au,.i h_.aI,.i h_.aV,.i h_.aT,.q aK aO h_.aE,.i h_.Next],.agg #[.q aR aU aa.aD,.q bl bp aa.aA,.q bg bj aa.Fields,.q bB bC aa.Names,.q bA bD aa.az],.i at_,.i bU].toArray W (fun e aF=>e= .returned (.bool r)/\ar W M0 X aF [] []):=by
 refine enter Tryz.func9 rfl Tryz.ntmps9 rfl fun a I=>?_;rw [J.yZ] at h;refine wp_seq_k fun K c6=>aY <| cD (cs:=[.q ag ah h_.Words,.i h_.au,.i h_.aI,.i h_.aV,.i h_.aT,.q aK aO h_.aE,.i h_.Next]) wn (ei rfl rfl (I.g rfl)) I hm rfl rfl fun a bY w _ I hm=>cD (cs:=[.q aR aU aa.aD,.q bl bp aa.aA,.q bg bj aa.Fields,.q bB bC aa.Names,.q bA bD aa.az]) wn (ei rfl rfl (I.g rfl)) I hm rfl rfl fun a cy w _ I hm=>aN 1 [] [] I fun a I=>wpList_nil (c6 _ _ ?_);refine wp_seq_k fun K bN=>?_
 refine aY <| bi 3 [0,0,1,0] [(25,.agg #[.q ag ah h_.Words,.i h_.au,.i h_.aI,.i h_.aV,.i h_.aT,.q aK aO h_.aE,.i h_.Next]),(26,.agg #[.q aR aU aa.aD,.q bl bp aa.aA,.q bg bj aa.Fields,.q bB bC aa.Names,.q bA bD aa.az]),(27,.i at_)] [cy,0,bY,0] (av (a2 (hm.e 1 rfl)) (av (a2 (hm.e 0 rfl)) aw)) I fun a I=>?_;obtain ⟨b',iB,h⟩:=J.aH h;have hc:=hm
 refine bP (vs:=[.agg #[.q ag ah h_.Words,.i h_.au,.i h_.aI,.i h_.aV,.i h_.aT,.q aK aO h_.aE,.i h_.Next],.agg #[.q aR aU aa.aD,.q bl bp aa.aA,.q bg bj aa.Fields,.q bB bC aa.Names,.q bA bD aa.az],.i at_]) wn rfl Tryz.call29 ⟨(I.g rfl),(I.g rfl),(I.g rfl),trivial⟩ (aiL ((hc.into 0).pick ⟨⟨0,rfl⟩,⟨1,rfl⟩,⟨2,rfl⟩,⟨3,rfl⟩,⟨4,rfl⟩,⟨5,rfl⟩,⟨6,rfl⟩,trivial⟩) iB) I rfl rfl ?_;rintro _ w ⟨rfl,af⟩;refine ⟨_,rfl,fun a I=>?_⟩;have hm:=hc.back 0 af;clear af hc
 refine aN 9 [] [(9,.i b'.1),(10,.i b'.2.1),(11,.i b'.2.2.1),(12,.i b'.2.2.2)] I fun a I=>wpList_nil (bN _ _ ?_);refine wp_seq_k fun K cb=>aY <| bi 4 [0,0,1,0] [(34,.agg #[.q ag ah h_.Words,.i h_.au,.i h_.aI,.i h_.aV,.i h_.aT,.q aK aO h_.aE,.i h_.Next]),(35,.agg #[.q aR aU aa.aD,.q bl bp aa.aA,.q bg bj aa.Fields,.q bB bC aa.Names,.q bA bD aa.az]),(36,.i at_),(37,.i bU)] [cy,0,bY,0] (av (a2 (hm.e 1 rfl)) (av (a2 (hm.e 0 rfl)) aw)) I fun a I=>?_;obtain ⟨lh,azT,h⟩:=J.aH h;have hc:=hm
 refine bP (vs:=[.agg #[.q ag ah h_.Words,.i h_.au,.i h_.aI,.i h_.aV,.i h_.aT,.q aK aO h_.aE,.i h_.Next],.agg #[.q aR aU aa.aD,.q bl bp aa.aA,.q bg bj aa.Fields,.q bB bC aa.Names,.q bA bD aa.az],.i at_,.i bU]) wn rfl Tryz.call30 ⟨(I.g rfl),(I.g rfl),(I.g rfl),(I.g rfl),trivial⟩ (abg ((hc.into 0).pick ⟨⟨0,rfl⟩,⟨1,rfl⟩,⟨2,rfl⟩,⟨3,rfl⟩,⟨4,rfl⟩,⟨5,rfl⟩,⟨6,rfl⟩,trivial⟩) azT) I rfl rfl ?_;rintro _ w ⟨rfl,af⟩;refine ⟨_,rfl,fun a I=>?_⟩;have hm:=hc.back 0 af;clear af hc
 refine aN 5 [] [(13,.i lh.1),(14,.i lh.2)] I fun a I=>wpList_nil (cb _ _ ?_);refine wp_seq_k fun K c3=>aY <| bi 3 [0,0,1,0] [(42,.agg #[.q ag ah h_.Words,.i h_.au,.i h_.aI,.i h_.aV,.i h_.aT,.q aK aO h_.aE,.i h_.Next]),(43,.agg #[.q aR aU aa.aD,.q bl bp aa.aA,.q bg bj aa.Fields,.q bB bC aa.Names,.q bA bD aa.az]),(44,.i at_)] [cy,0,bY,0] (av (a2 (hm.e 1 rfl)) (av (a2 (hm.e 0 rfl)) aw)) I fun a I=>?_;obtain ⟨eF,T6,h⟩:=J.aH h;have hc:=hm
 refine bP (vs:=[.agg #[.q ag ah h_.Words,.i h_.au,.i h_.aI,.i h_.aV,.i h_.aT,.q aK aO h_.aE,.i h_.Next],.agg #[.q aR aU aa.aD,.q bl bp aa.aA,.q bg bj aa.Fields,.q bB bC aa.Names,.q bA bD aa.az],.i at_]) wn rfl Tryz.call31 ⟨(I.g rfl),(I.g rfl),(I.g rfl),trivial⟩ (aiI ((hc.into 0).pick ⟨⟨0,rfl⟩,⟨1,rfl⟩,⟨2,rfl⟩,⟨3,rfl⟩,⟨4,rfl⟩,⟨5,rfl⟩,⟨6,rfl⟩,trivial⟩) T6) I rfl rfl ?_;rintro _ w ⟨hS,iq,lm,rfl,af⟩;refine ⟨_,rfl,fun a I=>?_⟩;have hm:=hc.back 0 af;clear af hc
 refine aN 5 [] [(15,.q hS iq eF.1),(16,.i eF.2)] I fun a I=>wpList_nil (c3 _ _ ?_);refine wp_seq_k fun K cp=>aY <| bi 2 [0,0,1,0] [(48,.agg #[.q ag ah h_.Words,.i h_.au,.i h_.aI,.i h_.aV,.i h_.aT,.q aK aO h_.aE,.i h_.Next]),(49,.agg #[.q aR aU aa.aD,.q bl bp aa.aA,.q bg bj aa.Fields,.q bB bC aa.Names,.q bA bD aa.az])] [cy,0,bY,0] (av (a2 (hm.e 2 rfl)) (av (a2 (hm.e 1 rfl)) aw)) I fun a I=>?_;obtain ⟨nO,T',h⟩:=J.aH h;have hc:=hm
 refine bP (vs:=[.agg #[.q ag ah h_.Words,.i h_.au,.i h_.aI,.i h_.aV,.i h_.aT,.q aK aO h_.aE,.i h_.Next],.agg #[.q aR aU aa.aD,.q bl bp aa.aA,.q bg bj aa.Fields,.q bB bC aa.Names,.q bA bD aa.az]]) wn rfl Tryz.call18 ⟨(I.g rfl),(I.g rfl),trivial⟩ (aix ((hc.into 0).pick ⟨⟨1,rfl⟩,⟨2,rfl⟩,⟨3,rfl⟩,⟨4,rfl⟩,⟨5,rfl⟩,⟨6,rfl⟩,⟨7,rfl⟩,trivial⟩) T') I rfl rfl ?_;rintro _ w ⟨rfl,af⟩;refine ⟨_,rfl,fun a I=>?_⟩;have hm:=hc.back 0 af;clear af hc
 refine aN 1 [] [(17,.i nO)] I fun a I=>wpList_nil (cp _ _ ?_);obtain ⟨aec,h,SJ⟩:=J.aH h
 refine w9 (fun a w=>∃ (iU:Int),Fr ⟨141,[]⟩ [(2,.i at_),(3,.i bU),(4,.aL bY),(9,.i b'.1),(10,.i b'.2.1),(11,.i b'.2.2.1),(12,.i b'.2.2.2),(13,.i lh.1),(14,.i lh.2),(15,.q hS iq eF.1),(16,.i eF.2),(17,.i iU)] a/\ar W M0 X w [aq.row 3 1 (.q hS iq eF.1) eF.1 lm,aq.br cy 30 [.q aR aU aa.aD,.q bl bp aa.aA,.q bg bj aa.Fields,.q bB bC aa.Names,.q bA bD aa.az],aq.br bY 24 [.q ag ah h_.Words,.i h_.au,.i h_.aI,.i h_.aV,.i h_.aT,.q aK aO h_.aE,.i h_.Next]] [al.rows (ak .i64) lm eF.1,U (ak .i64) ag ah h_.Words,U (ak .i64) aK aO h_.aE,U J.a' aR aU aa.aD,U (ak .i64) bl bp aa.aA,U (aG J.aW) bg bj aa.Fields,U (aG bE) bB bC aa.Names,U (aG J.bS) bA bD aa.az]/\aec=iU) (fun K dE=>?_) ?_
 · clear SJ;refine wp_seq_k fun K dl=>aY <| aN 3 [] [(53,.bool (decide (nO= 0)))] I fun a I=>?_;rcases Bool.eq_false_or_eq_true (decide (nO= 0)) with Gb | Gb
   · have h:=J.dj Gb h;have I:=I.b6 53 rfl Gb;refine bi 3 [1,0,0,1,1,0,1] [(54,.agg #[.q ag ah h_.Words,.i h_.au,.i h_.aI,.i h_.aV,.i h_.aT,.q aK aO h_.aE,.i h_.Next]),(55,.agg #[.q aR aU aa.aD,.q bl bp aa.aA,.q bg bj aa.Fields,.q bB bC aa.Names,.q bA bD aa.az]),(56,.i at_)] [cy,0,bY,0] (av (a2 (hm.e 2 rfl)) (av (a2 (hm.e 1 rfl)) aw)) I fun a I=>?_;obtain ⟨Xd,aAc,h⟩:=J.aH h;have hc:=hm
     refine bP (vs:=[.agg #[.q ag ah h_.Words,.i h_.au,.i h_.aI,.i h_.aV,.i h_.aT,.q aK aO h_.aE,.i h_.Next],.agg #[.q aR aU aa.aD,.q bl bp aa.aA,.q bg bj aa.Fields,.q bB bC aa.Names,.q bA bD aa.az],.i at_]) (cV I rfl rfl rfl rfl) rfl Tryz.call25 ⟨(I.g rfl),(I.g rfl),(I.g rfl),trivial⟩ (aiv ((hc.into 0).pick ⟨⟨1,rfl⟩,⟨2,rfl⟩,⟨3,rfl⟩,⟨4,rfl⟩,⟨5,rfl⟩,⟨6,rfl⟩,⟨7,rfl⟩,trivial⟩) aAc) I rfl rfl ?_;rintro _ w ⟨rfl,af⟩;refine ⟨_,rfl,fun a I=>?_⟩;have hm:=hc.back 0 af;clear af hc
     refine aN 2 [1,1] [(59,.bool (!Xd))] I fun a I=>wpList_nil (dl _ _ ?_);refine bk (I.g rfl) h (fun apL h=>?_) (fun apL h=>?_)
     · refine cg [] [(17,.i 5)] I fun a I=>?_;exact dE _ _ ⟨5,I.cut,hm,(os h)⟩
     refine wp_skip ?_;exact dE _ _ ⟨nO,I.cut,hm,(os h)⟩
   have h:=J.di Gb h;have I:=I.b6 53 rfl Gb;refine aN 6 [1,1,1,1,1,1] [(59,.bool false)] I fun a I=>wpList_nil (dl _ _ ?_);refine hW (I.g rfl) rfl <| wp_skip ?_;exact dE _ _ ⟨nO,I.cut,hm,(os h)⟩
 rintro a w ⟨iU,I,hm,bc⟩;subst aec;have h:=SJ;clear SJ;refine bb [] [(18,.i iU),(19,.i 0),(20,.i 0),(21,.i 0),(22,.i 0)] I fun a I=>bb [] [(23,.slice none 0 0)] I fun a I=>?_;obtain ⟨aex,h,TA⟩:=J.aH h
 refine w9 (fun a w=>∃ (ii:Int) (Ao:Int) (Ap:Int) (jO:Int) (Aq:Int) (Em:aP) (Fj:Nat) (xU:fq),Fr ⟨141,[]⟩ [(9,.i b'.1),(10,.i b'.2.1),(11,.i b'.2.2.1),(12,.i b'.2.2.2),(13,.i lh.1),(14,.i lh.2),(15,.q hS iq eF.1),(16,.i eF.2),(17,.i iU),(18,.i ii),(19,.i Ao),(20,.i Ap),(21,.i jO),(22,.i Aq),(23,.q Em Fj xU)] a/\ar W M0 X w [aq.row 3 1 (.q hS iq eF.1) eF.1 lm,aq.br cy 30 [.q aR aU aa.aD,.q bl bp aa.aA,.q bg bj aa.Fields,.q bB bC aa.Names,.q bA bD aa.az],aq.br bY 24 [.q ag ah h_.Words,.i h_.au,.i h_.aI,.i h_.aV,.i h_.aT,.q aK aO h_.aE,.i h_.Next]] [U (ak .i64) Em Fj xU,al.rows (ak .i64) lm eF.1,U (ak .i64) ag ah h_.Words,U (ak .i64) aK aO h_.aE,U J.a' aR aU aa.aD,U (ak .i64) bl bp aa.aA,U (aG J.aW) bg bj aa.Fields,U (aG bE) bB bC aa.Names,U (aG J.bS) bA bD aa.az]/\aex=(ii,Ao,Ap,jO,Aq,xU)) (fun K dc=>?_) ?_
 · clear TA;refine bb [] [(62,.bool (decide (iU= 0)))] I fun a I=>bk (I.g rfl) h (fun aq4 h=>?_) (fun aq4 h=>?_)
   · refine wp_seq_k fun K dS=>hA (by kernel_rfl) (by kernel_rfl) <| dB 3 [0,0] [(64,.q ag ah h_.Words),(65,.i at_)] [bY,0] (fun a6 ad=>(av (b2 ad (a2 (hm.e 2 rfl))) aw)) I fun a I=>?_;obtain ⟨yG,aDI,h⟩:=J.aH h;obtain ⟨am2,axT,_,rfl,atE⟩:=bX _ (hm.d 1 rfl) aDI;refine ek wn (fun a6 ad=>bF Tryz.underlying22 Tryz.sizeOf3 rfl (I.g rfl) (I.g rfl) am2 axT) I rfl rfl fun a I=>?_
     refine C5 5 [0,0,1,0] [(2,.i at_),(3,.i bU),(4,.aL bY),(9,.i b'.1),(10,.i b'.2.1),(11,.i b'.2.2.1),(12,.i b'.2.2.2),(13,.i lh.1),(14,.i lh.2),(15,.q hS iq eF.1),(16,.i eF.2),(17,.i iU),(18,.i iU),(19,.i 0),(20,.i 0),(21,.i 0),(22,.i 0),(67,.i yG),(69,.q ag ah h_.Words),(71,.i (J.ap (at_+ 1)))] [bY,0,bG ag,bH ag+(at_).toNat* 1] (fun a6 ad=>(av (b2 ad atE) (av (b2 ad (a2 (hm.e 2 rfl))) aw))) I fun a I=>?_;obtain ⟨o_,aDO,h⟩:=J.aH h;obtain ⟨am8,ax0,_,rfl,atK⟩:=bX _ (hm.d 1 rfl) aDO
     refine ek wn (fun a6 ad=>bF Tryz.underlying22 Tryz.sizeOf3 rfl (I.g rfl) (I.g rfl) am8 ax0) I rfl rfl fun a I=>dB 5 [0,0,1,0] [(73,.i o_),(75,.q ag ah h_.Words),(77,.i (J.ap (at_+ 2)))] [bY,0,bG ag,bH ag+(J.ap (at_+ 1)).toNat* 1] (fun a6 ad=>(av (b2 ad atK) (av (b2 ad (a2 (hm.e 2 rfl))) aw))) I fun a I=>?_;obtain ⟨il,UA,h⟩:=J.aH h;obtain ⟨QQ,R8,_,rfl,Ry⟩:=bX _ (hm.d 1 rfl) UA;refine ek wn (fun a6 ad=>bF Tryz.underlying22 Tryz.sizeOf3 rfl (I.g rfl) (I.g rfl) QQ R8) I rfl rfl fun a I=>?_
     refine dB 4 [0,0] [(19,.i yG),(20,.i o_),(21,.i il)] [bG ag,bH ag+(J.ap (at_+ 2)).toNat* 1] (fun a6 ad=>(av (b2 ad Ry) aw)) I fun a I=>wpQuiet_nil fun w ad=>?_;have hm:=hm.dw ad;clear ad;refine dS _ _ <| wp_seq_k fun K dL=>aY <| bi 8 [0,0] [(81,.q ag ah h_.Words),(83,.i (J.ap (at_+ 3))),(87,.i (J.ap ((J.ap (at_+ 3))+o_)))] [bY,0] (av (a2 (hm.e 2 rfl)) aw) I fun a I=>?_;obtain ⟨uN,ay3,h⟩:=J.aH h;refine afD (T:=(ak .i64)) (i:=J.ap (at_+ 3)) (j:=J.ap ((J.ap (at_+ 3))+o_)) 1 hm rfl Tryz.underlying22 Tryz.sizeOf3 ay3 wn rfl (I.g rfl) (.inr ⟨_,rfl,(I.g rfl)⟩) (.inr ⟨_,rfl,(I.g rfl)⟩) I rfl rfl ?_
     intro a nf pc I hm;refine aN 1 [] [(23,.q nf pc uN)] I fun a I=>wpList_nil (dL _ _ ?_);refine bt [0,0,0,0] [(3,.i bU),(9,.i b'.1),(10,.i b'.2.1),(11,.i b'.2.2.1),(12,.i b'.2.2.2),(13,.i lh.1),(14,.i lh.2),(15,.q hS iq eF.1),(16,.i eF.2),(17,.i iU),(18,.i iU),(19,.i yG),(20,.i o_),(21,.i il),(22,.i 0),(23,.q nf pc uN),(95,.bool ((decide (bU < 0)) || (decide (o_<=bU))))] I fun a I=>bk (I.g rfl) h (fun aor h=>?_) (fun aor h=>?_)
     · refine cg [] [(18,.i 3)] I fun a I=>?_;exact dc _ _ ⟨3,yG,o_,il,0,nf,pc,uN,I.cut,hm,(os h)⟩
     refine aY <| aN 2 [] [(96,.q nf pc uN),(97,.i bU)] I fun a I=>?_;obtain ⟨Na,aBA,h⟩:=J.aH h;obtain ⟨akL,avD,_,rfl,arm⟩:=bX _ (hm.d 0 rfl) aBA;refine bQ wn (bF Tryz.underlying22 Tryz.sizeOf3 rfl (I.g rfl) (I.g rfl) akL avD) I rfl rfl fun a I=>bi 2 [0,0] [(22,.i Na)] [bG nf,bH nf+(bU).toNat* 1] (av arm aw) I fun a I=>wpList_nil ?_;exact dc _ _ ⟨iU,yG,o_,il,Na,nf,pc,uN,I.cut,hm,(os h)⟩
   refine wp_skip ?_;have hm:=hm.more (y:=al.of (aG (ak .i64)) [.slice none 0 0] ([]:fq)) (lf _ _ _);exact dc _ _ ⟨iU,0,0,0,0,none,0,[],I.cut,hm,(os h)⟩
 rintro a w ⟨ii,Ao,Ap,jO,Aq,Em,Fj,xU,I,hm,bc⟩;subst aex;have h:=TA;clear TA;dsimp only at h;refine wp_seq_k fun K eX=>aY ?_;obtain ⟨u5,T2,h⟩:=J.aH h;have hc:=hm;refine bP (vs:=[]) wn rfl Tryz.call23 trivial (aio ((hc.into 0).pick trivial) T2) I rfl rfl ?_;rintro _ w ⟨rfl,af⟩;refine ⟨_,rfl,fun a I=>?_⟩;have hm:=hc.back 0 af;clear af hc
 refine aN 36 [0,0,0,0,0,0,0,0,0,0,0,0,0,0,0,0,0,0,0,0,0,0,0,0,0,0,0,0] [(136,.bool (((((((u5 && (decide (b'.2.2.2 =iU))) && (decide (b'.1 =Ao))) && (decide (b'.2.1 =Ap))) && (decide (b'.2.2.1 =jO))) && (decide (lh.2 =ii))) && (decide (lh.1 =Aq))) && (decide (eF.2 =iU))))] I fun a I=>?_;rcases Bool.eq_false_or_eq_true (((((((u5 && (decide (b'.2.2.2 =iU))) && (decide (b'.1 =Ao))) && (decide (b'.2.1 =Ap))) && (decide (b'.2.2.1 =jO))) && (decide (lh.2 =ii))) && (decide (lh.1 =Aq))) && (decide (eF.2 =iU))) with qP | qP
 · have h:=J.dj qP h;have I:=I.b6 136 rfl qP;refine aN 2 [1,1] [(137,.q hS iq eF.1),(138,.q Em Fj xU)] I fun a I=>?_;obtain ⟨Au,T4,h⟩:=J.aH h;have hc:=hm;have ax:=hc.freeze 0 1 rfl rfl;refine bP (vs:=[.q hS iq eF.1,.q Em Fj xU]) (cV I rfl rfl rfl rfl) rfl Tryz.call16 ⟨(I.g rfl),(I.g rfl),trivial⟩ (aiz ((ax.into 0).pick ⟨⟨0,rfl⟩,⟨1,rfl⟩,trivial⟩) T4) I rfl rfl ?_;rintro _ w ⟨rfl,af⟩;refine ⟨_,rfl,fun a I=>?_⟩;have ad:ba [] _ w:=af.ev;have hm:=hc.fP 0 (by exact trivial) af;clear af hc ax;clear ad
   refine eu 2 [1] [(8,.bool Au)] I fun a I=>wpList_nil (eX _ _ ?_);refine wp_ret ?_;obtain rfl:=ay h;refine bq Tryz.results9 I rfl ?_;exact ⟨rfl,hm.aX [] []⟩
 have h:=J.di qP h;have I:=I.b6 136 rfl qP;refine eu 5 [1,1,1,1] [(8,.bool false)] I fun a I=>wpList_nil (eX _ _ ?_);refine wp_ret ?_;obtain rfl:=ay h;refine bq Tryz.results9 I rfl ?_;exact ⟨rfl,hm.aX [] []⟩
end Go.Proofs.YtpkhpagplommoaaGreat
namespace J
theorem dP {n:Int} (bJ: -9223372036854775808 <=n) (aC:n<= 9223372036854775807):ap n=n:=by unfold ap;omega
theorem gO {i n:Nat} (hi:i <n) (af:n<= 140737488355328):ap ((i:Int)+ 1)=((i+ 1 :Nat):Int):=by
 rw [dP (by omega) (by omega)];omega
theorem cc {α:Type} {l:List α} {i:Nat} {x:α} (h:l[i]? =some x):idx l (i:Int)=some x:=by
 unfold idx;rw [if_pos (by omega)];simpa using h
theorem cC {i n:Nat} (h:i <n):decide ((i:Int) <(n:Int))=true:=decide_eq_true (by omega)
theorem cB (n:Nat):decide ((n:Int) <(n:Int))=false:=decide_eq_false (by omega)
def dx {ρ:Type}:Option ρ->Way ρ Unit
 | some r=>.out r
 | none=>.go ()
def hE {ρ:Type} (o:Option ρ) (y:Option (Way ρ Unit)):Option (Way ρ Unit):=match o with
 | some r=>some (.out r)
 | none=>y
theorem each {α ρ:Type} {l:List α} {L:Nat->Int->Option (Way ρ Unit)} (g:α->Option ρ) (ax:l.length<= 140737488355328)
 (a5:∀ k (i:Nat) x,l[i]? =some x->L (k+ 1) (i:Int)=hE (g x) (L k (ap ((i:Int)+ 1))))
 (he:∀ k,L (k+ 1) (l.length:Int)=some (.go ())) {F:Nat} (bT:l.length <F):L F 0 =some (dx (l.findSome? g)):=by
 have key:∀ (d i k:Nat),i+d=l.length->d <k->L k (i:Int)=some (dx ((l.drop i).findSome? g)):=by
  intro d
  induction d with
  | zero=>
    intro i k h bf
    obtain ⟨k,rfl⟩:∃ k',k=k'+ 1 :=⟨k - 1,by omega⟩
    have hi:i=l.length:=by omega
    subst hi
    rw [he];simp [dx]
  | succ d cn=>
    intro i k h bf
    obtain ⟨k,rfl⟩:∃ k',k=k'+ 1 :=⟨k - 1,by omega⟩
    have hi:i <l.length:=by omega
    rw [a5 k i l[i] (List.getElem?_eq_getElem hi),List.drop_eq_getElem_cons hi,List.findSome?_cons]
    cases dd:g l[i] with
    | some r=>rfl
    | none=>
      simp only [hE]
      rw [gO hi ax]
      exact cn (i+ 1) k (by omega) (by omega)
 have:=key l.length 0 F (by omega) bT
 simpa using this
theorem kv {ρ:Type} {n:Nat} {L:Nat->Int->Option (Way ρ Unit)} (g:Nat->Option ρ) (ax:n<= 140737488355328)
 (a5:∀ k (i:Nat),i <n->L (k+ 1) (i:Int)=hE (g i) (L k (ap ((i:Int)+ 1))))
 (he:∀ k,L (k+ 1) (n:Int)=some (.go ())) {F:Nat} (bT:n <F):L F 0 =some (dx ((List.range n).findSome? g)):=by
 have h:=each (l:=List.range n) (L:=L) g (by simpa using ax) (fun k i x ai=>by
  have hi:i <n:=by have:=(List.getElem?_eq_some_iff.1 ai).1;simpa using this
  rw [List.getElem?_range hi] at ai
  simp only [Option.some.injEq] at ai
  subst ai
  exact a5 k i hi) (fun k=>by simpa using he k) (F:=F) (by simpa using bT)
 exact h
theorem Ma {rG:Type} {n:Nat} (T:Nat->Nat->Option rG) (fin:rG) (a5:∀ k i,i <n->T (k+ 1) i=T k (i+ 1)) (he:∀ k,T (k+ 1) n=some fin) {F:Nat} (bT:n <F):T F 0 =some fin:=by
 have key:∀ (d i k:Nat),i+d=n->d <k->T k i=some fin:=by
  intro d
  induction d with
  | zero=>
    intro i k h bf
    obtain ⟨k,rfl⟩:∃ k',k=k'+ 1 :=⟨k - 1,by omega⟩
    have hi:i=n:=by omega
    subst hi
    exact he k
  | succ d cn=>
    intro i k h bf
    obtain ⟨k,rfl⟩:∃ k',k=k'+ 1 :=⟨k - 1,by omega⟩
    rw [a5 k i (by omega)]
    exact cn (i+ 1) k (by omega) (by omega)
 exact key n 0 F (by omega) bT
abbrev Small (F n:Nat):Prop:=n<= 140737488355328 /\n <F
end J
namespace J
def r3 (b:UInt8):Bool:=((((decide (97 <=(b.toNat:Int))) && (decide ((b.toNat:Int)<= 122))) || ((decide (65 <=(b.toNat:Int))) && (decide ((b.toNat:Int)<= 90)))) || ((decide (48 <=(b.toNat:Int))) && (decide ((b.toNat:Int)<= 57)))) || (decide ((b.toNat:Int)= 95))
def hC (s:List UInt8):Bool:=(s.findSome? fun b=>if r3 b then none else some ()).isNone && decide (s≠ []) && decide (s.length<= 20)
theorem y3 {F:Nat} {s:List UInt8} (h:Small F s.length):n8 F s=some (hC s):=by
 unfold n8
 have l1:=each (l:=s) (L:=qw s) (fun b=>if r3 b then none else some false) h.1 (fun k i x ai=>by
  rw [qw,cC (List.getElem?_eq_some_iff.1 ai).1,cond_true,cc ai,Option.bind_some]
  show cond (!r3 x) _ _=_
  cases r3 x <;> rfl) (fun k=>by rw [qw,cB];rfl) h.2
 rw [l1]
 unfold hC
 have e:∀ s:List UInt8,s.findSome? (fun b=>if r3 b then none else some false)=(s.findSome? (fun b=>if r3 b then none else some ())).map (fun _=>false):=by
  intro s
  induction s with
  | nil=>rfl
  | cons b r cn=>simp only [List.findSome?_cons];cases r3 b <;> simp [cn]
 rw [e]
 cases s.findSome? (fun b=>if r3 b then none else some ()) with
 | some _=>rfl
 | none=>
   simp only [Option.map_none,dx,qc,Option.isNone_none,Bool.true_and]
   congr 1
   rw [Bool.eq_iff_iff]
   cases s <;> first | (simp;done) | (simp;omega)
theorem CF {F:Nat} {s:List UInt8} (h:Small F s.length):nC F s=some (hC s):=by
 rw [<-y3 h]
 unfold nC n8 bytesOf
 rw [if_pos h.1,Option.bind_some]
 have e:∀ k n,Ab s k n=qw s k n:=by
  intro k
  induction k with
  | zero=>intro n;rfl
  | succ k cn=>
    intro n
    rw [Ab,qw]
    simp only [cn]
    congr 1
    congr 1
    funext b
    have hc:(((((decide ((b.toNat:Int) < 97)) || (decide (122 <(b.toNat:Int)))) && ((decide ((b.toNat:Int) < 65)) || (decide (90 <(b.toNat:Int))))) && ((decide ((b.toNat:Int) < 48)) || (decide (57 <(b.toNat:Int))))) && (!decide ((b.toNat:Int)= 95)))= !r3 b:=by
     unfold r3
     rw [Bool.eq_iff_iff]
     first | (simp;done) | (simp;omega)
    rw [hc];rfl
 rw [e]
 cases qw s F 0 with
 | none=>rfl
 | some w=>
   cases w with
   | out r=>rfl
   | go u=>
     simp only [qc]
     congr 1
     rw [Bool.eq_iff_iff]
     cases s <;> first | (simp;done) | (simp;omega)
def kindOk (k:Kind):Bool:=if k.Kind= 3 \/k.Kind= 4 then hC k.aM else (decide (k.Kind= 1) || decide (k.Kind= 2)) && decide (k.aM= [])
theorem UE {F:Nat} {k:Kind} (h:Small F k.aM.length):ua F k=some (kindOk k):=by
 unfold ua Lx kindOk
 simp only [Option.bind_some,CF h]
 by_cases bV:k.Kind= 3 \/k.Kind= 4
 · rw [if_pos bV]
   rcases bV with e | e <;> simp [e]
 · rw [if_neg bV]
   have ez: ¬ k.Kind= 3 :=fun e=>bV (.inl e)
   have hl: ¬ k.Kind= 4 :=fun e=>bV (.inr e)
   simp [ez,hl]
theorem Pu {F:Nat} {k:Kind} (h:Small F k.aM.length):s7 F k=some (kindOk k):=by
 unfold s7 kindOk
 simp only [y3 h,Option.bind_some]
 by_cases bV:k.Kind= 3 \/k.Kind= 4
 · rw [if_pos bV]
   rcases bV with e | e <;> simp [e]
 · rw [if_neg bV]
   have ez: ¬ k.Kind= 3 :=fun e=>bV (.inl e)
   have hl: ¬ k.Kind= 4 :=fun e=>bV (.inr e)
   by_cases aC:k.Kind= 1
   · simp [aC]
   · by_cases aS:k.Kind= 2
     · simp [aS]
     · simp [ez,hl,aC,aS]
def h7 (n a b:Int):Bool:=decide (a<=n) && decide (n<=b)
def r9 (h:Handler):Option Int:=if hC h.aM then (if h7 h.From 0 200 && h7 h.To 0 200 && h7 h.gT 0 200 then none else some 3) else some 1
def uc (k:Kind):Option Int:=if kindOk k then none else some 7
def Am (m:Method):Int:=
 if hC m.Name then
  if 4 <m.bI.length\/ 200 <m.Code.length\/ 4 <m.bK.length then 2
  else if h7 m.cR 0 10 && h7 m.cQ 0 10 then
   match m.bI.findSome? uc with
   | some e=>e
   | none=>if m.Returns=⟨0,[]⟩\/kindOk m.Returns=true then (m.bK.findSome? r9).getD 0 else 7
  else 3
 else 1
structure Method.Fits (F:Nat) (m:Method):Prop where
 name:Small F m.Name.length
 args:Small F m.bI.length
 arg:∀ k ∈ m.bI,Small F k.aM.length
 ret:Small F m.Returns.aM.length
 xo:Small F m.bK.length
 hand:∀ h ∈ m.bK,Small F h.aM.length
structure aM.Fits (F:Nat) (c:aM):Prop where
 name:Small F c.Name.length
 super:Small F c.bZ.length
 fields:Small F c.Fields.length
 field:∀ f ∈ c.Fields,Small F f.Name.length/\Small F f.Kind.aM.length
 methods:Small F c.aQ.length
 method:∀ m ∈ c.aQ,m.Fits F
def Fits (F:Nat) (l:List aM):Prop:=Small F l.length/\ ∀ c ∈ l,c.Fits F
theorem af4 {F:Nat} (o:Option Int) (d:Int):dr (α:=Unit) (some (dx o)) (fun _=>some d)=some (o.getD d):=by cases o <;> rfl
theorem af5 {o:Option Int} {k:Option Int}:dr (α:=Unit) (some (dx o)) (fun _=>k)=(match o with | some e=>some e | none=>k):=by cases o <;> rfl
theorem aEh {F:Nat} {m:Method} (h:m.Fits F):Ac F m=some (Am m):=by
 have l1:xO F m F 0 =some (dx (m.bI.findSome? uc)):=each uc h.args.1 (fun k i x ai=>by
  rw [xO,cC (List.getElem?_eq_some_iff.1 ai).1,cond_true,cc ai,Option.bind_some,UE (h.arg x (List.mem_of_getElem? ai)),Option.bind_some]
  unfold uc
  show cond (!kindOk x) _ _=_
  cases kindOk x <;> rfl) (fun k=>by rw [xO,cB];rfl) h.args.2
 have ax:∀ {x:Handler} (_:x ∈ m.bK) (Y:Option (Way Int Unit)),((nC F x.aM).bind fun HZ=>
  cond (!HZ) (some (.out 1)) ((mO x.From 0 200).bind fun kp=>
  cond (!kp) (some (.out 3)) ((mO x.To 0 200).bind fun C8=>
  cond (!C8) (some (.out 3)) ((mO x.gT 0 200).bind fun H0=>
  cond (!H0) (some (.out 3)) Y))))=hE (r9 x) Y:=by
  intro x ai Y
  rw [CF (h.hand x ai)]
  unfold r9 mO
  simp only [Option.bind_some]
  show cond (!hC x.aM) _ (cond (!h7 x.From 0 200) _ (cond (!h7 x.To 0 200) _ (cond (!h7 x.gT 0 200) _ _)))=_
  cases hC x.aM <;> cases h7 x.From 0 200 <;> cases h7 x.To 0 200 <;> cases h7 x.gT 0 200 <;> rfl
 have f':xP F m F 0 =some (dx (m.bK.findSome? r9)):=each r9 h.xo.1 (fun k i x ai=>by
  rw [xP,cC (List.getElem?_eq_some_iff.1 ai).1,cond_true,cc ai,Option.bind_some]
  exact ax (List.mem_of_getElem? ai) _) (fun k=>by rw [xP,cB];rfl) h.xo.2
 have oK:xQ F m F 0 =some (dx (m.bK.findSome? r9)):=each r9 h.xo.1 (fun k i x ai=>by
  rw [xQ,cC (List.getElem?_eq_some_iff.1 ai).1,cond_true,cc ai,Option.bind_some]
  exact ax (List.mem_of_getElem? ai) _) (fun k=>by rw [xQ,cB];rfl) h.xo.2
 unfold Ac mO Am
 rw [CF h.name,l1,f',oK]
 have bf:=UE (F:=F) (k:=(⟨m.Returns.Kind,m.Returns.aM⟩:Kind)) h.ret
 simp only [Option.bind_some,bf,af4 (F:=F),af5]
 cases hC m.Name with
 | false=>rfl
 | true=>
   simp only [Bool.not_true,cond_false,if_true]
   by_cases hm:4 <m.bI.length\/ 200 <m.Code.length\/ 4 <m.bK.length
   · rw [if_pos hm]
     have:((decide (4 <(m.bI.length:Int))) || (decide (200 <(m.Code.length:Int))) || (decide (4 <(m.bK.length:Int))))=true:=by
      simp;omega
     rw [this];rfl
   · rw [if_neg hm]
     have:((decide (4 <(m.bI.length:Int))) || (decide (200 <(m.Code.length:Int))) || (decide (4 <(m.bK.length:Int))))=false:=by
      simp;omega
     rw [this]
     show cond (!h7 m.cR 0 10) _ (cond (!h7 m.cQ 0 10) _ _)=_
     cases h7 m.cR 0 10 <;> cases h7 m.cQ 0 10 <;> try rfl
     simp only [Bool.not_true,cond_false,Bool.and_self,if_true]
     cases m.bI.findSome? uc with
     | some e=>rfl
     | none=>
       simp only
       by_cases bR:m.Returns=⟨0,[]⟩
       · rw [if_pos (.inl bR),show (decide ((⟨m.Returns.Kind,m.Returns.aM⟩:Kind)=⟨0,[]⟩))=true from decide_eq_true bR]
         rfl
       · rw [show (decide ((⟨m.Returns.Kind,m.Returns.aM⟩:Kind)=⟨0,[]⟩))=false from decide_eq_false bR]
         simp only [Bool.not_false,cond_true]
         show cond (!kindOk m.Returns) _ _=_
         cases ayf:kindOk m.Returns with
         | true=>rw [if_pos (.inr rfl)];rfl
         | false=>rw [if_neg (by simp [bR])];rfl
theorem ahu {F:Nat} {m:Method} (h:m.Fits F):y2 F m=some (Am m):=by
 have l1:wk F m F 0 =some (dx (m.bI.findSome? uc)):=each uc h.args.1 (fun k i x ai=>by
  rw [wk,cC (List.getElem?_eq_some_iff.1 ai).1,cond_true,cc ai,Option.bind_some,Pu (h.arg x (List.mem_of_getElem? ai)),Option.bind_some]
  unfold uc
  cases kindOk x <;> rfl) (fun k=>by rw [wk,cB];rfl) h.args.2
 have f':wl F m F 0 =some (dx (m.bK.findSome? r9)):=each r9 h.xo.1 (fun k i x ai=>by
  rw [wl,cC (List.getElem?_eq_some_iff.1 ai).1,cond_true,cc ai,Option.bind_some,y3 (h.hand x (List.mem_of_getElem? ai))]
  unfold r9 gU
  simp only [Option.bind_some]
  show cond (!hC x.aM) _ (cond (!h7 x.From 0 200) _ (cond (!h7 x.To 0 200) _ (cond (!h7 x.gT 0 200) _ _)))=_
  cases hC x.aM <;> cases h7 x.From 0 200 <;> cases h7 x.To 0 200 <;> cases h7 x.gT 0 200 <;> rfl) (fun k=>by rw [wl,cB];rfl) h.xo.2
 unfold y2 gU Am
 rw [y3 h.name,l1,f']
 have bf:=Pu (F:=F) (k:=(⟨m.Returns.Kind,m.Returns.aM⟩:Kind)) h.ret
 simp only [Option.bind_some,bf,af4 (F:=F),af5]
 cases hC m.Name with
 | false=>rfl
 | true=>
   simp only [Bool.not_true,cond_false,if_true]
   by_cases hm:4 <m.bI.length\/ 200 <m.Code.length\/ 4 <m.bK.length
   · rw [if_pos hm]
     have:((decide (4 <(m.bI.length:Int))) || (decide (200 <(m.Code.length:Int))) || (decide (4 <(m.bK.length:Int))))=true:=by
      simp;omega
     rw [this];rfl
   · rw [if_neg hm]
     have:((decide (4 <(m.bI.length:Int))) || (decide (200 <(m.Code.length:Int))) || (decide (4 <(m.bK.length:Int))))=false:=by
      simp;omega
     rw [this]
     show cond (!h7 m.cR 0 10) _ (cond (!h7 m.cQ 0 10) _ _)=_
     cases h7 m.cR 0 10 <;> cases h7 m.cQ 0 10 <;> try rfl
     simp only [Bool.not_true,cond_false,Bool.and_self,if_true]
     cases m.bI.findSome? uc with
     | some e=>rfl
     | none=>
       simp only
       show cond ((!kindOk m.Returns) && _) _ _=_
       by_cases bR:m.Returns=⟨0,[]⟩
       · rw [if_pos (.inl bR),bR]
         simp
       · have eZ:((!decide (m.Returns.Kind= 0)) || (!decide (m.Returns.aM= [])))=true:=by
          rcases hM:m.Returns with ⟨a,b⟩
          rw [hM] at bR
          by_cases bx:a= 0
          · by_cases a1:b= []
            · subst bx;subst a1;exact absurd rfl bR
            · simp [a1]
          · simp [bx]
         rw [eZ]
         cases ayf:kindOk m.Returns with
         | true=>rw [if_pos (.inr rfl)];rfl
         | false=>rw [if_neg (by simp [bR])];rfl
end J
namespace J
def ix (f:Field):Option Int:=if hC f.Name then (if kindOk f.Kind then none else some 7) else some 1
def i' (e:Int):Option Int:=if e= 0 then none else some e
def jL (m:Method):Option Int:=i' (Am m)
def B8 (c:aM):Int:=
 if hC c.Name && (decide (c.bZ= []) || hC c.bZ) then
  if 6 <c.Fields.length\/ 8 <c.aQ.length then 2
  else (c.Fields.findSome? ix).getD ((c.aQ.findSome? jL).getD 0)
 else 1
def qJ (c:aM):Option Int:=i' (B8 c)
def r2 (l:List aM):Int:=if 10 <l.length then 2 else (l.findSome? qJ).getD 0
def o1 {ρ:Type} (o:Option ρ) (y:Option ρ):Option ρ:=match o with
 | some e=>some e
 | none=>y
theorem WD {e:Int} {Y:Option (Way Int Unit)}:cond (!decide (e= 0)) (some (.out e)) Y=hE (i' e) Y:=by
 unfold i' hE
 by_cases h:e= 0
 · rw [if_pos h,decide_eq_true h];rfl
 · rw [if_neg h,decide_eq_false h];rfl
theorem abN {a b:Nat} (x y:Nat):((decide ((x:Int) <(a:Int))) || (decide ((y:Int) <(b:Int))))=decide (x <a\/y <b):=by
 rw [Bool.eq_iff_iff];simp
theorem nU {o:Option Int} {k:Unit->Option (Way Int Unit)}:dY (α:=Unit) (some (dx o)) k=hE o (k ()):=by cases o <;> rfl
theorem jU {ρ:Type} {o:Option ρ} {k:Unit->Option ρ}:dr (α:=Unit) (some (dx o)) k=o1 o (k ()):=by cases o <;> rfl
theorem qd {o:Option Int} {Y:Option (Way Int Unit)} {k:Unit->Option (Way Int Unit)}:dY (α:=Unit) (hE o Y) k=hE o (dY (α:=Unit) Y k):=by cases o <;> rfl
section
variable {F:Nat}
theorem aEg {c:aM} (h:c.Fits F):Hu F c=some (B8 c):=by
 have I:∀ {x:Field} (_:x ∈ c.Fields) (Y:Option (Way Int Unit)),((nC F x.Name).bind fun Az=>
  cond (!Az) (some (.out 1)) ((ua F (⟨x.Kind.Kind,x.Kind.aM⟩:Kind)).bind fun ko=>
  cond (!ko) (some (.out 7)) Y))=hE (ix x) Y:=by
  intro x ai Y
  rw [CF (h.field x ai).1,UE (k:=(⟨x.Kind.Kind,x.Kind.aM⟩:Kind)) (h.field x ai).2]
  unfold ix
  simp only [Option.bind_some]
  show cond (!hC x.Name) _ (cond (!kindOk x.Kind) _ _)=_
  cases hC x.Name <;> cases kindOk x.Kind <;> rfl
 have hm:∀ {x:Method} (_:x ∈ c.aQ) (Y:Option (Way Int Unit)),((Ac F (⟨x.Name,x.Static,x.bI,(⟨x.Returns.Kind,x.Returns.aM⟩:Kind),x.cR,x.cQ,x.Code,x.bK⟩:Method)).bind fun kp=>
  cond (!decide (kp= 0)) (some (.out kp)) Y)=hE (jL x) Y:=by
  intro x ai Y
  have:=aEh (F:=F) (m:=(⟨x.Name,x.Static,x.bI,(⟨x.Returns.Kind,x.Returns.aM⟩:Kind),x.cR,x.cQ,x.Code,x.bK⟩:Method)) (h.method x ai)
  rw [this,Option.bind_some]
  exact WD
 have l1:xK F c F 0 =some (dx (c.Fields.findSome? ix)):=each ix h.fields.1 (fun k i x ai=>by
  rw [xK,cC (List.getElem?_eq_some_iff.1 ai).1,cond_true,cc ai,Option.bind_some];exact I (List.mem_of_getElem? ai) _) (fun k=>by rw [xK,cB];rfl) h.fields.2
 have oK:xM F c F 0 =some (dx (c.Fields.findSome? ix)):=each ix h.fields.1 (fun k i x ai=>by
  rw [xM,cC (List.getElem?_eq_some_iff.1 ai).1,cond_true,cc ai,Option.bind_some];exact I (List.mem_of_getElem? ai) _) (fun k=>by rw [xM,cB];rfl) h.fields.2
 have f':xL F c F 0 =some (dx (c.aQ.findSome? jL)):=each jL h.methods.1 (fun k i x ai=>by
  rw [xL,cC (List.getElem?_eq_some_iff.1 ai).1,cond_true,cc ai,Option.bind_some];exact hm (List.mem_of_getElem? ai) _) (fun k=>by rw [xL,cB];rfl) h.methods.2
 have Aj:xN F c F 0 =some (dx (c.aQ.findSome? jL)):=each jL h.methods.1 (fun k i x ai=>by
  rw [xN,cC (List.getElem?_eq_some_iff.1 ai).1,cond_true,cc ai,Option.bind_some];exact hm (List.mem_of_getElem? ai) _) (fun k=>by rw [xN,cB];rfl) h.methods.2
 unfold Hu B8
 rw [CF h.name,CF h.super,l1,f',oK,Aj]
 simp only [Option.bind_some,jU,show (6 :Int)=((6 :Nat):Int) from rfl,show (8 :Int)=((8 :Nat):Int) from rfl,abN]
 cases hC c.Name with
 | false=>rfl
 | true=>
   simp only [Bool.not_true,cond_false,Bool.true_and]
   have z7:∀ p:Bool,p=decide (6 <c.Fields.length\/ 8 <c.aQ.length)->cond p (some (2 :Int)) (o1 (c.Fields.findSome? ix) (o1 (c.aQ.findSome? jL) (some 0))) =
    some (if 6 <c.Fields.length\/ 8 <c.aQ.length then 2 else (c.Fields.findSome? ix).getD ((c.aQ.findSome? jL).getD 0)):=by
    intro p b5
    subst b5
    by_cases hM:6 <c.Fields.length\/ 8 <c.aQ.length
    · rw [if_pos hM,decide_eq_true hM];rfl
    · rw [if_neg hM,decide_eq_false hM]
      cases c.Fields.findSome? ix with
      | some e=>rfl
      | none=>cases c.aQ.findSome? jL <;> rfl
   by_cases a5:c.bZ= []
   · rw [decide_eq_true a5]
     simp only [Bool.not_true,cond_false,Bool.true_or,if_true]
     exact z7 _ rfl
   · rw [decide_eq_false a5]
     simp only [Bool.not_false,cond_true,Bool.false_or]
     cases hC c.bZ with
     | false=>rfl
     | true=>
       simp only [Bool.not_true,cond_false,if_true]
       exact z7 _ rfl
theorem aEf {l:List aM} (h:Fits F l):Ht F l=some (r2 l):=by
 have l1:xJ F l F 0 =some (dx (l.findSome? qJ)):=each qJ h.1.1 (fun k i x ai=>by
  rw [xJ,cC (List.getElem?_eq_some_iff.1 ai).1,cond_true,cc ai,Option.bind_some,aEg (c:=(⟨x.Name,x.bZ,x.Fields,x.aQ⟩:aM)) (h.2 x (List.mem_of_getElem? ai)),Option.bind_some]
  exact WD) (fun k=>by rw [xJ,cB];rfl) h.1.2
 unfold Ht r2
 rw [l1,jU]
 by_cases ax:10 <l.length
 · rw [if_pos ax,decide_eq_true (show (10 :Int) <(l.length:Int) by omega)];rfl
 · rw [if_neg ax,decide_eq_false (show ¬ (10 :Int) <(l.length:Int) by omega)]
   cases l.findSome? qJ <;> rfl
theorem aht {l:List aM} (h:Fits F l):Ey F l=some (r2 l):=by
 have body:∀ {c:aM} (_:c.Fits F),vQ F c F 0 =some (dx (c.Fields.findSome? ix))/\vS F c F 0 =some (dx (c.Fields.findSome? ix))/\vR F c F 0 =some (dx (c.aQ.findSome? jL))/\vT F c F 0 =some (dx (c.aQ.findSome? jL)):=by
  intro c hc
  have I:∀ {x:Field} (_:x ∈ c.Fields) (i:Int) (_:idx c.Fields i=some x) (Y:Option (Way Int Unit)),((n8 F x.Name).bind fun Az=>
   cond (!Az) (some (.out 1)) ((idx c.Fields i).bind fun x=>(s7 F (⟨x.Kind.Kind,x.Kind.aM⟩:Kind)).bind fun ko=>
   cond (!ko) (some (.out 7)) Y))=hE (ix x) Y:=by
   intro x ai i hi Y
   rw [y3 (hc.field x ai).1,hi]
   unfold ix
   simp only [Option.bind_some]
   rw [Pu (k:=(⟨x.Kind.Kind,x.Kind.aM⟩:Kind)) (hc.field x ai).2,Option.bind_some]
   show cond (!hC x.Name) _ (cond (!kindOk x.Kind) _ _)=_
   cases hC x.Name <;> cases kindOk x.Kind <;> rfl
  have hm:∀ {x:Method} (_:x ∈ c.aQ) (Y:Option (Way Int Unit)),((y2 F x).bind fun kp=>
   cond (!decide (kp= 0)) (some (.out kp)) Y)=hE (jL x) Y:=by
   intro x ai Y
   rw [ahu (hc.method x ai),Option.bind_some]
   exact WD
  refine ⟨each ix hc.fields.1 (fun k i x ai=>?_) (fun k=>by rw [vQ,cB];rfl) hc.fields.2,each ix hc.fields.1 (fun k i x ai=>?_) (fun k=>by rw [vS,cB];rfl) hc.fields.2,
   each jL hc.methods.1 (fun k i x ai=>?_) (fun k=>by rw [vR,cB];rfl) hc.methods.2,each jL hc.methods.1 (fun k i x ai=>?_) (fun k=>by rw [vT,cB];rfl) hc.methods.2⟩
  · rw [vQ,cC (List.getElem?_eq_some_iff.1 ai).1,cond_true,cc ai,Option.bind_some];rw [<-cc ai];exact I (List.mem_of_getElem? ai) _ (cc ai) _
  · rw [vS,cC (List.getElem?_eq_some_iff.1 ai).1,cond_true,cc ai,Option.bind_some];rw [<-cc ai];exact I (List.mem_of_getElem? ai) _ (cc ai) _
  · rw [vR,cC (List.getElem?_eq_some_iff.1 ai).1,cond_true,cc ai,Option.bind_some];exact hm (List.mem_of_getElem? ai) _
  · rw [vT,cC (List.getElem?_eq_some_iff.1 ai).1,cond_true,cc ai,Option.bind_some];exact hm (List.mem_of_getElem? ai) _
 have l1:vP F l F 0 =some (dx (l.findSome? qJ)):=each qJ h.1.1 (fun k i c ai=>by
  have hc:=h.2 c (List.mem_of_getElem? ai)
  obtain ⟨EF,PD,EG,ahy⟩:=body hc
  rw [vP,cC (List.getElem?_eq_some_iff.1 ai).1,cond_true,cc ai,Option.bind_some,y3 hc.name,y3 hc.super,EF,EG,PD,ahy]
  simp only [Option.bind_some,nU,show (6 :Int)=((6 :Nat):Int) from rfl,show (8 :Int)=((8 :Nat):Int) from rfl,abN]
  unfold qJ B8
  cases hC c.Name with
  | false=>rfl
  | true=>
    simp only [Bool.not_true,cond_false,Bool.true_and]
    have z7:∀ (p:Bool) (Y:Option (Way Int Unit)),p=decide (6 <c.Fields.length\/ 8 <c.aQ.length)->dY (α:=Unit) (cond p (some (.out (2 :Int))) (hE (c.Fields.findSome? ix) (hE (c.aQ.findSome? jL) (some (.go ()))))) (fun _=>Y) =
     hE (i' (if 6 <c.Fields.length\/ 8 <c.aQ.length then 2 else (c.Fields.findSome? ix).getD ((c.aQ.findSome? jL).getD 0))) Y:=by
     intro p Y b5
     subst b5
     by_cases hM:6 <c.Fields.length\/ 8 <c.aQ.length
     · rw [if_pos hM,decide_eq_true hM];rfl
     · rw [if_neg hM,decide_eq_false hM,cond_false]
       have avB:∀ e,c.Fields.findSome? ix=some e->i' e=some e:=by
        intro e he
        obtain ⟨x,_,ai⟩:=List.exists_of_findSome?_eq_some he
        unfold ix at ai
        split at ai
        · split at ai
          · cases ai
          · injection ai with ai;subst ai;rfl
        · injection ai with ai;subst ai;rfl
       have TS:∀ e,c.aQ.findSome? jL=some e->i' e=some e:=by
        intro e he
        obtain ⟨x,_,ai⟩:=List.exists_of_findSome?_eq_some he
        unfold jL at ai
        unfold i' at ai ⊢
        split at ai
        · cases ai
        · rename_i af;injection ai with ai;subst ai;rw [if_neg af]
       cases I:c.Fields.findSome? ix with
       | some e=>simp only [Option.getD_some,avB e I];rfl
       | none=>
         cases hm:c.aQ.findSome? jL with
         | some e=>simp only [Option.getD_some,Option.getD_none,TS e hm];rfl
         | none=>rfl
    by_cases a5:c.bZ= []
    · rw [decide_eq_true a5]
      simp only [Bool.not_true,cond_false,Bool.true_or,if_true]
      exact z7 _ _ rfl
    · rw [decide_eq_false a5]
      simp only [Bool.not_false,cond_true,Bool.false_or]
      cases hC c.bZ with
      | false=>rfl
      | true=>
        simp only [Bool.not_true,cond_false,if_true]
        exact z7 _ _ rfl) (fun k=>by rw [vP,cB];rfl) h.1.2
 unfold Ey r2
 rw [l1,jU]
 by_cases ax:10 <l.length
 · rw [if_pos ax,decide_eq_true (show (10 :Int) <(l.length:Int) by omega)];rfl
 · rw [if_neg ax,decide_eq_false (show ¬ (10 :Int) <(l.length:Int) by omega)]
   cases l.findSome? qJ <;> rfl
end
structure Right (l:List aM):Prop where
 len:l.length<= 10
 name:∀ c ∈ l,hC c.Name=true
 fields:∀ c ∈ l,c.Fields.length<= 6
 methods:∀ c ∈ l,c.aQ.length<= 8
 method:∀ c ∈ l,∀ m ∈ c.aQ,m.bI.length<= 4 /\m.bK.length<= 4
theorem aES {m:Method} (h:Am m= 0):m.bI.length<= 4 /\m.bK.length<= 4 :=by
 unfold Am at h
 split at h
 · split at h
   · exact absurd h (by decide)
   · rename_i aC;exact ⟨by omega,by omega⟩
 · exact absurd h (by decide)
theorem aFa {e:Int} (h:i' e=none):e= 0 :=by
 unfold i' at h
 split at h
 · assumption
 · cases h
theorem aFb {e x:Int} (h:i' e=some x):x≠ 0 :=by
 unfold i' at h
 split at h
 · cases h
 · rename_i cU;injection h with h;subst h;exact cU
theorem aEs {s:List UInt8} (h:hC s=true):s≠ []:=by
 unfold hC at h
 simp only [Bool.and_eq_true,decide_eq_true_eq] at h
 exact h.1.2
theorem ajt {l:List aM} (h:r2 l= 0):Right l:=by
 unfold r2 at h
 by_cases ax:10 <l.length
 · rw [if_pos ax] at h;exact absurd h (by decide)
 · rw [if_neg ax] at h
   have af:∀ c ∈ l,B8 c= 0 :=by
    intro c hc
    cases I:l.findSome? qJ with
    | some e=>
      rw [I] at h
      simp only [Option.getD_some] at h
      subst h
      obtain ⟨x,_,ai⟩:=List.exists_of_findSome?_eq_some I
      unfold qJ i' at ai
      split at ai
      · cases ai
      · rename_i cU;injection ai with ai;exact absurd ai cU
    | none=>
      have:=List.findSome?_eq_none_iff.1 I c hc
      unfold qJ i' at this
      split at this
      · assumption
      · cases this
   have key:∀ c ∈ l,hC c.Name=true/\c.Fields.length<= 6 /\c.aQ.length<= 8 /\ ∀ m ∈ c.aQ,m.bI.length<= 4 /\m.bK.length<= 4 :=by
    intro c hc
    have bJ:=af c hc
    unfold B8 at bJ
    split at bJ
    · rename_i aC
      simp only [Bool.and_eq_true] at aC
      split at bJ
      · exact absurd bJ (by decide)
      · rename_i aS
        refine ⟨aC.1,by omega,by omega,fun m hm=>?_⟩
        cases I:c.Fields.findSome? ix with
        | some e=>
          rw [I] at bJ
          simp only [Option.getD_some] at bJ
          subst bJ
          obtain ⟨x,_,ai⟩:=List.exists_of_findSome?_eq_some I
          unfold ix at ai
          split at ai
          · split at ai
            · cases ai
            · injection ai with ai;exact absurd ai (by decide)
          · injection ai with ai;exact absurd ai (by decide)
        | none=>
          rw [I] at bJ
          simp only [Option.getD_none] at bJ
          cases gz:c.aQ.findSome? jL with
          | some e=>
            rw [gz] at bJ
            simp only [Option.getD_some] at bJ
            subst bJ
            obtain ⟨x,_,ai⟩:=List.exists_of_findSome?_eq_some gz
            exact absurd rfl (aFb ai)
          | none=>exact aES (aFa (List.findSome?_eq_none_iff.1 gz m hm))
    · exact absurd bJ (by decide)
   exact ⟨by omega,fun c hc=>(key c hc).1,fun c hc=>(key c hc).2.1,fun c hc=>(key c hc).2.2.1,fun c hc=>(key c hc).2.2.2⟩
end J
namespace J
def fg {α:Type} (p:α->Bool):List α->Option Nat
 | []=>none
 | x::r=>if p x then some 0 else (fg p r).map (· + 1)
theorem HU {α:Type} {p:α->Bool}:∀ {l:List α} {i:Nat},fg p l=some i-> ∃ x,l[i]? =some x/\p x=true/\ ∀ j y,j <i->l[j]? =some y->p y=false
 | [],i,h=>by simp [fg] at h
 | x::r,i,h=>by
   simp only [fg] at h
   split at h
   · rename_i b5
     injection h with h
     subst h
     exact ⟨x,rfl,b5,fun j y bc=>absurd bc (by omega)⟩
   · rename_i b5
     cases bR:fg p r with
     | none=>rw [bR] at h;cases h
     | some k=>
       rw [bR] at h
       simp only [Option.map_some,Option.some.injEq] at h
       subst h
       obtain ⟨y,aC,aS,bV⟩:=HU bR
       refine ⟨y,by simpa using aC,aS,fun j z bc cU=>?_⟩
       cases j with
       | zero=>
         simp only [List.getElem?_cons_zero,Option.some.injEq] at cU
         subst cU
         simpa using b5
       | succ j=>exact bV j z (by omega) (by simpa using cU)
theorem WR {α:Type} {p:α->Bool}:∀ {l:List α},fg p l=none-> ∀ x ∈ l,p x=false
 | [],_,x,ai=>by cases ai
 | y::r,h,x,ai=>by
   simp only [fg] at h
   split at h
   · cases h
   · rename_i b5
     have bR:fg p r=none:=by simpa using h
     rcases List.mem_cons.1 ai with rfl | e
     · simpa using b5
     · exact WR bR x e
theorem aFr {α:Type} {p:α->Bool} {l:List α} {i:Nat} {x:α} (hi:l[i]? =some x) (b5:p x=true) (a1:∀ j y,j <i->l[j]? =some y->p y=false):fg p l=some i:=by
 cases h:fg p l with
 | none=>have:=WR h x (List.mem_of_getElem? hi);rw [b5] at this;cases this
 | some j=>
   obtain ⟨y,aC,aS,bV⟩:=HU h
   rcases Nat.lt_trichotomy i j with e | e | e
   · have:=bV i x e hi;rw [b5] at this;cases this
   · rw [e]
   · have:=a1 j y e aC;rw [aS] at this;cases this
theorem WQ {α:Type} {p:α->Bool} {l:List α} {i:Nat} (h:fg p l=some i):i <l.length:=by
 obtain ⟨x,aC,_⟩:=HU h
 exact (List.getElem?_eq_some_iff.1 aC).1
theorem Qr {α ρ:Type} {l:List α} {L:Nat->Int->Option (Way ρ Unit)} (p:α->Bool) (f:Nat->ρ) (ax:l.length<= 140737488355328)
 (a5:∀ k (i:Nat) x,l[i]? =some x->L (k+ 1) (i:Int)=cond (p x) (some (.out (f i))) (L k (ap ((i:Int)+ 1))))
 (he:∀ k,L (k+ 1) (l.length:Int)=some (.go ())) {F:Nat} (bT:l.length <F):L F 0 =some (dx ((fg p l).map f)):=by
 have key:∀ (d i k:Nat),i+d=l.length->d <k->L k (i:Int)=some (dx ((fg p (l.drop i)).map fun j=>f (i+j))):=by
  intro d
  induction d with
  | zero=>
    intro i k h bf
    obtain ⟨k,rfl⟩:∃ k',k=k'+ 1 :=⟨k - 1,by omega⟩
    have hi:i=l.length:=by omega
    subst hi
    rw [he];simp [dx,fg]
  | succ d cn=>
    intro i k h bf
    obtain ⟨k,rfl⟩:∃ k',k=k'+ 1 :=⟨k - 1,by omega⟩
    have hi:i <l.length:=by omega
    rw [a5 k i l[i] (List.getElem?_eq_getElem hi),List.drop_eq_getElem_cons hi,fg]
    cases dd:p l[i] with
    | true=>simp [dx]
    | false=>
      simp only [cond_false,Bool.false_eq_true,if_false]
      rw [gO hi ax,cn (i+ 1) k (by omega) (by omega)]
      congr 2
      rw [Option.map_map]
      congr 1
      funext j
      simp only [Function.comp]
      congr 1
      omega
 have:=key l.length 0 F (by omega) bT
 simpa using this
def jF (nm:List UInt8) (c:aM):Bool:=decide (c.Name=nm)
def dN (l:List aM) (nm:List UInt8):Int:=((fg (jF nm) l).map fun n:Nat=>(n:Int)).getD (-1)
theorem wo {F:Nat} {l:List aM} (h:Small F l.length) (nm:List UInt8):n6 F l nm=some (dN l nm):=by
 unfold n6 dN
 have l1:wm l nm F 0 =some (dx ((fg (jF nm) l).map fun n:Nat=>(n:Int))):=Qr (jF nm) _ h.1 (fun k i x ai=>by
  rw [wm,cC (List.getElem?_eq_some_iff.1 ai).1,cond_true,cc ai,Option.bind_some];rfl) (fun k=>by rw [wm,cB];rfl) h.2
 rw [l1,jU]
 cases fg (jF nm) l <;> rfl
theorem Qg {l:List aM} {nm:List UInt8}:dN l nm <l.length:=by
 unfold dN
 cases h:fg (jF nm) l with
 | none=>simp only [Option.map_none,Option.getD_none];omega
 | some i=>have:=WQ h;simp only [Option.map_some,Option.getD_some];omega
theorem aju {l:List aM} {nm:List UInt8}:dN l nm < 0 ↔ fg (jF nm) l=none:=by
 unfold dN
 cases h:fg (jF nm) l with
 | none=>simp
 | some i=>simp only [Option.map_some,Option.getD_some];constructor <;> intro h <;> first | omega | cases h
theorem aGv {α:Type} {l:List α} {i:Nat} {x:α} (h:l[i]? =some x):l.set i x=l:=by
 obtain ⟨ax,e⟩:=List.getElem?_eq_some_iff.1 h
 rw [<-e,List.set_getElem_self]
theorem KC {α:Type} {b:Nat} {l:List α} (h:l.length*b<= 140737488355328):(ep b ([]:List α) l).bind (fun l=>some l)=some l:=by
 unfold ep
 rw [if_pos (by simpa using h)]
 simp
theorem aFi {F:Nat} {l:List aM} (bT:100 <F) (h:Right l):HH F l=some l:=by
 have ej:∀ (fF:List Method),fF.length<= 8 ->(∀ m ∈ fF,m.bI.length<= 4 /\m.bK.length<= 4)->rb F fF (fF.length:Int) 0 =some fF:=by
  intro fF aJK hm
  refine Ma (n:=fF.length) (fun k i=>rb k fF (fF.length:Int) (i:Int)) fF (fun k i hi=>?_) (fun k=>?_) (F:=F) (by omega)
  · obtain ⟨x,ai⟩:∃ x,fF[i]? =some x:=⟨fF[i],List.getElem?_eq_getElem hi⟩
    have a1:=hm x (List.mem_of_getElem? ai)
    show rb (k+ 1) fF (fF.length:Int) (i:Int)=_
    rw [rb,cC hi,cond_true,cc ai,Option.bind_some]
    unfold MT MS
    rw [KC (by omega),Option.bind_some,KC (by omega),Option.bind_some,Option.bind_some,Option.bind_some]
    have bM:fF.set (i:Int).toNat (⟨x.Name,x.Static,x.bI,(⟨x.Returns.Kind,x.Returns.aM⟩:Kind),x.cR,x.cQ,x.Code,x.bK⟩:Method)=fF:=aGv (i:=i) ai
    simp only [bM,cc ai,Option.bind_some]
    rw [gO hi (by omega)]
  · show rb (k+ 1) fF (fF.length:Int) (fF.length:Int)=_
    rw [rb,cB];rfl
 unfold HH
 have dV:ra F l F [] 0 =some l:=by
  refine Ma (n:=l.length) (fun k i=>ra F l k (l.take i) (i:Int)) l (fun k i hi=>?_) (fun k=>?_) (F:=F) (by have:=h.len;omega)
  · obtain ⟨x,ai⟩:∃ x,l[i]? =some x:=⟨l[i],List.getElem?_eq_getElem hi⟩
    have tV:=List.mem_of_getElem? ai
    have I:=h.fields x tV
    have hm:=h.methods x tV
    have hlen:=h.len
    show ra F l (k+ 1) (l.take i) (i:Int)=_
    rw [ra,cC hi,cond_true,cc ai,Option.bind_some]
    unfold MR MU
    rw [KC (by omega),Option.bind_some,KC (by omega),Option.bind_some,ej x.aQ hm (h.method x tV),Option.bind_some]
    unfold ep
    rw [if_pos (by simp only [List.length_take,List.length_cons,List.length_nil];omega)]
    simp only [Option.bind_some]
    rw [gO hi (by omega)]
    have e:l.take i++[(⟨x.Name,x.bZ,x.Fields,x.aQ⟩:aM)]=l.take (i+ 1):=by
     rw [List.take_add_one,ai];rfl
    rw [e]
  · show ra F l (k+ 1) (l.take l.length) (l.length:Int)=_
    rw [ra,cB,List.take_length];rfl
 rw [dV];rfl
def fH:Nat->List aM->List (List UInt8 × Int)
 | _,[]=>[]
 | k,c::r=>(c.Name,(k:Int))::fH (k+ 1) r
theorem C2 (nm:List UInt8):∀ (l:List aM) (k:Nat),dp (fH k l) nm=(fg (jF nm) l).map fun n:Nat=>((n+k:Nat):Int)
 | [],k=>rfl
 | c::r,k=>by
   simp only [fH,dp,fg,jF]
   by_cases h:c.Name=nm
   · simp [h]
   · simp only [h,if_false,decide_false,Bool.false_eq_true]
     rw [C2 nm r (k+ 1),Option.map_map]
     congr 1
     funext j
     simp only [Function.comp]
     congr 1
     omega
theorem aeV (c:aM):∀ (l:List aM) (k:Nat),fH k (l++[c])=fH k l++[(c.Name,((k+l.length:Nat):Int))]
 | [],k=>by simp [fH]
 | d::r,k=>by
   simp only [List.cons_append,fH,List.length_cons]
   rw [aeV c r (k+ 1)]
   congr 4
   omega
theorem WB {κ β:Type} [DecidableEq κ] {k:κ} {v:β}:∀ {m:List (κ × β)},dp m k=none->hD m k v=m++[(k,v)]
 | [],_=>rfl
 | p::r,h=>by
   simp only [dp] at h
   split at h
   · cases h
   · rename_i eZ
     simp only [hD,if_neg eZ,List.cons_append]
     rw [WB h]
def y0 (l:List aM):Prop:=∀ (i j:Nat) (x y:aM),l[i]? =some x->l[j]? =some y->x.Name=y.Name->i=j
theorem aFe {l:List aM} (h:y0 l) {i:Nat} {x:aM} (hi:l[i]? =some x):dN l x.Name=(i:Int):=by
 unfold dN
 rw [aFr (i:=i) hi (by simp [jF]) (fun j y bc hy=>by
  simp only [jF,decide_eq_false_iff_not]
  intro e
  have:=h j i y x hy hi e
  omega)]
 rfl
theorem aE4 {F:Nat} {l:List aM} (bT:100 <F) (h:Right l) :
 (y0 l/\q' ⟨l,[],[]⟩ F [] 0 =some (.go (fH 0 l))/\rT F l F 0 =some (.go ())) \/
 (¬ y0 l/\(∃ m,q' ⟨l,[],[]⟩ F [] 0 =some (.out (6,m)))/\rT F l F 0 =some (.out 6)):=by
 have hlen:=h.len
 have g2:rT F l F 0 =some (dx ((List.range l.length).findSome? fun i:Nat=>(l[i]?).bind fun x:aM=>if dN l x.Name=(i:Int) then none else some 6)):=kv _ (by omega) (fun k i hi=>by
  obtain ⟨x,ai⟩:∃ x,l[i]? =some x:=⟨l[i],List.getElem?_eq_getElem hi⟩
  rw [rT,cC hi,cond_true,cc ai,Option.bind_some,wo ⟨by omega,by omega⟩,Option.bind_some,ai,Option.bind_some]
  by_cases e:dN l x.Name=(i:Int)
  · rw [if_pos e,decide_eq_true e];rfl
  · rw [if_neg e,decide_eq_false e];rfl) (fun k=>by rw [rT,cB];rfl) (by omega)
 have key:∀ (d i k:Nat),i+d=l.length->d <k->y0 (l.take i) ->
  (y0 l/\q' ⟨l,[],[]⟩ k (fH 0 (l.take i)) i=some (.go (fH 0 l)))\/(¬ y0 l/\ ∃ m,q' ⟨l,[],[]⟩ k (fH 0 (l.take i)) i=some (.out (6,m))):=by
  intro d
  induction d with
  | zero=>
    intro i k hi bf bm
    obtain ⟨k,rfl⟩:∃ k',k=k'+ 1 :=⟨k - 1,by omega⟩
    have e:i=l.length:=by omega
    subst e
    rw [List.take_length] at bm ⊢
    left
    refine ⟨bm,?_⟩
    rw [q',cB];rfl
  | succ d cn=>
    intro i k hi bf bm
    obtain ⟨k,rfl⟩:∃ k',k=k'+ 1 :=⟨k - 1,by omega⟩
    have fZ:i <l.length:=by omega
    obtain ⟨x,ai⟩:∃ x,l[i]? =some x:=⟨l[i],List.getElem?_eq_getElem fZ⟩
    rw [q',cC fZ,cond_true,cc ai,Option.bind_some,C2]
    cases b5:fg (jF x.Name) (l.take i) with
    | some j=>
      right
      obtain ⟨y,aC,aS,_⟩:=HU b5
      refine ⟨fun mC=>?_,_,rfl⟩
      have iR:j <i:=by have:=(List.getElem?_eq_some_iff.1 aC).1;simp only [List.length_take] at this;omega
      have hy:l[j]? =some y:=by rw [List.getElem?_take] at aC;rw [if_pos iR] at aC;exact aC
      have:=mC j i y x hy ai (by simpa [jF] using aS)
      omega
    | none=>
      simp only [Option.map_none,Option.isSome_none,cond_false]
      have azc:dp (fH 0 (l.take i)) x.Name=none:=by rw [C2,b5];rfl
      rw [WB azc,gO fZ (by omega)]
      have bM:l.take (i+ 1)=l.take i++[x]:=by rw [List.take_add_one,ai];rfl
      have b7:fH 0 (l.take i)++[(x.Name,(i:Int))]=fH 0 (l.take (i+ 1)):=by
       rw [bM,aeV]
       congr 4
       simp only [List.length_take];omega
      rw [b7]
      refine cn (i+ 1) k (by omega) (by omega) ?_
      intro a b u v bx a1 Uo
      rw [List.getElem?_take] at bx a1
      split at bx
      · split at a1
        · rename_i aJG iA
          have azj:=WR b5
          have pk:∀ (q:Nat) (z:aM),q <i->l[q]? =some z->z.Name≠x.Name:=fun q z ec cU e=>by
           have:=azj z (List.mem_of_getElem? (i:=q) (by rw [List.getElem?_take,if_pos ec];exact cU))
           simp [jF,e] at this
          by_cases aol:a=i
          · by_cases acF:b=i
            · omega
            · subst aol
              rw [ai] at bx;injection bx with bx;subst bx
              exact absurd Uo.symm (pk b v (by omega) a1)
          · by_cases acF:b=i
            · subst acF
              rw [ai] at a1;injection a1 with a1;subst a1
              exact absurd Uo (pk a u (by omega) bx)
            · exact bm a b u v (by rw [List.getElem?_take,if_pos (by omega)];exact bx) (by rw [List.getElem?_take,if_pos (by omega)];exact a1) Uo
        · cases a1
      · cases bx
 have bJ:=key l.length 0 F (by omega) (by omega) (fun i j x y hi=>by simp at hi)
 have iw:fH 0 (l.take 0)= []:=by simp [fH]
 rw [iw] at bJ
 rcases bJ with ⟨mC,aC⟩ | ⟨mC,aC⟩
 · left
   refine ⟨mC,aC,?_⟩
   rw [g2]
   have:((List.range l.length).findSome? fun i:Nat=>(l[i]?).bind fun x:aM=>if dN l x.Name=(i:Int) then none else some (6 :Int))=none:=by
    rw [List.findSome?_eq_none_iff]
    intro i hi
    obtain ⟨x,ai⟩:∃ x,l[i]? =some x:=⟨l[i]'(by simpa using hi),List.getElem?_eq_getElem _⟩
    rw [ai,Option.bind_some,if_pos (aFe mC ai)]
   rw [this];rfl
 · right
   refine ⟨mC,aC,?_⟩
   rw [g2]
   cases I:((List.range l.length).findSome? fun i:Nat=>(l[i]?).bind fun x:aM=>if dN l x.Name=(i:Int) then none else some (6 :Int)) with
   | some e=>
     obtain ⟨i,_,hi⟩:=List.exists_of_findSome?_eq_some I
     cases ai:l[i]? with
     | none=>rw [ai] at hi;cases hi
     | some x=>
       rw [ai,Option.bind_some] at hi
       split at hi
       · cases hi
       · injection hi with hi;subst hi;rfl
   | none=>
     exfalso
     apply mC
     have oy:∀ (i:Nat) (x:aM),l[i]? =some x->dN l x.Name=(i:Int):=by
      intro i x ai
      have:=List.findSome?_eq_none_iff.1 I i (by have:=(List.getElem?_eq_some_iff.1 ai).1;simpa using this)
      rw [ai,Option.bind_some] at this
      split at this
      · assumption
      · cases this
     intro i j x y ai hy e
     have aC:=oy i x ai
     have aS:=oy j y hy
     rw [e] at aC
     omega
end J
namespace J
def AL {ρ rG:Type} (o:Option ρ) (a:rG):Way ρ rG:=match o with
 | some r=>.out r
 | none=>.go a
def af6 {ρ rG:Type} (o:Option ρ) (y:Option (Way ρ rG)):Option (Way ρ rG):=match o with
 | some r=>some (.out r)
 | none=>y
theorem Py {ρ rG:Type} {n:Nat} (T:Nat->Nat->Option (Way ρ rG)) (g:Nat->Option ρ) (fin:rG) (a5:∀ k i,i <n->T (k+ 1) i=af6 (g i) (T k (i+ 1))) (he:∀ k,T (k+ 1) n=some (.go fin)) {F:Nat} (bT:n <F) :
 T F 0 =some (AL ((List.range n).findSome? g) fin):=by
 have key:∀ (d i k:Nat),i+d=n->d <k->T k i=some (AL (((List.range n).drop i).findSome? g) fin):=by
  intro d
  induction d with
  | zero=>
    intro i k h bf
    obtain ⟨k,rfl⟩:∃ k',k=k'+ 1 :=⟨k - 1,by omega⟩
    have hi:i=n:=by omega
    subst hi
    rw [he,List.drop_of_length_le (by simp)];rfl
  | succ d cn=>
    intro i k h bf
    obtain ⟨k,rfl⟩:∃ k',k=k'+ 1 :=⟨k - 1,by omega⟩
    have hi:i <n:=by omega
    rw [a5 k i hi,List.drop_eq_getElem_cons (by simpa using hi),List.findSome?_cons]
    simp only [List.getElem_range]
    cases dd:g i with
    | some r=>rfl
    | none=>
      simp only [af6]
      exact cn (i+ 1) k (by omega) (by omega)
 have:=key n 0 F (by omega) bT
 simpa using this
theorem KO {α β Yu:Type} (g:α->Option β) (f:β->Yu):∀ l:List α,l.findSome? (fun c=>(g c).map f)=(l.findSome? g).map f
 | []=>rfl
 | c::r=>by
   simp only [List.findSome?_cons]
   cases g c with
   | some e=>rfl
   | none=>simp only [Option.map_none];exact KO g f r
def eo (l:List aM):List Int:=l.map fun c=>dN l c.bZ
theorem XV {l:List aM} {i:Nat} {x:aM} (h:l[i]? =some x):(eo l)[i]? =some (dN l x.bZ):=by simp [eo,h]
def sE (c:aM):Option Int:=if (decide (c.Name= [79,98,106,101,99,116])) == (decide (c.bZ= [])) then none else some 4
def pV (l:List aM) (c:aM):Option Int:=if c.bZ= []\/ 0 <=dN l c.bZ then none else some 5
section
variable {F:Nat} {l:List aM}
theorem aGN (bT:100 <F) (h:Right l):wb l F 0 =some (dx (l.findSome? sE)):=each sE (by have:=h.len;omega) (fun k i x ai=>by
 rw [wb,cC (List.getElem?_eq_some_iff.1 ai).1,cond_true,cc ai,Option.bind_some,Option.bind_some]
 unfold sE
 cases (decide (x.Name= [79,98,106,101,99,116])) == (decide (x.bZ= [])) <;> rfl) (fun k=>by rw [wb,cB];rfl) (by have:=h.len;omega)
theorem aGM (bT:100 <F) (h:Right l) (m:List (List UInt8 × Int)) (s:List Int):uP ⟨l,m,s⟩ F 0 =some (dx ((l.findSome? sE).map fun e=>(e,(⟨l,m,s⟩:df)))):=by
 have:=each (l:=l) (L:=uP ⟨l,m,s⟩) (fun c=>(sE c).map fun e=>(e,(⟨l,m,s⟩:df))) (by have:=h.len;omega) (fun k i x ai=>by
  rw [uP]
  show cond (decide ((i:Int) <(l.length:Int))) ((idx l (i:Int)).bind _) _=_
  rw [cC (List.getElem?_eq_some_iff.1 ai).1,cond_true,cc ai,Option.bind_some]
  unfold sE
  cases (decide (x.Name= [79,98,106,101,99,116])) == (decide (x.bZ= [])) <;> rfl) (fun k=>by
   rw [uP]
   show cond (decide ((l.length:Int) <(l.length:Int))) _ _=_
   rw [cB];rfl) (F:=F) (by have:=h.len;omega)
 rw [this,KO]
theorem aEZ (bT:100 <F) (h:Right l):s4 F l F 0 =some (dx (l.findSome? (pV l))):=each (pV l) (by have:=h.len;omega) (fun k i x ai=>by
 have hlen:=h.len
 rw [s4,cC (List.getElem?_eq_some_iff.1 ai).1,cond_true,cc ai,Option.bind_some,Option.bind_some,wo ⟨by omega,by omega⟩,Option.bind_some]
 unfold pV
 by_cases a5:x.bZ= []
 · rw [if_pos (.inl a5),decide_eq_true a5];rfl
 · rw [decide_eq_false a5]
   by_cases hc:0 <=dN l x.bZ
   · rw [if_pos (.inr hc),decide_eq_false (show ¬ dN l x.bZ < 0 by omega)];rfl
   · rw [if_neg (by simp [a5,hc]),decide_eq_true (show dN l x.bZ < 0 by omega)];rfl) (fun k=>by rw [s4,cB];rfl) (by have:=h.len;omega)
theorem ajv (h:Right l):dN l []= -1 :=by
 unfold dN
 cases b5:fg (jF []) l with
 | none=>rfl
 | some i=>
   obtain ⟨x,aC,aS,_⟩:=HU b5
   have:=aEs (h.name x (List.mem_of_getElem? aC))
   simp [jF] at aS
   exact absurd aS this
theorem aEY (bT:100 <F) (h:Right l):∃ o:Option (Int × df),o.map (·.1)=l.findSome? (pV l)/\oM ⟨l,fH 0 l,[]⟩ F [] 0 =some (AL o (eo l)):=by
 have hlen:=h.len
 refine ⟨(List.range l.length).findSome? fun i=>((l[i]?).bind (pV l)).map fun e=>(e,(⟨l,fH 0 l,(eo l).take i⟩:df)),?_,?_⟩
 · have bM:∀ (n:Nat),n<=l.length->((List.range' (l.length - n) n).findSome? fun i=>((l[i]?).bind (pV l)).map fun e=>(e,(⟨l,fH 0 l,(eo l).take i⟩:df))).map (·.1)=(l.drop (l.length - n)).findSome? (pV l):=by
    intro n
    induction n with
    | zero=>intro _;simp
    | succ n cn=>
      intro af
      have hi:l.length - (n+ 1) <l.length:=by omega
      rw [List.range'_succ,List.findSome?_cons,List.drop_eq_getElem_cons hi,List.findSome?_cons,List.getElem?_eq_getElem hi,Option.bind_some]
      cases pV l l[l.length - (n+ 1)] with
      | some e=>rfl
      | none=>
        simp only [Option.map_none]
        rw [show l.length - (n+ 1)+ 1 =l.length - n by omega]
        exact cn (by omega)
   have:=bM l.length (Nat.le_refl _)
   simpa [List.range_eq_range'] using this
 · refine Py (n:=l.length) (fun k i=>oM ⟨l,fH 0 l,[]⟩ k ((eo l).take i) (i:Int)) _ (eo l) (fun k i hi=>?_) (fun k=>?_) (F:=F) (by omega)
   · obtain ⟨x,ai⟩:∃ x,l[i]? =some x:=⟨l[i],List.getElem?_eq_getElem hi⟩
     show oM ⟨l,fH 0 l,[]⟩ (k+ 1) ((eo l).take i) (i:Int)=_
     rw [oM]
     show cond (decide ((i:Int) <(l.length:Int))) (dY (α:=List Int) ((idx l (i:Int)).bind _) _) _=_
     rw [cC hi,cond_true,cc ai,Option.bind_some,ai,Option.bind_some]
     have ac':dp (fH 0 l) x.bZ=(fg (jF x.bZ) l).map fun n:Nat=>((n+ 0 :Nat):Int):=C2 x.bZ l 0
     have ez:(eo l).take (i+ 1)=(eo l).take i++[dN l x.bZ]:=by rw [List.take_add_one,XV ai];rfl
     have Q4:ep 8 ((eo l).take i) [dN l x.bZ]=some ((eo l).take (i+ 1)):=by
      unfold ep
      rw [if_pos (by simp only [List.length_take,List.length_cons,List.length_nil];omega),ez]
     have fin:∀ n:Int,n=dN l x.bZ->dY (α:=List Int) (dY (α:=Int) (ρ:=Int × df) (some (.go n)) fun (rc:Int)=>(ep 8 ((eo l).take i) [rc]).bind fun CM=>some (.go CM)) (fun (q7:List Int)=>oM ⟨l,fH 0 l,[]⟩ k q7 (ap ((i:Int)+ 1)))=oM ⟨l,fH 0 l,[]⟩ k ((eo l).take (i+ 1)) ((i+ 1 :Nat):Int):=by
      intro n af
      subst af
      rw [nS,Q4,Option.bind_some,nS,gO hi (by omega)]
     unfold pV
     by_cases a5:x.bZ= []
     · rw [if_pos (.inl a5),decide_eq_true a5,cond_true]
       exact fin (-1) (by rw [a5,ajv h])
     · rw [decide_eq_false a5,cond_false]
       cases b5:fg (jF x.bZ) l with
       | none=>
         have G_:dN l x.bZ < 0 :=aju.2 b5
         rw [if_neg (by simp [a5];omega),ac',b5]
         rfl
       | some j=>
         have q3:dN l x.bZ=(j:Int):=by unfold dN;rw [b5];rfl
         rw [if_pos (.inr (by omega)),ac',b5]
         exact fin _ (by rw [q3];simp)
   · show oM ⟨l,fH 0 l,[]⟩ (k+ 1) ((eo l).take l.length) (l.length:Int)=_
     rw [oM]
     show cond (decide ((l.length:Int) <(l.length:Int))) _ _=_
     rw [cB,cond_false,List.take_of_length_le (by simp [eo])]
def eB (S:List Int):Nat->Int->Option (List Int)
 | 0,n=>if n < 0 then some [] else none
 | k+ 1,n=>if n < 0 then some [] else (idx S n).bind fun m=>(eB S k m).map (n:: ·)
theorem afZ {S:List Int}:∀ {k:Nat} {n:Int} {c:List Int},eB S k n=some c->eB S (k+ 1) n=some c
 | 0,n,c,h=>by
   simp only [eB] at h ⊢
   split at h
   · rename_i af;rw [if_pos af];exact h
   · cases h
 | k+ 1,n,c,h=>by
   rw [eB] at h ⊢
   split at h
   · rename_i af;rw [if_pos af];exact h
   · rename_i af
     rw [if_neg af]
     cases hi:idx S n with
     | none=>rw [hi] at h;cases h
     | some m=>
       rw [hi,Option.bind_some] at h
       rw [Option.bind_some]
       cases hu:eB S k m with
       | none=>rw [hu] at h;cases h
       | some dM=>rw [hu] at h;rw [afZ hu];exact h
theorem M8 {S:List Int} {k k':Nat} {n:Int} {c:List Int} (h:eB S k n=some c) (bf:k<=k'):eB S k' n=some c:=by
 obtain ⟨d,rfl⟩:∃ d,k'=k+d:=⟨k' - k,by omega⟩
 clear bf
 induction d with
 | zero=>exact h
 | succ d cn=>exact afZ cn
theorem aG1 {S:List Int} {k k':Nat} {n:Int} {c dM:List Int} (h:eB S k n=some c) (dK:eB S k' n=some dM):c=dM:=by
 have aC:=M8 h (Nat.le_max_left k k')
 have aS:=M8 dK (Nat.le_max_right k k')
 rw [aC] at aS
 exact Option.some.inj aS
theorem afY {S:List Int}:∀ {k:Nat} {n:Int} {c:List Int},eB S k n=some c->c.length<=k/\eB S c.length n=some c
 | 0,n,c,h=>by
   simp only [eB] at h
   split at h
   · rename_i af
     injection h with h
     subst h
     simp [eB,af]
   · cases h
 | k+ 1,n,c,h=>by
   have bJ:=h
   rw [eB] at h
   split at h
   · rename_i af
     injection h with h
     subst h
     simp [eB,af]
   · rename_i af
     cases hi:idx S n with
     | none=>rw [hi] at h;cases h
     | some m=>
       rw [hi,Option.bind_some] at h
       cases hu:eB S k m with
       | none=>rw [hu] at h;cases h
       | some dM=>
         rw [hu] at h
         simp only [Option.map_some,Option.some.injEq] at h
         subst h
         obtain ⟨aC,aS⟩:=afY hu
         refine ⟨by simpa using aC,?_⟩
         rw [List.length_cons,eB,if_neg af,hi,Option.bind_some,aS];rfl
theorem M9 {S:List Int}:∀ {k:Nat} {n:Int} {c:List Int},eB S k n=some c-> ∀ x ∈ c,(0 <=x/\x <S.length)/\ ∃ k' dM,eB S k' x=some dM/\dM.length<=c.length/\dM≠ []
 | 0,n,c,h,x,ai=>by
   simp only [eB] at h
   split at h
   · injection h with h;subst h;cases ai
   · cases h
 | k+ 1,n,c,h,x,ai=>by
   have bJ:=h
   rw [eB] at h
   split at h
   · injection h with h;subst h;cases ai
   · rename_i af
     cases hi:idx S n with
     | none=>rw [hi] at h;cases h
     | some m=>
       rw [hi,Option.bind_some] at h
       cases hu:eB S k m with
       | none=>rw [hu] at h;cases h
       | some dM=>
         rw [hu] at h
         simp only [Option.map_some,Option.some.injEq] at h
         subst h
         obtain ⟨aJi,j7,_⟩:=t' hi
         rcases List.mem_cons.1 ai with rfl | e
         · exact ⟨⟨by omega,by omega⟩,k+ 1,_,bJ,Nat.le_refl _,by simp⟩
         · obtain ⟨aC,k',ej,aS,bV,er⟩:=M9 hu x e
           exact ⟨aC,k',ej,aS,by simp only [List.length_cons];omega,er⟩
theorem afX {S:List Int}:∀ {k:Nat} {n:Int} {c:List Int},eB S k n=some c->c.Nodup
 | 0,n,c,h=>by
   simp only [eB] at h
   split at h
   · injection h with h;subst h;simp
   · cases h
 | k+ 1,n,c,h=>by
   have bJ:=h
   rw [eB] at h
   split at h
   · injection h with h;subst h;simp
   · cases hi:idx S n with
     | none=>rw [hi] at h;cases h
     | some m=>
       rw [hi,Option.bind_some] at h
       cases hu:eB S k m with
       | none=>rw [hu] at h;cases h
       | some dM=>
         rw [hu] at h
         simp only [Option.map_some,Option.some.injEq] at h
         subst h
         refine List.nodup_cons.2 ⟨fun pk=>?_,afX hu⟩
         obtain ⟨_,k',ej,aS,bV,_⟩:=M9 hu n pk
         have:=aG1 bJ aS
         subst this
         simp only [List.length_cons] at bV
         omega
theorem WN:∀ (n:Nat) (c:List Nat),c.Nodup->(∀ x ∈ c,x <n)->c.length<=n
 | 0,c,_,h=>by
   cases c with
   | nil=>simp
   | cons x r=>exact absurd (h x (by simp)) (by omega)
 | n+ 1,c,bW,h=>by
   by_cases af:n ∈ c
   · have aC:=WN n (c.erase n) (bW.erase n) (fun x ai=>by
      have aS:=(bW.mem_erase_iff).1 ai
      have:=h x aS.2
      omega)
     rw [List.length_erase_of_mem af] at aC
     omega
   · have:=WN n c bW (fun x ai=>by
      have aC:=h x ai
      have:x≠n:=fun e=>af (e ▸ ai)
      omega)
     omega
theorem afW {S:List Int} {k:Nat} {n:Int} {c:List Int} (h:eB S k n=some c):c.length<=S.length:=by
 have b5:=M9 h
 have bW:=afX h
 have:=WN S.length (c.map Int.toNat) (by
  rw [List.Nodup,List.pairwise_map]
  refine List.Pairwise.imp_of_mem ?_ bW
  intro a b bx a1 K2 e
  have aC:=(b5 a bx).1
  have aS:=(b5 b a1).1
  exact K2 (by omega)) (fun x ai=>by
  obtain ⟨y,hy,rfl⟩:=List.mem_map.1 ai
  have aC:=(b5 y hy).1
  omega)
 simpa using this
theorem aG0 {S:List Int} {k:Nat} {n:Int} (bf:S.length<=k):eB S k n=eB S S.length n:=by
 cases h:eB S k n with
 | some c=>
   obtain ⟨_,aS⟩:=afY h
   exact (M8 aS (afW h)).symm
 | none=>
   cases dK:eB S S.length n with
   | none=>rfl
   | some c=>rw [M8 dK bf] at h;cases h
theorem ajp {m:List (List UInt8 × Int)} {S:List Int} {k:Nat} {n:Int} {c:List Int} (h:eB S k n=some c) (hc:c.length<= 1000) (bT:1001 <F):uR F ⟨l,m,S⟩ n=some c:=by
 have key:∀ (k:Nat) (n:Int) (c acc:List Int) (f:Nat),eB S k n=some c->c.length <f->acc.length+c.length<= 1000 ->uS ⟨l,m,S⟩ f acc n=some (acc++c):=by
  intro k
  induction k with
  | zero=>
    intro n c acc f h I _
    obtain ⟨f,rfl⟩:∃ eW,f=eW+ 1 :=⟨f - 1,by omega⟩
    simp only [eB] at h
    split at h
    · injection h with h
      subst h
      rw [uS,decide_eq_false (by omega)]
      simp
    · cases h
  | succ k cn=>
    intro n c acc f h I ax
    obtain ⟨f,rfl⟩:∃ eW,f=eW+ 1 :=⟨f - 1,by omega⟩
    rw [eB] at h
    split at h
    · injection h with h
      subst h
      rw [uS,decide_eq_false (by omega)]
      simp
    · rename_i af
      cases hi:idx S n with
      | none=>rw [hi] at h;cases h
      | some x=>
        rw [hi,Option.bind_some] at h
        cases hu:eB S k x with
        | none=>rw [hu] at h;cases h
        | some dM=>
          rw [hu] at h
          simp only [Option.map_some,Option.some.injEq] at h
          subst h
          simp only [List.length_cons] at I ax
          rw [uS,decide_eq_true (by omega),cond_true]
          unfold ep
          rw [if_pos (by simp only [List.length_cons,List.length_nil];omega)]
          show ((some (acc++[n])).bind fun Hz=>(idx S n).bind fun gP=>_)=_
          rw [Option.bind_some,hi,Option.bind_some,cn x dM (acc++[n]) f hu (by omega) (by simp only [List.length_append,List.length_cons,List.length_nil];omega)]
          simp
 unfold uR
 rw [key k n c [] F h (by omega) (by simp;omega)]
 rfl
end
end J
namespace J
section
variable {F:Nat} {l:List aM}
theorem Dl:(eo l).length=l.length:=by simp [eo]
theorem vb {n:Int} (bJ:0 <=n) (aC:n <l.length):∃ x,idx l n=some x/\idx (eo l) n=some (dN l x.bZ):=by
 obtain ⟨x,ai⟩:∃ x,l[n.toNat]? =some x:=⟨l[n.toNat]'(by omega),List.getElem?_eq_getElem _⟩
 refine ⟨x,?_,?_⟩
 · unfold idx;rw [if_pos bJ,ai]
 · unfold idx;rw [if_pos bJ,XV ai]
def X1 (o:Option (List Int)) (acc:List Int):Way (List Int) (List Int):=match o with
 | some c=>.go (c.reverse++acc)
 | none=>.out []
def eD (l:List aM) (n:Int):List Int:=(eB (eo l) l.length n).getD []
theorem M7 (bT:1100 <F) (h:Right l) {n:Int} (aC:n <l.length):wH F l n=some (eD l n).reverse:=by
 have hlen:=h.len
 have key:∀ (d:Nat) (acc:List Int) (n:Int) (f:Nat),acc.length+d=l.length+ 1 ->d+ 1 <f->n <l.length->wI F l f n acc=some (X1 (eB (eo l) d n) acc):=by
  intro d
  induction d with
  | zero=>
    intro acc n f bx I af
    obtain ⟨f,rfl⟩:∃ eW,f=eW+ 1 :=⟨f - 1,by omega⟩
    rw [wI,eB]
    by_cases bJ:n < 0
    · rw [if_pos bJ,decide_eq_false (by omega)];rfl
    · rw [if_neg bJ,decide_eq_true (by omega),cond_true,decide_eq_true (by omega)];rfl
  | succ d cn=>
    intro acc n f bx I af
    obtain ⟨f,rfl⟩:∃ eW,f=eW+ 1 :=⟨f - 1,by omega⟩
    rw [wI,eB]
    by_cases bJ:n < 0
    · rw [if_pos bJ,decide_eq_false (by omega)];rfl
    · obtain ⟨x,ai,a5⟩:=vb (l:=l) (n:=n) (by omega) af
      rw [if_neg bJ,decide_eq_true (by omega),cond_true,decide_eq_false (by omega),cond_false]
      unfold ep
      rw [if_pos (by simp only [List.length_cons,List.length_nil];omega)]
      show ((some ([n]++acc)).bind fun HA=>(idx l n).bind fun AO=>_)=_
      rw [Option.bind_some,ai,Option.bind_some,wo ⟨by omega,by omega⟩,Option.bind_some,a5,Option.bind_some,cn ([n]++acc) _ f (by simp only [List.length_append,List.length_cons,List.length_nil];omega) (by omega) Qg]
      cases eB (eo l) d (dN l x.bZ) with
      | none=>rfl
      | some c=>simp [X1]
 unfold wH
 rw [key (l.length+ 1) [] n F (by simp) (by omega) aC,aG0 (k:=l.length+ 1) (by rw [Dl];omega),Dl]
 unfold eD
 cases eB (eo l) l.length n with
 | none=>rfl
 | some c=>simp [X1,dr]
def tw (l:List aM) (i:Nat):Option Int:=if (eB (eo l) l.length (i:Int)).isSome then none else some 4
theorem X0 {S:List Int} {k:Nat} {n:Int} {c:List Int} (h:eB S k n=some c) (bJ:0 <=n):∃ r,c=n::r:=by
 cases k with
 | zero=>simp only [eB] at h;rw [if_neg (by omega)] at h;cases h
 | succ k=>
   rw [eB,if_neg (by omega)] at h
   cases hi:idx S n with
   | none=>rw [hi] at h;cases h
   | some m=>
     rw [hi,Option.bind_some] at h
     cases hu:eB S k m with
     | none=>rw [hu] at h;cases h
     | some dM=>rw [hu] at h;simp only [Option.map_some,Option.some.injEq] at h;exact ⟨dM,h.symm⟩
theorem ajN (bT:1100 <F) (h:Right l):wc F l F 0 =some (dx ((List.range l.length).findSome? (tw l))):=kv _ (by have:=h.len;omega) (fun k i hi=>by
 rw [wc,cC hi,cond_true,M7 bT h (by omega),Option.bind_some]
 unfold tw eD
 cases hu:eB (eo l) l.length (i:Int) with
 | none=>rfl
 | some c=>
   obtain ⟨r,rfl⟩:=X0 hu (by omega)
   rw [decide_eq_false (by simp;omega)]
   rfl) (fun k=>by rw [wc,cB];rfl) (by have:=h.len;omega)
theorem abM (h:Right l) (m:List (List UInt8 × Int)) (s:List Int):∀ (d i f:Nat) (n:Int),i+d=l.length->d <f-> 0 <=n->n <l.length-> ∃ r,xW ⟨l,m,s⟩ (eo l) f n i=some r/\(r < 0 ↔ (eB (eo l) d n).isSome=true)
 | 0,i,f,n,hi,I,bJ,af=>by
   obtain ⟨f,rfl⟩:∃ eW,f=eW+ 1 :=⟨f - 1,by omega⟩
   have:i=l.length:=by omega
   subst this
   refine ⟨n,?_,?_⟩
   · rw [xW]
     show cond (decide ((l.length:Int) <(l.length:Int))) _ _=_
     rw [cB];rfl
   · rw [eB,if_neg (by omega)];simp;omega
 | d+ 1,i,f,n,hi,I,bJ,af=>by
   obtain ⟨f,rfl⟩:∃ eW,f=eW+ 1 :=⟨f - 1,by omega⟩
   obtain ⟨x,ai,a5⟩:=vb (l:=l) (n:=n) bJ af
   have hlen:=h.len
   rw [xW]
   have hc:decide ((i:Int) <((⟨l,m,s⟩:df).l.length:Int))=true:=cC (n:=l.length) (by omega)
   rw [hc,cond_true,a5,Option.bind_some,eB,if_neg (by omega),a5,Option.bind_some]
   by_cases G_:dN l x.bZ < 0
   · rw [decide_eq_true G_,cond_true]
     refine ⟨_,rfl,?_⟩
     have:eB (eo l) d (dN l x.bZ)=some []:=by cases d <;> simp [eB,G_]
     rw [this];simp [G_]
   · rw [decide_eq_false G_,cond_false,gO (n:=l.length) (by omega) (by omega)]
     obtain ⟨r,aC,aS⟩:=abM h m s d (i+ 1) f (dN l x.bZ) (by omega) (by omega) (by omega) Qg
     refine ⟨r,aC,aS.trans ?_⟩
     simp
theorem ajM (bT:1100 <F) (h:Right l) (m:List (List UInt8 × Int)) (s:List Int):uQ F ⟨l,m,s⟩ (eo l) F 0 =some (dx (((List.range l.length).findSome? (tw l)).map fun e=>(e,(⟨l,m,eo l⟩:df)))):=by
 have hlen:=h.len
 have:=kv (n:=l.length) (L:=uQ F ⟨l,m,s⟩ (eo l)) (fun i=>(tw l i).map fun e=>(e,(⟨l,m,eo l⟩:df))) (by omega) (fun k i hi=>by
  rw [uQ]
  have hc:decide ((i:Int) <((⟨l,m,s⟩:df).l.length:Int))=true:=cC (n:=l.length) hi
  obtain ⟨r,aC,aS⟩:=abM h m s l.length 0 F (i:Int) (by omega) (by omega) (by omega) (by omega)
  rw [hc,cond_true,show (0 :Int)=((0 :Nat):Int) from rfl,aC]
  simp only [Option.bind_some]
  unfold tw
  cases hu:(eB (eo l) l.length (i:Int)).isSome with
  | true=>rw [if_pos rfl,decide_eq_false (show ¬ ((0 :Nat):Int)<=r from fun bR=>by have:=aS.2 hu;omega)];rfl
  | false=>rw [if_neg (by simp),decide_eq_true (show ((0 :Nat):Int)<=r from by
   rcases Int.lt_or_le r 0 with bR | bR
   · have:=aS.1 bR;rw [hu] at this;cases this
   · exact bR)];rfl) (fun k=>by
    rw [uQ]
    show cond (decide ((l.length:Int) <(l.length:Int))) _ _=_
    rw [cB];rfl) (F:=F) (by omega)
 rw [this,KO]
structure h' (l:List aM):Prop where
 right:Right l
 aJT:y0 l
 aJS:∀ c ∈ l,c.bZ= []\/ 0 <=dN l c.bZ
 up:∀ i,i <l.length-> ∃ c,eB (eo l) l.length (i:Int)=some c
 top:∀ c ∈ l,sE c=none
 obj:0 <=dN l [79,98,106,101,99,116]
theorem h'.chain (h:h' l) {n:Int} (bJ:0 <=n) (aC:n <l.length):eB (eo l) l.length n=some (eD l n)/\(eD l n).length<= 10 /\(∀ x ∈ eD l n,0 <=x/\x <l.length):=by
 obtain ⟨c,hc⟩:=h.up n.toNat (by omega)
 rw [show ((n.toNat:Nat):Int)=n by omega] at hc
 have e:eD l n=c:=by unfold eD;rw [hc];rfl
 rw [e]
 refine ⟨hc,?_,fun x ai=>?_⟩
 · have:=afW hc;rw [Dl] at this;have:=h.right.len;omega
 · have:=(M9 hc x ai).1;rw [Dl] at this;exact this
theorem h'.Wu (h:h' l) (bT:1100 <F) (m:List (List UInt8 × Int)) {n:Int} (bJ:0 <=n) (aC:n <l.length):uR F ⟨l,m,eo l⟩ n=some (eD l n):=by
 obtain ⟨hc,ax,_⟩:=h.chain bJ aC
 exact ajp (l:=l) hc (by omega) (by omega)
def ns (l:List aM) (i:Int):List Field:=((idx l i).map (·.Fields)).getD []
def gk (l:List aM) (n:Int):List Field:=(eD l n).reverse.flatMap (ns l)
theorem Qs (h:Right l) (i:Int):(ns l i).length<= 6 :=by
 unfold ns
 cases ai:idx l i with
 | none=>simp
 | some x=>
   obtain ⟨_,_,aS⟩:=t' ai
   exact h.fields x (List.mem_of_getElem? aS)
theorem Qt (h:Right l):∀ r:List Int,(r.flatMap (ns l)).length<= 6 *r.length
 | []=>by simp
 | x::r=>by
   have aC:=Qs h x
   have aS:=Qt h r
   simp only [List.flatMap_cons,List.length_append,List.length_cons]
   omega
theorem ab8 (h:Right l) (m:List (List UInt8 × Int)) (s:List Int):∀ (rem:List Int) (acc:List Field),(∀ x ∈ rem,0 <=x/\x <l.length)->acc.length+ 6 *rem.length<= 1000 ->xY ⟨l,m,s⟩ rem acc=some (acc++rem.flatMap (ns l))
 | [],acc,_,_=>by simp [xY]
 | x::rem,acc,ai,ax=>by
   obtain ⟨c,hc,_⟩:=vb (l:=l) (ai x (by simp)).1 (ai x (by simp)).2
   have I:ns l x=c.Fields:=by unfold ns;rw [hc];rfl
   have aC:=Qs h x
   rw [I] at aC
   simp only [List.length_cons] at ax
   rw [xY]
   show ((idx l x).bind fun yH=>_)=_
   rw [hc,Option.bind_some]
   unfold ep
   rw [if_pos (by omega),Option.bind_some,ab8 h m s rem _ (fun y hy=>ai y (by simp [hy])) (by simp only [List.length_append];omega),List.flatMap_cons,I]
   simp
theorem h'.Wv (h:h' l) (bT:1100 <F) (m:List (List UInt8 × Int)) {n:Int} (bJ:0 <=n) (aC:n <l.length):xX F ⟨l,m,eo l⟩ n=some (gk l n):=by
 obtain ⟨_,ax,hm⟩:=h.chain bJ aC
 unfold xX
 have:=h.Wu bT m bJ aC
 simp only at this ⊢
 rw [this,Option.bind_some]
 unfold H8
 rw [Option.bind_some,ab8 h.right m (eo l) _ [] (fun x ai=>hm x (by simpa using ai)) (by simp;omega)]
 simp [gk]
theorem h'.XK (h:h' l) (bT:1100 <F) {n:Int} (bJ:0 <=n) (aC:n <l.length):y1 F l n=some (gk l n):=by
 obtain ⟨_,ax,hm⟩:=h.chain bJ aC
 unfold y1
 rw [M7 bT h.right aC,Option.bind_some]
 have:qv l (eD l n).reverse F [] 0 =some (gk l n):=by
  refine Ma (n:=(eD l n).reverse.length) (fun k i=>qv l (eD l n).reverse k (((eD l n).reverse.take i).flatMap (ns l)) (i:Int)) (gk l n) (fun k i hi=>?_) (fun k=>?_) (F:=F) (by simp;omega)
  · obtain ⟨x,ai⟩:∃ x,(eD l n).reverse[i]? =some x:=⟨(eD l n).reverse[i],List.getElem?_eq_getElem hi⟩
    have a1:=hm x (by simpa using List.mem_of_getElem? ai)
    obtain ⟨c,hc,_⟩:=vb (l:=l) a1.1 a1.2
    have I:ns l x=c.Fields:=by unfold ns;rw [hc];rfl
    have aS:=Qs h.right x
    rw [I] at aS
    have bV:=Qt h.right ((eD l n).reverse.take i)
    simp only [List.length_take,List.length_reverse] at bV hi
    show qv l (eD l n).reverse (k+ 1) (((eD l n).reverse.take i).flatMap (ns l)) (i:Int)=_
    rw [qv,cC (by simpa using hi),cond_true,cc ai,Option.bind_some,hc,Option.bind_some]
    unfold ep
    rw [if_pos (by omega),Option.bind_some,gO (n:=(eD l n).length) hi (by omega),List.take_add_one,ai,List.flatMap_append]
    simp [I]
  · show qv l (eD l n).reverse (k+ 1) (((eD l n).reverse.take (eD l n).reverse.length).flatMap (ns l)) ((eD l n).reverse.length:Int)=_
    rw [qv,cB,List.take_length];rfl
 rw [this];rfl
end
end J
namespace J
section
variable {F:Nat} {l:List aM}
abbrev n_:=List (List UInt8) × List Target
def oH (nm:List UInt8) (x:List UInt8):Bool:=decide (nm=x)
def tc (p:n_) (nm:List UInt8) (t:Target):n_:=match fg (oH nm) p.1 with
 | some k=>(p.1,p.2.set k t)
 | none=>(p.1 ++[nm],p.2 ++[t])
def qB (ci:Int):List Method->Nat->n_->n_
 | [],_,p=>p
 | m::r,k,p=>qB ci r (k+ 1) (tc p m.Name ⟨ci,k⟩)
def fF (l:List aM) (i:Int):List Method:=((idx l i).map (·.aQ)).getD []
def wL (l:List aM):List Int->n_->n_
 | [],p=>p
 | ci::r,p=>wL l r (qB ci (fF l ci) 0 p)
def tab (l:List aM) (n:Int):n_:=wL l (eD l n).reverse ([],[])
theorem PA {p:n_} {nm:List UInt8} {t:Target} (h:p.1.length=p.2.length):(tc p nm t).1.length=(tc p nm t).2.length/\(tc p nm t).1.length<=p.1.length+ 1 :=by
 unfold tc
 cases fg (oH nm) p.1 with
 | some k=>simp [h]
 | none=>simp [h]
theorem Pz {ci:Int}:∀ {r:List Method} {k:Nat} {p:n_},p.1.length=p.2.length->(qB ci r k p).1.length=(qB ci r k p).2.length/\(qB ci r k p).1.length<=p.1.length+r.length
 | [],_,p,h=>⟨h,Nat.le_refl _⟩
 | m::r,k,p,h=>by
   obtain ⟨aC,aS⟩:=PA (nm:=m.Name) (t:=⟨ci,k⟩) h
   obtain ⟨bV,er⟩:=Pz (ci:=ci) (r:=r) (k:=k+ 1) aC
   exact ⟨bV,by simp only [qB,List.length_cons];omega⟩
theorem aEj {e0:List (List UInt8)} (h:Small F e0.length) (nm:List UInt8):Ii F e0 nm=some (((fg (oH nm) e0).map fun n:Nat=>(n:Int)).getD (-1)):=by
 unfold Ii
 have l1:yv e0 nm F 0 =some (dx ((fg (oH nm) e0).map fun n:Nat=>(n:Int))):=Qr (oH nm) _ h.1 (fun k i x ai=>by
  rw [yv,cC (List.getElem?_eq_some_iff.1 ai).1,cond_true,cc ai,Option.bind_some];rfl) (fun k=>by rw [yv,cB];rfl) h.2
 rw [l1,jU]
 cases fg (oH nm) e0 <;> rfl
theorem afP (bT:1100 <F) (ci:Int) (c:aM) (hc:c.aQ.length<= 8):∀ (d i f:Nat) (p:n_),i+d=c.aQ.length->d <f->p.1.length=p.2.length->p.1.length+d<= 1000 ->
 x4 F ci c f p.1 p.2 (i:Int)=some (qB ci (c.aQ.drop i) i p)
 | 0,i,f,p,hi,I,b5,_=>by
   obtain ⟨f,rfl⟩:∃ eW,f=eW+ 1 :=⟨f - 1,by omega⟩
   have:i=c.aQ.length:=by omega
   subst this
   rw [x4,cB,List.drop_of_length_le (Nat.le_refl _)];rfl
 | d+ 1,i,f,p,hi,I,b5,ax=>by
   obtain ⟨f,rfl⟩:∃ eW,f=eW+ 1 :=⟨f - 1,by omega⟩
   have fZ:i <c.aQ.length:=by omega
   obtain ⟨aC,aS⟩:=PA (nm:=c.aQ[i].Name) (t:=⟨ci,i⟩) b5
   have next:=afP bT ci c hc d (i+ 1) f (tc p c.aQ[i].Name ⟨ci,i⟩) (by omega) (by omega) aC (by omega)
   rw [x4,cC fZ,cond_true,cc (List.getElem?_eq_getElem fZ),Option.bind_some,aEj ⟨by omega,by omega⟩,Option.bind_some,List.drop_eq_getElem_cons fZ,qB,<-next]
   unfold tc
   cases TY:fg (oH c.aQ[i].Name) p.1 with
   | some k=>
     have bf:=WQ TY
     simp only [Option.map_some,Option.getD_some]
     rw [decide_eq_true (show (0 :Int)<=(k:Int) by omega),cond_true,cc (List.getElem?_eq_getElem (show k <p.2.length by omega)),Option.bind_some,Option.bind_some,Option.bind_some,gO fZ (by omega)]
     simp
   | none=>
     simp only [Option.map_none,Option.getD_none]
     rw [decide_eq_false (show ¬ (0 :Int)<= -1 by decide),cond_false]
     unfold ep
     rw [if_pos (by simp only [List.length_cons,List.length_nil];omega),Option.bind_some,if_pos (by simp only [List.length_cons,List.length_nil];omega),Option.bind_some,Option.bind_some,gO fZ (by omega)]
theorem aeS (h:Right l) (i:Int):(fF l i).length<= 8 :=by
 unfold fF
 cases ai:idx l i with
 | none=>simp
 | some x=>
   obtain ⟨_,_,aS⟩:=t' ai
   exact h.methods x (List.mem_of_getElem? aS)
theorem afO (bT:1100 <F) (h:Right l) (m:List (List UInt8 × Int)) (s:List Int):∀ (rem:List Int) (p:n_),(∀ x ∈ rem,0 <=x/\x <l.length)->p.1.length=p.2.length->p.1.length+ 8 *rem.length<= 900 ->
 x3 F ⟨l,m,s⟩ rem p.1 p.2 =some (wL l rem p)
 | [],p,_,_,_=>by simp [x3,wL]
 | x::rem,p,ai,b5,ax=>by
   obtain ⟨c,hc,_⟩:=vb (l:=l) (ai x (by simp)).1 (ai x (by simp)).2
   have hm:fF l x=c.aQ:=by unfold fF;rw [hc];rfl
   have r8:=aeS h x
   have FF:=r8
   rw [hm] at FF
   simp only [List.length_cons] at ax
   obtain ⟨j7,kV⟩:=Pz (ci:=x) (r:=fF l x) (k:=0) b5
   rw [x3]
   show (Option.bind (α:=(List (List UInt8)) × (List Target)) ((idx l x).bind fun gE=>_) _)=_
   rw [hc,Option.bind_some]
   have:=afP bT x c FF c.aQ.length 0 F p (by omega) (by omega) b5 (by omega)
   rw [show ((0 :Nat):Int)= 0 from rfl] at this
   rw [this,List.drop_zero,Option.bind_some,Option.bind_some,wL,<-hm]
   exact afO bT h m s rem _ (fun y hy=>ai y (by simp [hy])) j7 (by omega)
theorem h'.aEN (h:h' l) (bT:1100 <F) (m:List (List UInt8 × Int)) {n:Int} (bJ:0 <=n) (aC:n <l.length):HF F ⟨l,m,eo l⟩ n=some (tab l n):=by
 obtain ⟨_,ax,hm⟩:=h.chain bJ aC
 unfold HF
 have:=h.Wu bT m bJ aC
 simp only at this ⊢
 rw [this,Option.bind_some]
 unfold H8
 rw [Option.bind_some,afO bT h.right m (eo l) _ ([],[]) (fun x ai=>hm x (by simpa using ai)) rfl (by simp;omega)]
 rfl
theorem aGI (e0:List (List UInt8)) (m:Method) (h:Small F e0.length):s9 e0 m F 0 =some (((fg (oH m.Name) e0).getD e0.length:Nat):Int):=by
 have key:∀ (d i f:Nat),i+d=e0.length->d <f->s9 e0 m f (i:Int)=some ((i+(fg (oH m.Name) (e0.drop i)).getD d:Nat):Int):=by
  intro d
  induction d with
  | zero=>
    intro i f hi I
    obtain ⟨f,rfl⟩:∃ eW,f=eW+ 1 :=⟨f - 1,by omega⟩
    have:i=e0.length:=by omega
    subst this
    rw [s9,cB,List.drop_of_length_le (Nat.le_refl _)];rfl
  | succ d cn=>
    intro i f hi I
    obtain ⟨f,rfl⟩:∃ eW,f=eW+ 1 :=⟨f - 1,by omega⟩
    have fZ:i <e0.length:=by omega
    rw [s9,cC fZ,cond_true,cc (List.getElem?_eq_getElem fZ),Option.bind_some,List.drop_eq_getElem_cons fZ,fg]
    by_cases e:e0[i]=m.Name
    · rw [decide_eq_true e,if_pos (by simp [oH,e])];simp
    · rw [decide_eq_false e,if_neg (by simp [oH];exact fun h=>e h.symm)]
      simp only [Bool.not_false,cond_true]
      rw [gO fZ h.1,cn (i+ 1) f (by omega) (by omega)]
      congr 2
      cases fg (oH m.Name) (e0.drop (i+ 1)) with
      | none=>simp;omega
      | some k=>simp;omega
 have:=key e0.length 0 F (by omega) h.2
 simpa using this
theorem afT (bT:1100 <F) (m5:List Int) (n:Nat) (ci:Int) (c:aM) (bR:m5[n]? =some ci) (ph:idx l ci=some c) (hc:c.aQ.length<= 8):∀ (d i f:Nat) (p:n_),i+d=c.aQ.length->d <f->p.1.length=p.2.length->p.1.length+d<= 1000 ->
 wG F l m5 (n:Int) f p.2 p.1 (i:Int)=some ((qB ci (c.aQ.drop i) i p).2,(qB ci (c.aQ.drop i) i p).1)
 | 0,i,f,p,hi,I,b5,_=>by
   obtain ⟨f,rfl⟩:∃ eW,f=eW+ 1 :=⟨f - 1,by omega⟩
   have:i=c.aQ.length:=by omega
   subst this
   rw [wG,cc bR,Option.bind_some,ph,Option.bind_some,cB,List.drop_of_length_le (Nat.le_refl _)];rfl
 | d+ 1,i,f,p,hi,I,b5,ax=>by
   obtain ⟨f,rfl⟩:∃ eW,f=eW+ 1 :=⟨f - 1,by omega⟩
   have fZ:i <c.aQ.length:=by omega
   obtain ⟨aC,aS⟩:=PA (nm:=c.aQ[i].Name) (t:=⟨ci,i⟩) b5
   have next:=afT bT m5 n ci c bR ph hc d (i+ 1) f (tc p c.aQ[i].Name ⟨ci,i⟩) (by omega) (by omega) aC (by omega)
   rw [wG,cc bR,Option.bind_some,ph,Option.bind_some,cC fZ,cond_true,Option.bind_some,ph,Option.bind_some,cc (List.getElem?_eq_getElem fZ),Option.bind_some,aGI p.1 _ ⟨by omega,by omega⟩,Option.bind_some,List.drop_eq_getElem_cons fZ,qB,<-next]
   unfold tc
   cases TY:fg (oH c.aQ[i].Name) p.1 with
   | some k=>
     have bf:=WQ TY
     simp only [Option.getD_some]
     rw [decide_eq_false (show ¬ ((k:Nat):Int)=(p.1.length:Int) by omega),cond_false,Option.bind_some]
     simp only [cc bR,Option.bind_some]
     rw [cc (List.getElem?_eq_getElem (show k <p.2.length by omega)),Option.bind_some,Option.bind_some,gO fZ (by omega)]
     simp
   | none=>
     simp only [Option.getD_none,decide_true,cond_true]
     unfold ep
     rw [if_pos (by simp only [List.length_cons,List.length_nil];omega),Option.bind_some,if_pos (by simp only [List.length_cons,List.length_nil];omega),Option.bind_some,Option.bind_some]
     simp only [cc bR,Option.bind_some]
     rw [cc (i:=p.1.length) (x:=(⟨0,0⟩:Target)) (by rw [b5];simp),Option.bind_some,Option.bind_some,gO fZ (by omega)]
     simp [b5,List.set_append]
theorem h'.aF6 (h:h' l) (bT:1100 <F) {n:Int} (bJ:0 <=n) (aC:n <l.length):EB F l n=some (tab l n):=by
 obtain ⟨_,ax,hm⟩:=h.chain bJ aC
 unfold EB
 rw [M7 bT h.right aC,Option.bind_some]
 have key:∀ (d i f:Nat) (p:n_),i+d=(eD l n).reverse.length->d <f->p.1.length=p.2.length->p.1.length+ 8 *d<= 900 ->wF F l (eD l n).reverse f p.2 p.1 (i:Int)=some ((wL l ((eD l n).reverse.drop i) p).2,(wL l ((eD l n).reverse.drop i) p).1):=by
  intro d
  induction d with
  | zero=>
    intro i f p hi I _ _
    obtain ⟨f,rfl⟩:∃ eW,f=eW+ 1 :=⟨f - 1,by omega⟩
    have:i=(eD l n).reverse.length:=by omega
    subst this
    rw [wF,cB,List.drop_of_length_le (Nat.le_refl _)];rfl
  | succ d cn=>
    intro i f p hi I b5 aJN
    obtain ⟨f,rfl⟩:∃ eW,f=eW+ 1 :=⟨f - 1,by omega⟩
    have fZ:i <(eD l n).reverse.length:=by omega
    obtain ⟨ci,ph⟩:∃ x,(eD l n).reverse[i]? =some x:=⟨(eD l n).reverse[i],List.getElem?_eq_getElem fZ⟩
    have a1:=hm ci (by simpa using List.mem_of_getElem? ph)
    obtain ⟨c,hc,_⟩:=vb (l:=l) a1.1 a1.2
    have zV:fF l ci=c.aQ:=by unfold fF;rw [hc];rfl
    have r8:=aeS h.right ci
    have FF:=r8
    rw [zV] at FF
    obtain ⟨j7,kV⟩:=Pz (ci:=ci) (r:=fF l ci) (k:=0) b5
    have t2:=afT (l:=l) bT (eD l n).reverse i ci c ph hc FF c.aQ.length 0 F p (by omega) (by omega) b5 (by omega)
    rw [show ((0 :Nat):Int)= 0 from rfl] at t2
    have K7:(eD l n).reverse[i]=ci:=by
     have:=List.getElem?_eq_getElem fZ
     rw [ph] at this;exact (Option.some.inj this).symm
    rw [wF,cC fZ,cond_true,t2,List.drop_zero,Option.bind_some,Option.bind_some,gO (n:=(eD l n).length) (by simpa using fZ) (by omega),List.drop_eq_getElem_cons fZ,K7,wL,zV]
    rw [zV] at j7 kV
    exact cn (i+ 1) f _ (by omega) (by omega) j7 (by omega)
 have:=key (eD l n).reverse.length 0 F ([],[]) (by omega) (by simp;omega) rfl (by simp;omega)
 rw [show ((0 :Nat):Int)= 0 from rfl,List.drop_zero] at this
 simp only at this
 rw [this];rfl
end
end J
namespace J
theorem tb {α β:Type} {l:List α} (T:Nat->List β->Nat->Option (List β)) (g:α->List β) (B M:Nat) (iQ:∀ x ∈ l,(g x).length<=B)
 (a5:∀ k (i:Nat) x acc,l[i]? =some x->acc.length+B<=M->T (k+ 1) acc i=T k (acc++g x) (i+ 1)) (he:∀ k acc,T (k+ 1) acc l.length=some acc) {F:Nat} (bT:l.length <F) {acc:List β} (fi:acc.length+B*l.length<=M) :
 T F acc 0 =some (acc++l.flatMap g):=by
 have key:∀ (d i k:Nat) (acc:List β),i+d=l.length->d <k->acc.length+B*d<=M->T k acc i=some (acc++(l.drop i).flatMap g):=by
  intro d
  induction d with
  | zero=>
    intro i k acc h bf _
    obtain ⟨k,rfl⟩:∃ k',k=k'+ 1 :=⟨k - 1,by omega⟩
    have hi:i=l.length:=by omega
    subst hi
    rw [he,List.drop_of_length_le (Nat.le_refl _)];simp
  | succ d cn=>
    intro i k acc h bf hm
    obtain ⟨k,rfl⟩:∃ k',k=k'+ 1 :=⟨k - 1,by omega⟩
    have hi:i <l.length:=by omega
    have a1:=iQ l[i] (List.getElem_mem hi)
    rw [Nat.mul_succ] at hm
    rw [a5 k i l[i] acc (List.getElem?_eq_getElem hi) (by omega),cn (i+ 1) k _ (by omega) (by omega) (by simp only [List.length_append];omega),List.drop_eq_getElem_cons hi,List.flatMap_cons,List.append_assoc]
 have:=key l.length 0 F acc (by omega) bT fi
 simpa using this
theorem aeZ {α β:Type} {g:α->Option β} {a:α}:[a].findSome? g=g a:=by rw [List.findSome?_cons];cases g a <;> rfl
theorem Fx {α β Yu:Type} (f:α->List β) (g:β->Option Yu):∀ l:List α,(l.flatMap f).findSome? g=l.findSome? fun x=>(f x).findSome? g
 | []=>rfl
 | x::r=>by
   rw [List.flatMap_cons,List.findSome?_append,List.findSome?_cons,Fx f g r]
   cases (f x).findSome? g <;> rfl
theorem xj {α β:Type} {g:α->List β} {B:Nat}:∀ {l:List α},(∀ x ∈ l,(g x).length<=B)->(l.flatMap g).length<=B*l.length
 | [],_=>by simp
 | x::r,h=>by
   have aC:=h x (by simp)
   have aS:=xj (l:=r) (fun y hy=>h y (by simp [hy]))
   simp only [List.flatMap_cons,List.length_append,List.length_cons,Nat.mul_succ]
   omega
def jH (k:Kind):List (List UInt8):=if k.aM= [] then [] else [k.aM]
def mt (m:Method):List (List UInt8):=m.bI.flatMap jH++jH m.Returns++m.bK.map (·.aM)
def w' (c:aM):List (List UInt8):=c.Fields.flatMap (fun f=>jH f.Kind)++c.aQ.flatMap mt
def rv (l:List aM):List (List UInt8):=l.flatMap w'
def jV (l:List aM) (s:List UInt8):Option Int:=if 0 <=dN l s then none else some 5
theorem ud (k:Kind):(jH k).length<= 1 :=by unfold jH;split <;> simp
section
variable {F:Nat} {l:List aM}
theorem aeT (h:Right l) {c:aM} (hc:c ∈ l) {m:Method} (hm:m ∈ c.aQ):(mt m).length<= 9 :=by
 have aC:=h.method c hc m hm
 have aS:=xj (l:=m.bI) (g:=jH) (B:=1) (fun k _=>ud k)
 have bV:=ud m.Returns
 unfold mt
 simp only [List.length_append,List.length_map]
 omega
theorem abK (h:Right l) {c:aM} (hc:c ∈ l):(w' c).length<= 78 :=by
 have aC:=xj (l:=c.Fields) (g:=fun f=>jH f.Kind) (B:=1) (fun f _=>ud f.Kind)
 have aS:=xj (l:=c.aQ) (g:=mt) (B:=9) (fun m hm=>aeT h hc hm)
 have bV:=h.fields c hc
 have er:=h.methods c hc
 unfold w'
 simp only [List.length_append]
 omega
theorem jz {b:Nat} {α:Type} {acc r:List α} (h:(acc.length+r.length)*b<= 140737488355328):ep b acc r=some (acc++r):=by unfold ep;rw [if_pos h]
theorem XY {acc:List (List UInt8)} (h:acc.length<= 5000) (k:Kind):Al k acc=some (acc++jH k):=by
 unfold Al jH
 by_cases e:k.aM= []
 · rw [decide_eq_true e,if_pos e];simp
 · rw [decide_eq_false e,if_neg e]
   simp only [Bool.not_false,cond_true]
   rw [jz (by simp only [List.length_cons,List.length_nil];omega)];rfl
theorem aGL (bT:1100 <F) (h:Right l) (m:List (List UInt8 × Int)) (s:List Int):uW F ⟨l,m,s⟩ F [] 0 =some (rv l):=by
 have hlen:=h.len
 have:=tb (l:=l) (fun k acc i=>uW F ⟨l,m,s⟩ k acc (i:Int)) w' 78 2000 (fun c hc=>abK h hc) (fun k i c acc ai tH=>by
  have hc:=List.mem_of_getElem? ai
  have tA:=h.fields c hc
  have r8:=h.methods c hc
  have hi:=(List.getElem?_eq_some_iff.1 ai).1
  have f':∀ acc:List (List UInt8),acc.length<= 2000 ->uX c F acc 0 =some (acc++c.Fields.flatMap fun f=>jH f.Kind):=fun acc bx=>
   tb (l:=c.Fields) (fun k acc i=>uX c k acc (i:Int)) (fun f=>jH f.Kind) 1 3000 (fun f _=>ud f.Kind) (fun k i f acc ai tH=>by
    have hi:=(List.getElem?_eq_some_iff.1 ai).1
    rw [uX,cC hi,cond_true,cc ai,Option.bind_some,XY (by omega),Option.bind_some,gO hi (by omega)]) (fun k acc=>by rw [uX,cB];rfl) (by omega) (by omega)
  have oK:∀ acc:List (List UInt8),acc.length<= 2100 ->uY F c F acc 0 =some (acc++c.aQ.flatMap mt):=fun acc bx=>
   tb (l:=c.aQ) (fun k acc i=>uY F c k acc (i:Int)) mt 9 3000 (fun m hm=>aeT h hc hm) (fun k i m acc ai tH=>by
    have hm:=List.mem_of_getElem? ai
    have hi:=(List.getElem?_eq_some_iff.1 ai).1
    obtain ⟨er,iP⟩:=h.method c hc m hm
    have Aj:uZ m F acc 0 =some (acc++m.bI.flatMap jH):=tb (l:=m.bI) (fun k acc i=>uZ m k acc (i:Int)) jH 1 3100 (fun k _=>ud k) (fun k i x acc ai tH=>by
     have hi:=(List.getElem?_eq_some_iff.1 ai).1
     rw [uZ,cC hi,cond_true,cc ai,Option.bind_some,XY (by omega),Option.bind_some,gO hi (by omega)]) (fun k acc=>by rw [uZ,cB];rfl) (by omega) (by omega)
    have bf:=xj (l:=m.bI) (g:=jH) (B:=1) (fun k _=>ud k)
    have aJJ:=ud m.Returns
    have Wl:∀ acc:List (List UInt8),acc.length<= 3200 ->u0 m F acc 0 =some (acc++m.bK.flatMap fun h=>[h.aM]):=fun acc bx=>
     tb (l:=m.bK) (fun k acc i=>u0 m k acc (i:Int)) (fun h=>[h.aM]) 1 3300 (fun k _=>by simp) (fun k i x acc ai tH=>by
      have hi:=(List.getElem?_eq_some_iff.1 ai).1
      rw [u0,cC hi,cond_true,cc ai,Option.bind_some,jz (by simp only [List.length_cons,List.length_nil];omega),Option.bind_some,gO hi (by omega)]) (fun k acc=>by rw [u0,cB];rfl) (by omega) (by omega)
    rw [uY,cC hi,cond_true,cc ai,Option.bind_some,Aj,Option.bind_some,XY (k:=(⟨m.Returns.Kind,m.Returns.aM⟩:Kind)) (by simp only [List.length_append];omega),Option.bind_some,
     Wl _ (by simp only [List.length_append];have:(jH (⟨m.Returns.Kind,m.Returns.aM⟩:Kind)).length<= 1 :=ud _;omega),Option.bind_some,Option.bind_some,gO hi (by omega)]
    have e:(m.bK.flatMap fun h=>[h.aM])=m.bK.map (·.aM):=by
     induction m.bK with
     | nil=>rfl
     | cons x r cn=>rw [List.flatMap_cons,cn];rfl
    rw [e]
    unfold mt
    simp only [List.append_assoc]) (fun k acc=>by rw [uY,cB];rfl) (by omega) (by omega)
  have bf:=xj (l:=c.Fields) (g:=fun f=>jH f.Kind) (B:=1) (fun f _=>ud f.Kind)
  rw [uW]
  have GG:decide ((i:Int) <((⟨l,m,s⟩:df).l.length:Int))=true:=cC (n:=l.length) hi
  rw [GG,cond_true]
  show (Option.bind (α:=List (List UInt8)) ((idx l (i:Int)).bind fun cE=>_) _)=_
  rw [cc ai,Option.bind_some,f' acc (by omega),Option.bind_some,oK _ (by simp only [List.length_append];omega),Option.bind_some,Option.bind_some,gO hi (by omega)]
  unfold w'
  simp only [List.append_assoc]) (fun k acc=>by
   rw [uW]
   show cond (decide ((l.length:Int) <(l.length:Int))) _ _=_
   rw [cB];rfl) (F:=F) (by omega) (acc:=[]) (by simp;omega)
 simpa [rv] using this
theorem WC (s:List UInt8):(dp (fH 0 l) s).isSome=decide (0 <=dN l s):=by
 rw [C2]
 unfold dN
 cases fg (jF s) l with
 | none=>simp
 | some i=>simp
theorem aGJ (bT:1100 <F) (h:Right l) (s:List Int):HG F ⟨l,fH 0 l,s⟩=some (((rv l).findSome? (jV l)).getD 0):=by
 have hlen:=h.len
 unfold HG
 have bO:=aGL bT h (fH 0 l) s
 have aJP:(rv l).length<= 780 :=by
  have:=xj (l:=l) (g:=w') (B:=78) (fun c hc=>abK h hc)
  unfold rv;omega
 rw [bO,Option.bind_some]
 have HB:x5 ⟨l,fH 0 l,s⟩ (rv l) F 0 =some (dx ((rv l).findSome? (jV l))):=each (jV l) (by omega) (fun k i x ai=>by
  rw [x5,cC (List.getElem?_eq_some_iff.1 ai).1,cond_true,cc ai,Option.bind_some]
  show cond (!(dp (fH 0 l) x).isSome) _ _=_
  rw [WC]
  unfold jV
  by_cases e:0 <=dN l x
  · rw [decide_eq_true e,if_pos e];rfl
  · rw [decide_eq_false e,if_neg e];rfl) (fun k=>by rw [x5,cB];rfl) (by omega)
 rw [HB]
 cases (rv l).findSome? (jV l) <;> rfl
def nE (l:List aM) (k:Kind):Option Int:=(jH k).findSome? (jV l)
theorem afU {s:List UInt8}:jV l s=none\/jV l s=some 5 :=by unfold jV;split <;> simp
theorem r5 {α:Type} {g:α->Option Int} {e:Int} (dd:∀ x,g x=none\/g x=some e):∀ r:List α,r.findSome? g=none\/r.findSome? g=some e
 | []=>.inl rfl
 | x::r=>by
   rw [List.findSome?_cons]
   rcases dd x with h | h
   · rw [h];exact r5 dd r
   · rw [h];exact .inr rfl
theorem aEy (k:Kind):nE l k=if k.aM= []\/ 0 <=dN l k.aM then none else some 5 :=by
 unfold nE jH jV
 by_cases e:k.aM= []
 · simp [e]
 · by_cases b7:0 <=dN l k.aM <;> simp [e,b7]
theorem Pw (h:Small F l.length) {CJ:List Kind} (bf:Small F CJ.length):y5 F l CJ=some (CJ.findSome? (nE l)).isNone:=by
 unfold y5
 have l1:=each (l:=CJ) (L:=ta F CJ l) (fun k=>(nE l k).map fun _=>false) bf.1 (fun k i x ai=>by
  rw [ta,cC (List.getElem?_eq_some_iff.1 ai).1,cond_true,cc ai,Option.bind_some,Option.bind_some,wo h,Option.bind_some,aEy]
  by_cases e:x.aM= []
  · rw [if_pos (.inl e),decide_eq_true e];rfl
  · rw [decide_eq_false e]
    by_cases b7:0 <=dN l x.aM
    · rw [if_pos (.inr b7),decide_eq_false (show ¬ dN l x.aM < 0 by omega)];rfl
    · rw [if_neg (by simp [e,b7]),decide_eq_true (show dN l x.aM < 0 by omega)];rfl) (fun k=>by rw [ta,cB];rfl) bf.2
 rw [l1,KO]
 cases CJ.findSome? (nE l) <;> rfl
theorem UH {o:Option Int} (h:o=none\/o=some 5) (Y:Option (Way Int Unit)):cond (!o.isNone) (some (.out 5)) Y=hE o Y:=by rcases h with h | h <;> rw [h] <;> rfl
theorem Wf (k:Kind):nE l k=none\/nE l k=some 5 :=r5 (fun _=>afU) _
theorem Im {o lg:Option Int} {Y:Option (Way Int Unit)}:hE o (hE lg Y)=hE (o.or lg) Y:=by cases o <;> rfl
theorem aGK (bT:1100 <F) (h:Right l):s5 F l F 0 =some (dx ((rv l).findSome? (jV l))):=by
 have hlen:=h.len
 have:=each (l:=l) (L:=s5 F l) (fun c=>(w' c).findSome? (jV l)) (by omega) (fun k n c ai=>by
  have hc:=List.mem_of_getElem? ai
  have tA:=h.fields c hc
  have r8:=h.methods c hc
  have HB:wg F l (n:Int) F 0 =some (dx (c.Fields.findSome? fun f=>nE l f.Kind)):=each (l:=c.Fields) (fun f=>nE l f.Kind) (by omega) (fun k i f hy=>by
   rw [wg,cc ai,Option.bind_some,cC (List.getElem?_eq_some_iff.1 hy).1,cond_true,Option.bind_some,cc hy,Option.bind_some,Pw ⟨by omega,by omega⟩ ⟨by simp,by simp;omega⟩,Option.bind_some]
   have e:[(⟨f.Kind.Kind,f.Kind.aM⟩:Kind)].findSome? (nE l)=nE l f.Kind:=aeZ
   rw [e]
   exact UH (Wf _) _) (fun k=>by rw [wg,cc ai,Option.bind_some,cB];rfl) (by omega)
  have Wn:wh F l (n:Int) F 0 =some (dx (c.aQ.findSome? fun m=>(mt m).findSome? (jV l))):=each (l:=c.aQ) (fun m=>(mt m).findSome? (jV l)) (by omega) (fun k i m hy=>by
   have hm:=List.mem_of_getElem? hy
   obtain ⟨er,iP⟩:=h.method c hc m hm
   have Wo:wi F l m F 0 =some (dx (m.bK.findSome? fun x=>jV l x.aM)):=each (l:=m.bK) (fun x=>jV l x.aM) (by omega) (fun k i x cU=>by
    rw [wi,cC (List.getElem?_eq_some_iff.1 cU).1,cond_true,cc cU,Option.bind_some,wo ⟨by omega,by omega⟩,Option.bind_some]
    unfold jV
    by_cases b7:0 <=dN l x.aM
    · rw [if_pos b7,decide_eq_false (show ¬ dN l x.aM < 0 by omega)];rfl
    · rw [if_neg b7,decide_eq_true (show dN l x.aM < 0 by omega)];rfl) (fun k=>by rw [wi,cB];rfl) (by omega)
   have e:[(⟨m.Returns.Kind,m.Returns.aM⟩:Kind)].findSome? (nE l)=nE l m.Returns:=aeZ
   rw [wh,cc ai,Option.bind_some,cC (List.getElem?_eq_some_iff.1 hy).1,cond_true,Option.bind_some,cc hy,Option.bind_some,Pw ⟨by omega,by omega⟩ ⟨by omega,by omega⟩,Option.bind_some,Pw ⟨by omega,by omega⟩ ⟨by simp,by simp;omega⟩,Option.bind_some,Wo,e,nU]
   rw [UH (Wf _),UH (r5 (fun k=>Wf k) _),Im,Im,qd,nS]
   congr 1
   unfold mt
   rw [List.findSome?_append,List.findSome?_append,Fx,List.findSome?_map]
   cases gI:m.bI.findSome? (nE l) with
   | some a=>
     have:(m.bI.findSome? fun x=>(jH x).findSome? (jV l))=some a:=gI
     rw [this];rfl
   | none=>
     have:(m.bI.findSome? fun x=>(jH x).findSome? (jV l))=none:=gI
     rw [this];rfl) (fun k=>by rw [wh,cc ai,Option.bind_some,cB];rfl) (by omega)
  rw [s5,cC (List.getElem?_eq_some_iff.1 ai).1,cond_true,HB,Wn,nU,nU,Im,qd,nS]
  congr 1
  unfold w'
  rw [List.findSome?_append,Fx,Fx]
  rfl) (fun k=>by rw [s5,cB];rfl) (F:=F) (by omega)
 rw [this,rv,Fx]
end
end J
namespace J
theorem Md {κ β:Type} [DecidableEq κ] {k:κ} {v:β}:∀ m:List (κ × β),(hD m k v).length=if (dp m k).isSome then m.length else m.length+ 1
 | []=>rfl
 | p::r=>by
   simp only [hD,dp]
   by_cases h:p.1 =k
   · simp [h]
   · simp only [if_neg h,List.length_cons,Md r]
     split <;> rfl
theorem HL {κ β:Type} [DecidableEq κ] {k s:κ} {v:β}:∀ m:List (κ × β),(dp (hD m k v) s).isSome=true ↔ s=k\/(dp m s).isSome=true
 | []=>by
   simp only [hD,dp]
   by_cases h:k=s
   · simp [h]
   · simp [h];exact fun e=>h e.symm
 | p::r=>by
   have cn:=HL (k:=k) (s:=s) (v:=v) r
   simp only [hD]
   by_cases h:p.1 =k
   · rw [if_pos h]
     simp only [dp]
     by_cases e:k=s
     · simp [e]
     · have b7: ¬ p.1 =s:=fun x=>e (h.symm.trans x)
       rw [if_neg e,if_neg b7]
       constructor
       · exact fun x=>.inr x
       · rintro (x | x)
         · exact absurd x.symm e
         · exact x
   · rw [if_neg h]
     simp only [dp]
     by_cases e:p.1 =s
     · simp [e]
     · rw [if_neg e,if_neg e];exact cn
def tx (e0:List (List UInt8)):Option Int:=if e0.Nodup then none else some 6
section
variable {F:Nat} {l:List aM}
theorem afV (bT:1100 <F) {e0:List (List UInt8)} (af:e0.length<= 1000):CQ F e0=some (decide (¬ e0.Nodup)):=by
 have key:∀ (d i k:Nat) (m:List (List UInt8 × Bool)),i+d=e0.length->d <k->(∀ s,(dp m s).isSome=true ↔ s ∈ e0.take i)->m.length<=i->(m.length=i ↔ (e0.take i).Nodup) ->
  ∃ h0,x6 e0 k m (i:Int)=some h0/\h0.length<=e0.length/\(h0.length=e0.length ↔ e0.Nodup):=by
  intro d
  induction d with
  | zero=>
    intro i k m hi bf aC aS bV
    obtain ⟨k,rfl⟩:∃ k',k=k'+ 1 :=⟨k - 1,by omega⟩
    have:i=e0.length:=by omega
    subst this
    rw [List.take_length] at bV
    exact ⟨m,by rw [x6,cB];rfl,aS,bV⟩
  | succ d cn=>
    intro i k m hi bf aC aS bV
    obtain ⟨k,rfl⟩:∃ k',k=k'+ 1 :=⟨k - 1,by omega⟩
    have fZ:i <e0.length:=by omega
    have bM:e0.take (i+ 1)=e0.take i++[e0[i]]:=by rw [List.take_add_one,List.getElem?_eq_getElem fZ];rfl
    rw [x6,cC fZ,cond_true,cc (List.getElem?_eq_getElem fZ),Option.bind_some,gO fZ (by omega)]
    refine cn (i+ 1) k _ (by omega) (by omega) (fun s=>?_) ?_ ?_
    · rw [HL,aC,bM,List.mem_append,List.mem_singleton]
      constructor
      · rintro (h | h)
        · exact .inr h
        · exact .inl h
      · rintro (h | h)
        · exact .inr h
        · exact .inl h
    · rw [Md];split <;> omega
    · rw [Md,bM,List.nodup_append]
      by_cases hm:(dp m e0[i]).isSome=true
      · rw [if_pos hm]
        have:=(aC e0[i]).1 hm
        constructor
        · intro h;omega
        · rintro ⟨_,_,h⟩;exact absurd rfl (h _ this _ (by simp))
      · rw [if_neg hm]
        have:e0[i] ∉ e0.take i:=fun h=>hm ((aC e0[i]).2 h)
        constructor
        · intro h
          exact ⟨bV.1 (by omega),by simp,fun a bx b a1 e=>by
           rw [List.mem_singleton] at a1;subst a1;exact this (e ▸ bx)⟩
        · rintro ⟨h,_,_⟩
          have:=bV.2 h
          omega
 obtain ⟨h0,aC,aS,bV⟩:=key e0.length 0 F [] (by omega) (by omega) (fun s=>by simp [dp]) (by simp) (by simp)
 unfold CQ
 rw [show (0 :Int)=((0 :Nat):Int) from rfl,aC,Option.bind_some]
 congr 1
 by_cases bW:e0.Nodup
 · have:=bV.2 bW
   rw [decide_eq_false (by omega),decide_eq_false (by simp [bW])]
 · have:h0.length≠e0.length:=fun e=>bW (bV.1 e)
   rw [decide_eq_true (by omega),decide_eq_true bW]
def Qm {α:Type} (nm:α->List UInt8) (r:List α):Option Int:=(List.range r.length).findSome? fun k=>(List.range k).findSome? fun j=>if (r[j]?).map nm=(r[k]?).map nm then some 6 else none
theorem abP {α:Type} (nm:α->List UInt8) (r:List α):Qm nm r=tx (r.map nm):=by
 have ad:Qm nm r=none\/Qm nm r=some 6 :=r5 (fun k=>r5 (fun j=>by split <;> simp) _) _
 unfold tx
 by_cases bW:(r.map nm).Nodup
 · rw [if_pos bW]
   rcases ad with h | h
   · exact h
   · exfalso
     obtain ⟨k,bf,aC⟩:=List.exists_of_findSome?_eq_some h
     obtain ⟨j,bc,aS⟩:=List.exists_of_findSome?_eq_some aC
     simp only [List.mem_range] at bf bc
     split at aS
     · rename_i e
       have:=List.pairwise_iff_getElem.1 bW j k (by simp;omega) (by simpa using bf) bc
       apply this
       rw [List.getElem?_eq_getElem (by omega),List.getElem?_eq_getElem bf] at e
       simpa using e
     · cases aS
 · rw [if_neg bW]
   rcases ad with h | h
   · exfalso
     apply bW
     refine List.pairwise_iff_getElem.2 fun j k bc bf zU e=>?_
     have aC:=List.findSome?_eq_none_iff.1 h k (by simpa using bf)
     have aS:=List.findSome?_eq_none_iff.1 aC j (by simpa using zU)
     simp only [List.length_map] at bc bf
     rw [List.getElem?_eq_getElem bc,List.getElem?_eq_getElem bf] at aS
     simp only [List.getElem_map] at e
     rw [if_pos (by simp [e])] at aS
     cases aS
   · exact h
theorem ajS (bT:1100 <F) (r:List Field) (bR:r.length<= 1000):vY F r F 0 =some (dx (tx (r.map (·.Name)))):=by
 rw [<-abP]
 exact kv _ (by omega) (fun k i hi=>by
  have Wg:vZ r (i:Int) F 0 =some (dx ((List.range i).findSome? fun j=>if (r[j]?).map (·.Name)=(r[i]?).map (·.Name) then some 6 else none)):=kv _ (by omega) (fun k j bc=>by
   rw [vZ,cC bc,cond_true,cc (List.getElem?_eq_getElem (show j <r.length by omega)),Option.bind_some,cc (List.getElem?_eq_getElem hi),Option.bind_some,List.getElem?_eq_getElem (show j <r.length by omega),List.getElem?_eq_getElem hi]
   simp only [Option.map_some,Option.some.injEq]
   by_cases e:r[j].Name=r[i].Name
   · rw [decide_eq_true e,if_pos e];rfl
   · rw [decide_eq_false e,if_neg e];rfl) (fun k=>by rw [vZ,cB];rfl) (by omega)
  rw [vY,cC hi,cond_true,Wg,nU,qd,nS]) (fun k=>by rw [vY,cB];rfl) (by omega)
theorem ajT (bT:1100 <F) (c:aM) (bR:c.aQ.length<= 1000):v5 F c F 0 =some (dx (tx (c.aQ.map (·.Name)))):=by
 rw [<-abP]
 exact kv _ (by omega) (fun k i hi=>by
  have Wg:v7 c (i:Int) F 0 =some (dx ((List.range i).findSome? fun j=>if (c.aQ[j]?).map (·.Name)=(c.aQ[i]?).map (·.Name) then some 6 else none)):=kv _ (by omega) (fun k j bc=>by
   rw [v7,cC bc,cond_true,cc (List.getElem?_eq_getElem (show j <c.aQ.length by omega)),Option.bind_some,cc (List.getElem?_eq_getElem hi),Option.bind_some,List.getElem?_eq_getElem (show j <c.aQ.length by omega),List.getElem?_eq_getElem hi]
   simp only [Option.map_some,Option.some.injEq]
   by_cases e:c.aQ[j].Name=c.aQ[i].Name
   · rw [decide_eq_true e,if_pos e];rfl
   · rw [decide_eq_false e,if_neg e];rfl) (fun k=>by rw [v7,cB];rfl) (by omega)
  rw [v5,cC hi,cond_true,Wg,nU,qd,nS]) (fun k=>by rw [v5,cB];rfl) (by omega)
def x9 (l:List aM) (i:Nat):Option Int:=(tx ((gk l i).map (·.Name))).or (tx ((fF l i).map (·.Name)))
theorem ab' (h:h' l) {n:Int} (bJ:0 <=n) (aC:n <l.length):(gk l n).length<= 60 :=by
 obtain ⟨_,ax,_⟩:=h.chain bJ aC
 have:=Qt h.right (eD l n).reverse
 unfold gk
 simp only [List.length_reverse] at this
 omega
theorem abQ {e0:List (List UInt8)} {Y:Option (Way Int Unit)}:cond (decide (¬ e0.Nodup)) (some (.out 6)) Y=hE (tx e0) Y:=by
 unfold tx
 by_cases h:e0.Nodup
 · rw [if_pos h,decide_eq_false (by simp [h])];rfl
 · rw [if_neg h,decide_eq_true h];rfl
theorem aeR {i:Nat} {c:aM} (h:l[i]? =some c):fF l (i:Int)=c.aQ:=by unfold fF;rw [cc h];rfl
theorem aFd (bT:1100 <F) (h:h' l):wj F l F 0 =some (dx ((List.range l.length).findSome? (x9 l))):=by
 have hlen:=h.right.len
 exact kv _ (by omega) (fun k i hi=>by
  obtain ⟨c,ai⟩:∃ x,l[i]? =some x:=⟨l[i],List.getElem?_eq_getElem hi⟩
  have r8:=h.right.methods c (List.mem_of_getElem? ai)
  have ac6:=ab' h (n:=(i:Int)) (by omega) (by omega)
  rw [wj,cC hi,cond_true,h.XK bT (by omega) (by omega),Option.bind_some,ajS bT _ (by omega),nU,cc ai,Option.bind_some,ajT bT c (by omega),nU,Im,qd,nS]
  unfold x9
  rw [aeR ai]) (fun k=>by rw [wj,cB];rfl) (by omega)
theorem aFc (bT:1100 <F) (h:h' l) (m:List (List UInt8 × Int)):HE F ⟨l,m,eo l⟩=some (((List.range l.length).findSome? (x9 l)).getD 0):=by
 have hlen:=h.right.len
 have:=kv (n:=l.length) (L:=x2 F ⟨l,m,eo l⟩) (x9 l) (by omega) (fun k i hi=>by
  obtain ⟨c,ai⟩:∃ x,l[i]? =some x:=⟨l[i],List.getElem?_eq_getElem hi⟩
  have r8:=h.right.methods c (List.mem_of_getElem? ai)
  have ac6:=ab' h (n:=(i:Int)) (by omega) (by omega)
  have f':uU (gk l i) F [] 0 =some ((gk l i).map (·.Name)):=by
   have:=tb (l:=gk l i) (fun k acc Aa=>uU (gk l i) k acc (Aa:Int)) (fun f=>[f.Name]) 1 3000 (fun f _=>by simp) (fun k j x acc ai tH=>by
    have bc:=(List.getElem?_eq_some_iff.1 ai).1
    rw [uU,cC bc,cond_true,cc ai,Option.bind_some,jz (by simp only [List.length_cons,List.length_nil];omega),Option.bind_some,gO bc (by omega)]) (fun k acc=>by rw [uU,cB];rfl) (F:=F) (by omega) (acc:=[]) (by simp;omega)
   rw [show (0 :Int)=((0 :Nat):Int) from rfl,this]
   congr 1
   rw [List.nil_append]
   induction gk l i with
   | nil=>rfl
   | cons x r cn=>rw [List.flatMap_cons,cn];rfl
  have oK:uV c F [] 0 =some (c.aQ.map (·.Name)):=by
   have:=tb (l:=c.aQ) (fun k acc Aa=>uV c k acc (Aa:Int)) (fun f=>[f.Name]) 1 3000 (fun f _=>by simp) (fun k j x acc ai tH=>by
    have bc:=(List.getElem?_eq_some_iff.1 ai).1
    rw [uV,cC bc,cond_true,cc ai,Option.bind_some,jz (by simp only [List.length_cons,List.length_nil];omega),Option.bind_some,gO bc (by omega)]) (fun k acc=>by rw [uV,cB];rfl) (F:=F) (by omega) (acc:=[]) (by simp;omega)
   rw [show (0 :Int)=((0 :Nat):Int) from rfl,this]
   congr 1
   rw [List.nil_append]
   induction c.aQ with
   | nil=>rfl
   | cons x r cn=>rw [List.flatMap_cons,cn];rfl
  rw [x2]
  have GG:decide ((i:Int) <((⟨l,m,eo l⟩:df).l.length:Int))=true:=cC (n:=l.length) hi
  have avA:=h.Wv bT m (n:=(i:Int)) (by omega) (by omega)
  rw [GG,cond_true]
  show dY (α:=Unit) ((idx l (i:Int)).bind fun e8=>(xX F ⟨l,m,eo l⟩ (i:Int)).bind fun ik=>_) _=_
  rw [cc ai,Option.bind_some,avA,Option.bind_some,f',Option.bind_some,oK,Option.bind_some,afV bT (by simp;omega),Option.bind_some,afV bT (by simp;omega),Option.bind_some,abQ,abQ,Im,qd,nS]
  unfold x9
  rw [aeR ai]) (fun k=>by
   rw [x2]
   show cond (decide ((l.length:Int) <(l.length:Int))) _ _=_
   rw [cB];rfl) (F:=F) (by omega)
 unfold HE
 rw [this]
 cases (List.range l.length).findSome? (x9 l) <;> rfl
theorem afC {a b:List Kind} (bx:a.length<= 1000) (a1:b.length<= 1000) (bT:1100 <F):s8 F a b=some (decide (a=b)):=by
 unfold s8
 by_cases ax:a.length=b.length
 · rw [decide_eq_true (show (a.length:Int)=(b.length:Int) by omega)]
   simp only [Bool.not_true,cond_false]
   have l1:n9 a b F 0 =some (dx ((List.range a.length).findSome? fun i=>if a[i]? =b[i]? then none else some false)):=kv _ (by omega) (fun k i hi=>by
    rw [n9,cC hi,cond_true,cc (List.getElem?_eq_getElem hi),Option.bind_some,cc (List.getElem?_eq_getElem (show i <b.length by omega)),Option.bind_some,List.getElem?_eq_getElem hi,List.getElem?_eq_getElem (show i <b.length by omega)]
    simp only [Option.some.injEq]
    by_cases e:a[i]=b[i]
    · rw [decide_eq_true e,if_pos e];rfl
    · rw [decide_eq_false e,if_neg e];rfl) (fun k=>by rw [n9,cB];rfl) (by omega)
   rw [l1,jU]
   cases I:(List.range a.length).findSome? fun i=>if a[i]? =b[i]? then none else some false with
   | some e=>
     obtain ⟨i,hi,aC⟩:=List.exists_of_findSome?_eq_some I
     split at aC
     · cases aC
     · rename_i eZ
       injection aC with aC
       subst aC
       rw [decide_eq_false (fun e=>eZ (by rw [e]))];rfl
   | none=>
     rw [decide_eq_true];rfl
     apply List.ext_getElem?
     intro i
     by_cases hi:i <a.length
     · have:=List.findSome?_eq_none_iff.1 I i (by simpa using hi)
       split at this
       · assumption
       · cases this
     · rw [List.getElem?_eq_none (by omega),List.getElem?_eq_none (by omega)]
 · rw [decide_eq_false (show ¬ (a.length:Int)=(b.length:Int) by omega),decide_eq_false (fun e=>ax (by rw [e]))];rfl
theorem aka {a b:List Kind} (bx:a.length<= 1000) (a1:b.length<= 1000) (bT:1100 <F):Ib F a b=some (decide (a=b)):=by
 rw [<-afC bx a1 bT]
 unfold Ib s8
 have e:∀ k n,AD a b k n=n9 a b k n:=by
  intro k
  induction k with
  | zero=>intro n;rfl
  | succ k cn=>intro n;rw [AD,n9];simp only [cn]
 rw [e]
def Qh (a b:Method):Bool:=decide (a.Name=b.Name) && (a.Static || b.Static || !decide (a.bI=b.bI) || !decide (a.Returns=b.Returns))
def pd (a b:Method):Option Int:=if Qh a b then some 4 else none
def tu (l:List aM) (c:aM) (u:Int):Option Int:=c.aQ.findSome? fun a=>(fF l u).findSome? (pd a)
def CS (l:List aM) (c:aM) (i:Nat):Option Int:=(eD l i).tail.findSome? (tu l c)
theorem ajw (a b:Method):pd a b=none\/pd a b=some 4 :=by unfold pd;split <;> simp
theorem abz (c:aM) (u:Int):tu l c u=none\/tu l c u=some 4 :=r5 (fun _=>r5 (fun _=>ajw _ _) _) _
theorem akn {α:Type} {g:α->Option Int} {e:Int} (dd:∀ x,g x=none\/g x=some e) (r:List α):r.reverse.findSome? g=r.findSome? g:=by
 rcases r5 dd r with h | h
 · rw [h,List.findSome?_eq_none_iff]
   intro x ai
   exact List.findSome?_eq_none_iff.1 h x (by simpa using ai)
 · rw [h]
   rcases r5 dd r.reverse with aS | aS
   · obtain ⟨x,ai,bV⟩:=List.exists_of_findSome?_eq_some h
     have:=List.findSome?_eq_none_iff.1 aS x (by simpa using ai)
     rw [bV] at this;cases this
   · exact aS
theorem aEW (bT:1100 <F) (h:h' l) (m:List (List UInt8 × Int)):HD F ⟨l,m,eo l⟩=some (((List.range l.length).findSome? fun i=>(l[i]?).bind fun c=>CS l c i).getD 0):=by
 have hlen:=h.right.len
 have:=kv (n:=l.length) (L:=xZ F ⟨l,m,eo l⟩) (fun i=>(l[i]?).bind fun c=>CS l c i) (by omega) (fun k i hi=>by
  obtain ⟨c,ai⟩:∃ x,l[i]? =some x:=⟨l[i],List.getElem?_eq_getElem hi⟩
  have mG:=List.mem_of_getElem? ai
  have r8:=h.right.methods c mG
  obtain ⟨Rz,nz,xq⟩:=h.chain (n:=(i:Int)) (by omega) (by omega)
  obtain ⟨r,bR⟩:=X0 Rz (by omega)
  have Aj:∀ (a:Method),a ∈ c.aQ-> ∀ (u:aM),u ∈ l->uT F a u F 0 =some (dx (u.aQ.findSome? (pd a))):=fun a bx u hu=>each (pd a) (by have:=h.right.methods u hu;omega) (fun k j b a1=>by
   have Rl:=List.mem_of_getElem? a1
   have aok:=h.right.method c mG a bx
   have apS:=h.right.method u hu b Rl
   rw [uT,cC (List.getElem?_eq_some_iff.1 a1).1,cond_true,cc a1,Option.bind_some]
   unfold L7
   simp only
   rw [aka (by omega) (by omega) bT]
   unfold pd Qh
   show cond _ (Option.bind (cond _ (Option.bind _ fun r=>cond r (some (decide (a.Returns=b.Returns))) _) _) _) _=_
   by_cases af:a.Name=b.Name
   · rw [decide_eq_true af]
     simp only [Option.bind_some,cond_true,Bool.true_and]
     cases a.Static <;> cases b.Static <;> cases decide (a.bI=b.bI) <;> cases decide (a.Returns=b.Returns) <;> rfl
   · rw [decide_eq_false af];rfl) (fun k=>by rw [uT,cB];rfl) (by have:=h.right.methods u hu;omega)
  have oK:∀ (x:Int),0 <=x->x <l.length->x1 F ⟨l,m,eo l⟩ c x F 0 =some (dx (tu l c x)):=fun x bJ aC=>each (fun a=>(fF l x).findSome? (pd a)) (by omega) (fun k j a bx=>by
   obtain ⟨u,hu,_⟩:=vb (l:=l) bJ aC
   have Lt:u ∈ l:=by obtain ⟨_,_,aS⟩:=t' hu;exact List.mem_of_getElem? aS
   have hm:fF l x=u.aQ:=by unfold fF;rw [hu];rfl
   rw [x1,cC (List.getElem?_eq_some_iff.1 bx).1,cond_true,cc bx,Option.bind_some]
   show dY (α:=Unit) ((idx l x).bind fun jX=>_) _=_
   rw [hu,Option.bind_some,Aj a (List.mem_of_getElem? bx) u Lt,nU,qd,nS,hm]) (fun k=>by rw [x1,cB];rfl) (by omega)
  have f':x0 F ⟨l,m,eo l⟩ c (eD l i).tail F 0 =some (dx ((eD l i).tail.findSome? (tu l c))):=each (tu l c) (by simp;omega) (fun k j x UB=>by
   have a1:=xq x (List.mem_of_mem_tail (List.mem_of_getElem? UB))
   rw [x0,cC (List.getElem?_eq_some_iff.1 UB).1,cond_true,cc UB,Option.bind_some,oK x a1.1 a1.2,nU,qd,nS]) (fun k=>by rw [x0,cB];rfl) (by simp;omega)
  rw [xZ]
  have GG:decide ((i:Int) <((⟨l,m,eo l⟩:df).l.length:Int))=true:=cC (n:=l.length) hi
  have ay5:=h.Wu bT m (n:=(i:Int)) (by omega) (by omega)
  rw [GG,cond_true]
  show dY (α:=Unit) ((idx l (i:Int)).bind fun dm=>(uR F ⟨l,m,eo l⟩ (i:Int)).bind fun o2=>_) _=_
  have at0:cut (eD l i) 1 ((eD l i).length:Int)=some (eD l i).tail:=by
   unfold cut
   rw [if_pos (by rw [bR];simp only [List.length_cons];omega)]
   rw [bR];simp
  rw [cc ai,Option.bind_some,ay5,Option.bind_some,at0,Option.bind_some,f',nU,qd,nS,ai]
  rfl) (fun k=>by
   rw [xZ]
   show cond (decide ((l.length:Int) <(l.length:Int))) _ _=_
   rw [cB];rfl) (F:=F) (by omega)
 unfold HD
 rw [this]
 cases (List.range l.length).findSome? (fun i=>(l[i]?).bind fun c=>CS l c i) <;> rfl
theorem aEX (bT:1100 <F) (h:h' l):v8 F l F 0 =some (dx ((List.range l.length).findSome? fun i=>(l[i]?).bind fun c=>CS l c i)):=by
 have hlen:=h.right.len
 exact kv _ (by omega) (fun k i hi=>by
  obtain ⟨c,ai⟩:∃ x,l[i]? =some x:=⟨l[i],List.getElem?_eq_getElem hi⟩
  have mG:=List.mem_of_getElem? ai
  have r8:=h.right.methods c mG
  obtain ⟨Rz,nz,xq⟩:=h.chain (n:=(i:Int)) (by omega) (by omega)
  obtain ⟨r,bR⟩:=X0 Rz (by omega)
  have aA8:(eD l i).reverse=(eD l i).tail.reverse++[(i:Int)]:=by rw [bR];simp
  have aEB:v' F l (i:Int) (eD l i).reverse F 0 =some (dx ((eD l i).tail.reverse.findSome? (tu l c))):=each (l:=(eD l i).tail.reverse) (tu l c) (by simp;omega) (fun k u x UD=>by
   have Lt:=(List.getElem?_eq_some_iff.1 UD).1
   have a1:=xq x (List.mem_of_mem_tail (by simpa using List.mem_of_getElem? UD))
   obtain ⟨w,hw,_⟩:=vb (l:=l) a1.1 a1.2
   have adD:w ∈ l:=by obtain ⟨_,_,aS⟩:=t' hw;exact List.mem_of_getElem? aS
   have aJQ:=h.right.methods w adD
   have hm:fF l x=w.aQ:=by unfold fF;rw [hw];rfl
   have adO:(eD l i).reverse[u]? =some x:=by rw [aA8,List.getElem?_append_left Lt];exact UD
   have aEC:wa F l (i:Int) (eD l i).reverse (u:Int) F 0 =some (dx (tu l c x)):=each (l:=c.aQ) (fun a=>(fF l x).findSome? (pd a)) (by omega) (fun k j a bx=>by
    have aon:=List.mem_of_getElem? bx
    have aED:s3 F l (i:Int) (eD l i).reverse (u:Int) (j:Int) F 0 =some (dx (w.aQ.findSome? (pd a))):=each (l:=w.aQ) (pd a) (by omega) (fun k q b a1=>by
     have Rl:=List.mem_of_getElem? a1
     have aok:=h.right.method c mG a aon
     have apS:=h.right.method w adD b Rl
     rw [s3]
     simp only [cc adO,Option.bind_some,hw,cC (List.getElem?_eq_some_iff.1 a1).1,cond_true,cc ai,cc bx,cc a1]
     rw [afC (by omega) (by omega) bT]
     unfold pd Qh
     show cond _ (cond _ _ (Option.bind _ fun r=>cond (!r) _ (cond (!decide (a.Returns=b.Returns)) _ _))) _=_
     by_cases af:a.Name=b.Name
     · rw [decide_eq_true af]
       simp only [Option.bind_some,cond_true,Bool.true_and]
       cases a.Static <;> cases b.Static <;> cases decide (a.bI=b.bI) <;> cases decide (a.Returns=b.Returns) <;> rfl
     · rw [decide_eq_false af];rfl) (fun k=>by rw [s3];simp only [cc adO,Option.bind_some,hw,cB];rfl) (by omega)
    rw [wa,cc ai,Option.bind_some,cC (List.getElem?_eq_some_iff.1 bx).1,cond_true,aED,nU,qd,nS,hm]) (fun k=>by rw [wa,cc ai,Option.bind_some,cB];rfl) (by omega)
   have GF:decide ((u:Int) <ap (((eD l i).reverse.length:Int) - 1))=true:=by
    rw [dP (by omega) (by simp;omega)]
    simp only [List.length_reverse,List.length_tail] at Lt
    exact decide_eq_true (by simp only [List.length_reverse];omega)
   rw [v',GF,cond_true,aEC,nU,qd,nS]) (fun k=>by
    have GF:decide (((eD l i).tail.reverse.length:Int) <ap (((eD l i).reverse.length:Int) - 1))=false:=by
     rw [dP (by omega) (by simp;omega)]
     exact decide_eq_false (by rw [bR];simp)
    rw [v',GF];rfl) (by simp;omega)
  rw [v8,cC hi,cond_true,M7 bT h.right (by omega),Option.bind_some,aEB,nU,qd,nS,ai,akn (abz c)]
  rfl) (fun k=>by rw [v8,cB];rfl) (by omega)
end
end J
namespace J
def wd (W:List Int) (i:Nat):Int:=(W[i]?).getD 0
def AG (k:bs) (t:Int):List Field:=(k.Fields[(t - 3).toNat]?).getD []
def ih (k:bs) (t:Int):Bool:=decide (1 <=t) && decide (t<= 2 +k.aD.length)
def isLen (k:bs) (t n:Int):Bool:=decide (0 <=n) && decide (n<= 500) && (decide (t < 3) || decide (n=(AG k t).length))
def lN (k:bs) (t:Int) (j:Nat):Bool:=decide (t= 2) || (decide (3 <=t) && ((AG k t)[j]?.map fun f=>!decide (f.Kind.Kind= 1)).getD false)
structure hV (k:bs):Prop where
 Qf:k.aD.length<= 1000
 ns:k.Fields.length=k.aD.length
theorem lK {W:List Int} {i:Nat} (h:i <W.length):idx W (i:Int)=some (wd W i):=by
 rw [cc (List.getElem?_eq_getElem h)];unfold wd;rw [List.getElem?_eq_getElem h];rfl
theorem ig {W:List Int} {a:Int} {i:Nat} (e:a=(i:Int)) (h:i <W.length):idx W a=some (wd W i):=by rw [e];exact lK h
theorem aEu {k:bs} {t:Int}:ih k t=true ↔ 1 <=t/\t<= 2 +k.aD.length:=by simp [ih]
theorem xS {k:bs} {t n:Int}:isLen k t n=true ↔ (0 <=n/\n<= 500)/\(t < 3 \/n=(AG k t).length):=by simp [isLen]
section
variable {k:bs}
theorem afH (h:hV k) (t:Int):tN ⟨k⟩ t=some (ih k t):=by
 have hc:=h.Qf
 unfold tN mI ih
 have e:ap (ap (3 +(k.aD.length:Int)) - 1)= 2 +k.aD.length:=by rw [dP (n:=3 +(k.aD.length:Int)) (by omega) (by omega),dP (by omega) (by omega)];omega
 simp only [e,Option.bind_some]
 by_cases aC:t= 1
 · subst aC;simp;omega
 by_cases aS:t= 2
 · subst aS;simp;omega
 rw [show ((decide (t= 1)) || (decide (t= 2)))=false by simp [aC,aS],cond_false,Option.some.injEq,Bool.eq_iff_iff]
 simp;omega
theorem M3 (h:hV k) {t:Int} (bO:ih k t=true) (bV: ¬ t < 3):idx k.Fields (ap (t - 3))=some (AG k t):=by
 obtain ⟨aC,aS⟩:=aEu.1 bO
 have hc:=h.Qf;have I:=h.ns
 rw [dP (by omega) (by omega)]
 unfold idx AG
 rw [if_pos (by omega)]
 have:(t - 3).toNat <k.Fields.length:=by omega
 rw [List.getElem?_eq_getElem this];rfl
theorem afI (h:hV k) {t:Int} (bO:ih k t=true) (n:Int):tO ⟨k⟩ t n=some (isLen k t n):=by
 unfold tO mI isLen
 simp only [Option.bind_some]
 cases a1:(decide (0 <=n) && decide (n<= 500)) with
 | false=>simp
 | true=>
   by_cases bV:t < 3
   · simp [bV]
   · rw [M3 h bO bV];simp [bV]
theorem aGw (h:hV k) {t:Int} (bO:ih k t=true) {n:Int} (af:isLen k t n=true) {j:Nat} (bc:(j:Int) <n):xr ⟨k⟩ t (j:Int)=some (lN k t j):=by
 unfold xr lN
 obtain ⟨_,ax⟩:=xS.1 af
 by_cases aS:t= 2
 · simp [aS]
 by_cases bV:t < 3
 · have: ¬ 3 <=t:=by omega
   simp [aS,this]
 · have ax:=ax.resolve_left bV
   have QE:3 <=t:=by omega
   have GO:j <(AG k t).length:=by omega
   rw [M3 h bO bV,Option.bind_some,cc (List.getElem?_eq_getElem GO),List.getElem?_eq_getElem GO]
   simp [aS,QE]
inductive gV (k:bs) (W:List Int) (to:Nat):Nat->List Int->Prop
 | nil:gV k W to to []
 | cons {q:Nat} {r:List Int}:ih k (wd W q)=true->isLen k (wd W q) (wd W (q+ 1))=true->q+ 3 +(wd W (q+ 1)).toNat<=to->gV k W to (q+ 3 +(wd W (q+ 1)).toNat) r->gV k W to q ((q:Int)::r)
theorem gV.inv {W:List Int} {to q:Nat} {L:List Int} (h:gV k W to q L) (ec:q <to):∃ r,L=(q:Int)::r/\ih k (wd W q)=true/\isLen k (wd W q) (wd W (q+ 1))=true/\q+ 3 +(wd W (q+ 1)).toNat<=to/\gV k W to (q+ 3 +(wd W (q+ 1)).toNat) r:=by
 cases h with
 | nil=>omega
 | cons aC aS bV er=>exact ⟨_,rfl,aC,aS,bV,er⟩
theorem aGH (v:ck) (a5:hV v.S.K) {to:Nat} (z8:to<=v.H.Words.length) (jm:v.H.Words.length<= 5000):∀ (f q:Nat) (acc:List Int) (m:List (Int × Bool)),q<=to->to - q <f->acc.length+(to - q)<= 5000 ->(∀ p ∈ m,p.1 <(q:Int)) ->
 (∃ L,gV v.S.K v.H.Words to q L/\qU (to:Int) v f acc m (q:Int)=some (.go (acc++L,m++L.map fun a=>(a,true)))) \/
 ((∀ L,¬ gV v.S.K v.H.Words to q L)/\ ∃ h0,qU (to:Int) v f acc m (q:Int)=some (.out ([],false,{ v with c4:=h0 }))):=by
 intro f
 induction f with
 | zero=>intro q acc m _ h;omega
 | succ f cn=>
   intro q acc m ec I tH hm
   rw [qU]
   by_cases ea:q <to
   case neg=>
    have:q=to:=by omega
    subst this
    refine .inl ⟨[],.nil,?_⟩
    rw [cB];simp
   rw [cC ea,cond_true,dP (n:=(q:Int)+ 3) (by omega) (by omega)]
   by_cases bV:(to:Int) <(q:Int)+ 3
   · rw [decide_eq_true bV]
     refine .inr ⟨fun L hr=>?_,m,rfl⟩
     obtain ⟨_,_,_,_,h,_⟩:=hr.inv ea
     omega
   rw [decide_eq_false bV,cond_false,lK (by omega),Option.bind_some,dP (n:=(q:Int)+ 1) (by omega) (by omega),ig (i:=q+ 1) (by omega) (by omega),Option.bind_some]
   have bM:tN (⟨(⟨v.S.K.aD,v.S.K.aA,v.S.K.Fields,v.S.K.Names,v.S.K.az⟩:bs)⟩:dz) (wd v.H.Words q)=some (ih v.S.K (wd v.H.Words q)):=afH a5 _
   rw [bM,Option.bind_some]
   cases bO:ih v.S.K (wd v.H.Words q) with
   | false=>
     refine .inr ⟨fun L hr=>?_,m,rfl⟩
     obtain ⟨_,_,h,_⟩:=hr.inv ea
     rw [bO] at h;cases h
   | true=>
     have b7:tO (⟨(⟨v.S.K.aD,v.S.K.aA,v.S.K.Fields,v.S.K.Names,v.S.K.az⟩:bs)⟩:dz) (wd v.H.Words q) (wd v.H.Words (q+ 1))=some (isLen v.S.K (wd v.H.Words q) (wd v.H.Words (q+ 1))):=afI a5 bO _
     rw [b7,Option.bind_some,Bool.not_true,cond_false]
     cases ax:isLen v.S.K (wd v.H.Words q) (wd v.H.Words (q+ 1)) with
     | false=>
       refine .inr ⟨fun L hr=>?_,m,rfl⟩
       obtain ⟨_,_,_,h,_⟩:=hr.inv ea
       rw [ax] at h;cases h
     | true=>
       obtain ⟨⟨CK,l1⟩,_⟩:=xS.1 ax
       rw [Bool.not_true,Bool.false_or,dP (n:=(q:Int)+ 3 +wd v.H.Words (q+ 1)) (by omega) (by omega)]
       by_cases tS:(to:Int) <(q:Int)+ 3 +wd v.H.Words (q+ 1)
       · rw [decide_eq_true tS]
         refine .inr ⟨fun L hr=>?_,m,rfl⟩
         obtain ⟨_,_,_,_,h,_⟩:=hr.inv ea
         omega
       rw [decide_eq_false tS,cond_false,jz (by simp;omega),Option.bind_some,dP (n:=3 +wd v.H.Words (q+ 1)) (by omega) (by omega),dP (n:=(q:Int)+(3 +wd v.H.Words (q+ 1))) (by omega) (by omega)]
       have zX:dp m (q:Int)=none:=by
        clear cn bM b7
        induction m with
        | nil=>rfl
        | cons p r cn=>
          have b5:=hm p List.mem_cons_self
          rw [dp,if_neg (by omega)]
          exact cn (fun x ai=>hm x (List.mem_cons_of_mem _ ai))
       rw [WB zX,show (q:Int)+(3 +wd v.H.Words (q+ 1))=((q+ 3 +(wd v.H.Words (q+ 1)).toNat:Nat):Int) by omega]
       rcases cn (q+ 3 +(wd v.H.Words (q+ 1)).toNat) (acc++[(q:Int)]) (m++[((q:Int),true)]) (by omega) (by omega) (by simp;omega) (fun p b5=>by
        rcases List.mem_append.1 b5 with b5 | b5
        · have:=hm p b5;omega
        · simp at b5;subst b5;simp;omega) with ⟨L,hr,e⟩ | ⟨af,h0,e⟩
       · refine .inl ⟨(q:Int)::L,.cons bO ax (by omega) hr,?_⟩
         rw [e];simp
       · refine .inr ⟨fun L hr=>?_,h0,e⟩
         obtain ⟨r,_,_,_,_,h⟩:=hr.inv ea
         exact af r h
theorem afS {F:Nat} (bT:6000 <F) (v:ck) (a5:hV v.S.K) {q to:Nat} (ec:q<=to) (z8:to<=v.H.Words.length) (jm:v.H.Words.length<= 5000) (hm:∀ p ∈ v.c4,p.1 <(q:Int)) :
 (∃ L,gV v.S.K v.H.Words to q L/\mH F v (q:Int) (to:Int)=some (L,true,{ v with c4:=v.c4++L.map fun a=>(a,true) })) \/
 ((∀ L,¬ gV v.S.K v.H.Words to q L)/\ ∃ h0,mH F v (q:Int) (to:Int)=some ([],false,{ v with c4:=h0 })):=by
 unfold mH
 rcases aGH v a5 z8 jm F q [] v.c4 ec (by omega) (by simp;omega) hm with ⟨L,hr,e⟩ | ⟨af,h0,e⟩
 · exact .inl ⟨L,hr,by rw [e,qc];simp⟩
 · exact .inr ⟨af,h0,by rw [e,afF]⟩
end
end J
namespace J
def refs (k:bs) (W:List Int) (q:Nat):List Int:=(List.range (wd W (q+ 1)).toNat).flatMap fun j=>if lN k (wd W q) j then [((q+ 3 +j:Nat):Int)] else []
theorem Wy {k:bs} {W:List Int} {q:Nat} {x:Int}:x ∈ refs k W q ↔ ∃ j,j <(wd W (q+ 1)).toNat/\lN k (wd W q) j=true/\x=((q+ 3 +j:Nat):Int):=by
 unfold refs
 rw [List.mem_flatMap]
 constructor
 · rintro ⟨j,bc,ai⟩
   split at ai
   · rename_i h;exact ⟨j,by simpa using bc,h,by simpa using ai⟩
   · cases ai
 · rintro ⟨j,bc,h,e⟩
   exact ⟨j,by simpa using bc,by rw [if_pos h,e];simp⟩
section
variable {F:Nat} {k:bs}
theorem aF8 (bT:6000 <F) (v:ck) (a5:hV v.S.K) {q:Nat} (ec:q+ 3 +(wd v.H.Words (q+ 1)).toNat<=v.H.Words.length) (jm:v.H.Words.length<= 5000) (bO:ih v.S.K (wd v.H.Words q)=true) (ax:isLen v.S.K (wd v.H.Words q) (wd v.H.Words (q+ 1))=true) :
 pj F v (q:Int)=some (refs v.S.K v.H.Words q):=by
 obtain ⟨⟨CK,l1⟩,_⟩:=xS.1 ax
 unfold pj
 rw [dP (n:=(q:Int)+ 1) (by omega) (by omega),ig (i:=q+ 1) (by omega) (by omega),Option.bind_some]
 generalize af:(wd v.H.Words (q+ 1)).toNat=n at ec
 have Ft:wd v.H.Words (q+ 1)=(n:Int):=by omega
 have pq:=ax
 rw [Ft] at pq ⊢
 have l1:=tb (l:=List.range n) (fun k acc i=>sc (q:Int) v (n:Int) k acc (i:Int)) (fun j=>if lN v.S.K (wd v.H.Words q) j then [((q+ 3 +j:Nat):Int)] else []) 1 5000 (fun x _=>by split <;> simp) (fun f i x acc ai bx=>by
  have hi:i <n:=by have:=(List.getElem?_eq_some_iff.1 ai).1;simpa using this
  rw [List.getElem?_range hi] at ai
  simp only [Option.some.injEq] at ai
  subst ai
  rw [sc,cC hi,cond_true,lK (by omega),Option.bind_some]
  have bM:xr (⟨(⟨v.S.K.aD,v.S.K.aA,v.S.K.Fields,v.S.K.Names,v.S.K.az⟩:bs)⟩:dz) (wd v.H.Words q) (i:Int)=some (lN v.S.K (wd v.H.Words q) i):=aGw a5 bO pq (by omega)
  rw [bM,Option.bind_some]
  show _=sc (q:Int) v (n:Int) f _ _
  cases lN v.S.K (wd v.H.Words q) i with
  | true=>
    rw [cond_true,dP (n:=(q:Int)+ 3) (by omega) (by omega),dP (n:=(q:Int)+ 3 +i) (by omega) (by omega),jz (by simp;omega),Option.bind_some,Option.bind_some,gO hi (by omega),if_pos rfl]
    congr 2
  | false=>
    rw [cond_false,Option.bind_some,gO hi (by omega),if_neg (by decide),List.append_nil]) (fun f acc=>by
  rw [List.length_range,sc,cB];rfl) (F:=F) (by simp;omega) (acc:=[]) (by simp;omega)
 have l1:sc (q:Int) v (n:Int) F [] 0 =_:=l1
 rw [l1,Option.bind_some,List.nil_append,refs,af]
theorem abB (bT:10000 <F) {gL:List (List Int)} (aC:gL.length<= 10) (aS:gL.flatten.length<= 10000):Dk F gL=some gL.flatten:=by
 unfold Dk
 have aEz:∀ (d i f:Nat) (n:Int),i+d=gL.length->d <f-> 0 <=n->n+(gL.drop i).flatten.length<= 10000 ->u_ gL f n (i:Int)=some (n+(gL.drop i).flatten.length):=by
  intro d
  induction d with
  | zero=>
    intro i f n h I af _
    obtain ⟨f,rfl⟩:∃ eW,f=eW+ 1 :=⟨f - 1,by omega⟩
    have:i=gL.length:=by omega
    subst this
    rw [u_,cB];simp
  | succ d cn=>
    intro i f n h I af a1
    obtain ⟨f,rfl⟩:∃ eW,f=eW+ 1 :=⟨f - 1,by omega⟩
    have hi:i <gL.length:=by omega
    rw [List.drop_eq_getElem_cons hi] at a1
    simp only [List.flatten_cons,List.length_append] at a1
    rw [u_,cC hi,cond_true,cc (List.getElem?_eq_getElem hi),Option.bind_some,dP (n:=n+((gL[i]).length:Int)) (by omega) (by omega),show decide (n+((gL[i]).length:Int) < 0)=false from decide_eq_false (by omega),cond_false,Option.bind_some,gO hi (by omega),cn (i+ 1) f _ (by omega) (by omega) (by omega) (by omega),List.drop_eq_getElem_cons hi]
    simp only [List.flatten_cons,List.length_append]
    congr 1;omega
 have jo:=aEz gL.length 0 F 0 (by omega) (by omega) (by omega) (by simp at aS ⊢;omega)
 have jo:u_ gL F 0 0 =some (0 +((gL.drop 0).flatten.length:Int)):=jo
 rw [jo,Option.bind_some,List.drop_zero,Int.zero_add]
 have k4:Ih (gL.flatten.length:Int)=some []:=by
  unfold Ih
  rw [show decide ((gL.flatten.length:Int) < 0)=false from decide_eq_false (by omega),cond_false,Option.bind_some,dP (n:=(gL.flatten.length:Int) - 0) (by omega) (by omega),Int.sub_zero]
  by_cases bJ:(0 :Int) <(gL.flatten.length:Int)
  · rw [decide_eq_true bJ,cond_true]
    unfold EE
    rw [if_pos ⟨bJ,by omega⟩];rfl
  · rw [decide_eq_false bJ];rfl
 rw [k4,Option.bind_some]
 have aEA:∀ (d i f:Nat) (acc:List Int),i+d=gL.length->d <f->acc.length+(gL.drop i).flatten.length<= 10000 ->u' gL f acc (i:Int)=some (acc++(gL.drop i).flatten):=by
  intro d
  induction d with
  | zero=>
    intro i f n h I af
    obtain ⟨f,rfl⟩:∃ eW,f=eW+ 1 :=⟨f - 1,by omega⟩
    have:i=gL.length:=by omega
    subst this
    rw [u',cB];simp
  | succ d cn=>
    intro i f acc h I a1
    obtain ⟨f,rfl⟩:∃ eW,f=eW+ 1 :=⟨f - 1,by omega⟩
    have hi:i <gL.length:=by omega
    rw [List.drop_eq_getElem_cons hi] at a1
    simp only [List.flatten_cons,List.length_append] at a1
    rw [u',cC hi,cond_true,cc (List.getElem?_eq_getElem hi),Option.bind_some,jz (by omega),Option.bind_some,gO hi (by omega),cn (i+ 1) f _ (by omega) (by omega) (by simp only [List.length_append];omega),List.drop_eq_getElem_cons hi,List.flatten_cons,List.append_assoc]
 have k4:=aEA gL.length 0 F [] (by omega) (by omega) (by simp at aS ⊢;omega)
 have k4:u' gL F [] 0 =some ([]++(gL.drop 0).flatten):=k4
 rw [k4];simp
theorem all_eq (bT:10000 <F) (v:ck) (h:v.au.length+v.aI.length<= 10000):xt F v=some (v.au++v.aI):=by
 unfold xt
 rw [abB bT (by simp) (by simp;omega)]
 simp
def a5 (W:List Int) (a:Int):Int:=wd W (a.toNat+ 2)
def x' (l:List Int) (m:List (Int × Bool)):List (Int × Bool):=l.foldl (fun m x=>hD m x true) m
theorem afc:∀ (l:List Int) (m:List (Int × Bool)),(x' l m).length<=m.length+l.length/\((x' l m).length=m.length+l.length ↔ l.Nodup/\ ∀ x ∈ l,(dp m x).isSome=false)
 | [],m=>by simp [x']
 | x::r,m=>by
   have cn:=afc r (hD m x true)
   have e:x' (x::r) m=x' r (hD m x true):=rfl
   rw [e]
   have ax:=Md (k:=x) (v:=true) m
   rw [List.length_cons]
   cases ai:(dp m x).isSome with
   | true=>
     rw [ai,if_pos rfl] at ax
     rw [ax] at cn
     refine ⟨by omega,⟨fun h=>by omega,fun h=>?_⟩⟩
     have:=h.2 x List.mem_cons_self
     rw [ai] at this;cases this
   | false=>
     rw [ai,if_neg (by decide)] at ax
     rw [ax] at cn
     refine ⟨by omega,?_⟩
     rw [show m.length+(r.length+ 1)=m.length+ 1 +r.length by omega,cn.2,List.nodup_cons]
     constructor
     · rintro ⟨aC,aS⟩
       refine ⟨⟨fun hm=>?_,aC⟩,fun y hy=>?_⟩
       · have:=aS x hm
         have bV:=(HL (k:=x) (s:=x) (v:=true) m).2 (.inl rfl)
         rw [this] at bV;cases bV
       · rcases List.mem_cons.1 hy with rfl | hy
         · exact ai
         · cases cU:(dp m y).isSome with
           | false=>rfl
           | true=>
             have bV:=(HL (k:=x) (s:=y) (v:=true) m).2 (.inr cU)
             rw [aS y hy] at bV;cases bV
     · rintro ⟨⟨aC,aS⟩,bV⟩
       refine ⟨aS,fun y hy=>?_⟩
       cases cU:(dp (hD m x true) y).isSome with
       | false=>rfl
       | true=>
         rcases (HL (k:=x) (s:=y) (v:=true) m).1 cU with e | e
         · subst e;exact absurd hy aC
         · rw [bV y (List.mem_cons_of_mem _ hy)] at e;cases e
def lH (v:ck) (a:Int):Bool:=decide (a5 v.H.Words a < 1) || decide (v.H.Next<=a5 v.H.Words a)
theorem aoq (v:ck) (r:List Int) (bR:r.length<= 10000) (a1:∀ a ∈ r,0 <=a/\a.toNat+ 3 <=v.H.Words.length) (jm:v.H.Words.length<= 5000):∀ (d i f:Nat) (m:List (Int × Bool)),i+d=r.length->d <f ->
 tP v r f m (i:Int)=if (r.drop i).any (lH v) then some (.out 3) else some (.go (x' ((r.drop i).map (a5 v.H.Words)) m)):=by
 intro d
 induction d with
 | zero=>
   intro i f m h I
   obtain ⟨f,rfl⟩:∃ eW,f=eW+ 1 :=⟨f - 1,by omega⟩
   have:i=r.length:=by omega
   subst this
   rw [tP,cB];simp [x']
 | succ d cn=>
   intro i f m h I
   obtain ⟨f,rfl⟩:∃ eW,f=eW+ 1 :=⟨f - 1,by omega⟩
   have hi:i <r.length:=by omega
   obtain ⟨bJ,aC⟩:=a1 r[i] (List.getElem_mem hi)
   rw [tP,cC hi,cond_true,cc (List.getElem?_eq_getElem hi),Option.bind_some,dP (n:=r[i]+ 2) (by omega) (by omega),ig (i:=(r[i]).toNat+ 2) (by omega) (by omega),Option.bind_some,List.drop_eq_getElem_cons hi,List.any_cons]
   show cond (lH v r[i]) _ _=_
   cases lH v r[i] with
   | true=>rfl
   | false=>
     rw [cond_false,gO hi (by omega),cn (i+ 1) f _ (by omega) (by omega),Bool.false_or]
     rfl
theorem aop (bT:10000 <F) (v:ck) (h:v.au.length+v.aI.length<= 5000) (a1:∀ a ∈ v.au++v.aI,0 <=a/\a.toNat+ 3 <=v.H.Words.length) (jm:v.H.Words.length<= 5000) (ade:v.c4.length=(v.au++v.aI).length) :
 Cp F v=some (if (v.au++v.aI).any (lH v) then 3 else if ((v.au++v.aI).map (a5 v.H.Words)).Nodup then 0 else 6):=by
 unfold Cp
 have e:xt F (⟨(⟨v.H.Words,v.H.au,v.H.aI,v.H.aV,v.H.aT,v.H.aE,v.H.Next⟩:bw),(⟨(⟨v.S.K.aD,v.S.K.aA,v.S.K.Fields,v.S.K.Names,v.S.K.az⟩:bs)⟩:dz),v.au,v.aI,v.c4⟩:ck)=some (v.au++v.aI):=all_eq bT v (by omega)
 rw [e,Option.bind_some]
 have l1:=aoq v (v.au++v.aI) (by simp;omega) a1 jm (v.au++v.aI).length 0 F [] (by omega) (by simp;omega)
 have l1:tP v (v.au++v.aI) F [] 0 =_:=l1
 rw [l1,List.drop_zero]
 cases (v.au++v.aI).any (lH v) with
 | true=>rfl
 | false=>
   rw [if_neg (by decide),if_neg (by decide),qc]
   obtain ⟨hd,lY⟩:=afc ((v.au++v.aI).map (a5 v.H.Words)) []
   rw [List.length_map,List.length_nil,Nat.zero_add] at hd lY
   by_cases af:((v.au++v.aI).map (a5 v.H.Words)).Nodup
   · rw [if_pos af]
     have:=lY.2 ⟨af,fun _ _=>rfl⟩
     rw [decide_eq_false (by rw [this,ade];omega)];rfl
   · rw [if_neg af]
     have:(x' ((v.au++v.aI).map (a5 v.H.Words)) []).length≠(v.au++v.aI).length:=fun e=>af (lY.1 e).1
     rw [decide_eq_true (by rw [ade];omega)];rfl
end
end J
namespace J
def y6 (l:List Int):Prop:=∀ a b,a <b->b <l.length->wd l a <wd l b
theorem XT {l:List Int} (h:∀ i,i+ 1 <l.length->wd l i <wd l (i+ 1)):y6 l:=by
 intro a b K2
 induction b with
 | zero=>omega
 | succ b cn=>
   intro a1
   by_cases e:a=b
   · subst e;exact h a a1
   · exact Int.lt_trans (cn (by omega) (by omega)) (h b a1)
theorem X6 {l:List Int} {i:Nat} (h:i <l.length):wd l i ∈ l:=by unfold wd;rw [List.getElem?_eq_getElem h];exact List.getElem_mem h
theorem rA {l:List Int} {i:Nat} {x:Int} (h:l[i]? =some x):wd l i=x:=by unfold wd;rw [h];rfl
theorem Wz {l:List Int} {x:Int} (h:x ∈ l):∃ i,i <l.length/\wd l i=x:=by
 obtain ⟨i,hi,e⟩:=List.getElem_of_mem h
 exact ⟨i,hi,rA (by rw [List.getElem?_eq_getElem hi,e])⟩
theorem afb {α:Type} {p:α->Bool}:∀ {l:List α},(fg p l).isSome=l.any p
 | []=>rfl
 | x::r=>by
   rw [fg,List.any_cons]
   cases h:p x with
   | true=>rfl
   | false=>simp only [Bool.false_eq_true,if_false,Bool.false_or];rw [<-afb (l:=r)];cases fg p r <;> rfl
theorem ab9 {α:Type} {l:List α} {L:Nat->Int->Option (Way Int Unit)} (p:α->Bool) (ax:l.length<= 140737488355328)
 (a5:∀ k (i:Nat) x,l[i]? =some x->L (k+ 1) (i:Int)=cond (p x) (some (.out (i:Int))) (L k (ap ((i:Int)+ 1))))
 (he:∀ k,L (k+ 1) (l.length:Int)=some (.go ())) {F:Nat} (bT:l.length <F):((dr (α:=Unit) (L F 0) fun (_:Unit)=>some (-1)).bind fun r=>some (decide ((0 :Int)<=r)))=some (l.any p):=by
 rw [Qr p (fun n:Nat=>(n:Int)) ax a5 he bT,<-afb]
 cases fg p l with
 | none=>rfl
 | some i=>
   show some (decide ((0 :Int)<=(i:Int)))=_
   rw [decide_eq_true (by omega)];rfl
section
variable {F:Nat}
theorem aGu {l:List Int} (ax:l.length<= 10000) (t:Int):∀ (f i j:Nat),i<=j->j<=l.length->j - i <f->(∀ a,a <i->wd l a <t)->(∀ a,j<=a->a <l.length->t<=wd l a)->y6 l ->
 ∃ p:Nat,sD t l f (i:Int) (j:Int)=some (p:Int)/\p<=l.length/\(∀ a,a <p->wd l a <t)/\(∀ a,p<=a->a <l.length->t<=wd l a):=by
 intro f
 induction f with
 | zero=>intro i j _ _ h;omega
 | succ f cn=>
   intro i j K9 bc I aC aS a5
   rw [sD]
   by_cases h:i <j
   case neg=>
    have:i=j:=by omega
    subst this
    rw [cB]
    exact ⟨i,rfl,bc,aC,aS⟩
   have em:ap (nT (nX (ap ((i:Int)+(j:Int)))) 1)=(((i+j) / 2 :Nat):Int):=by
    rw [dP (n:=(i:Int)+j) (by omega) (by omega)]
    unfold nX nT
    rw [dP (by omega) (by omega)]
    omega
   have hm:(i+j) / 2 <j:=by omega
   have gz:i<=(i+j) / 2 :=by omega
   rw [cC h,cond_true,em,lK (by omega),Option.bind_some]
   unfold KD Fq
   rw [Option.bind_some,show (!decide (wd l ((i+j) / 2)=wd l ((i+j) / 2)))=false by simp,cond_false,Option.bind_some]
   by_cases hc:wd l ((i+j) / 2) <t
   · rw [decide_eq_true hc,cond_true,Option.bind_some]
     show ∃ p:Nat,sD t l f (ap ((((i+j) / 2 :Nat):Int)+ 1)) (j:Int)=_/\_
     rw [dP (n:=(((i+j) / 2 :Nat):Int)+ 1) (by omega) (by omega),show (((i+j) / 2 :Nat):Int)+ 1 =(((i+j) / 2 + 1 :Nat):Int) by omega]
     refine cn ((i+j) / 2 + 1) j (by omega) bc (by omega) (fun a bx=>?_) aS a5
     by_cases e:a=(i+j) / 2
     · subst e;exact hc
     · exact Int.lt_trans (a5 a ((i+j) / 2) (by omega) (by omega)) hc
   · rw [decide_eq_false hc,cond_false,Option.bind_some]
     show ∃ p:Nat,sD t l f (i:Int) (((i+j) / 2 :Nat):Int)=_/\_
     refine cn i ((i+j) / 2) (by omega) (by omega) (by omega) aC (fun a bx a1=>?_) a5
     by_cases e:a=(i+j) / 2
     · subst e;omega
     · have:=a5 ((i+j) / 2) a (by omega) a1
       omega
theorem aGt (bT:10000 <F) {l:List Int} (ax:l.length<= 10000) (a5:y6 l) (t:Int) :
 ∃ p:Nat,Di F l t=some ((p:Int),decide (t ∈ l))/\p<=l.length/\(∀ a,a <p->wd l a <t)/\(∀ a,p<=a->a <l.length->t<=wd l a):=by
 obtain ⟨p,e,b5,aC,aS⟩:=aGu ax t F 0 l.length (by omega) (Nat.le_refl _) (by omega) (fun a bx=>by omega) (fun a bx a1=>by omega) a5
 refine ⟨p,?_,b5,aC,aS⟩
 unfold Di
 have e:sD t l F 0 (l.length:Int)=some (p:Int):=e
 rw [e,Option.bind_some]
 by_cases ea:p <l.length
 · rw [cC ea,cond_true,lK ea,Option.bind_some]
   by_cases bO:wd l p=t
   · rw [decide_eq_true bO,cond_true,decide_eq_true (bO ▸ X6 ea)]
   · have af: ¬ t ∈ l:=fun hm=>by
      obtain ⟨a,bx,abU⟩:=Wz hm
      by_cases Q3:a <p
      · have:=aC a Q3;omega
      · have bV:=aS p (Nat.le_refl _) ea
        by_cases e:a=p
        · subst e;exact bO abU
        · have:=a5 p a (by omega) bx;omega
     rw [decide_eq_false bO,cond_false,Option.bind_some,decide_eq_false af]
     unfold Ij
     rw [Option.bind_some,show (!decide (wd l p=wd l p))=false by simp,cond_false]
 · have:p=l.length:=by omega
   subst this
   have af: ¬ t ∈ l:=fun hm=>by
    obtain ⟨a,bx,abU⟩:=Wz hm
    have:=aC a bx;omega
   rw [cB,cond_false,decide_eq_false af]
structure qA (v:ck) (a:Int):Prop where
 pos:0 <=a
 fit:a.toNat+ 3 +(wd v.H.Words (a.toNat+ 1)).toNat<=v.H.Words.length
 tag:ih v.S.K (wd v.H.Words a.toNat)=true
 len:isLen v.S.K (wd v.H.Words a.toNat) (wd v.H.Words (a.toNat+ 1))=true
structure n' (v:ck):Prop where
 AC:hV v.S.K
 l2:v.H.Words.length<= 4900
 r4:v.au.length+v.aI.length<= 5000
 ru:∀ a ∈ v.au++v.aI,qA v a
 c4:∀ x,(dp v.c4 x).getD false=decide (x ∈ v.au++v.aI)
theorem qA.XM {v:ck} {a:Int} (ad:n' v) (h:qA v a) (bT:6000 <F):pj F v a=some (refs v.S.K v.H.Words a.toNat):=by
 have:=aF8 bT v ad.AC h.fit (by have:=ad.l2;omega) h.tag h.len
 rwa [show ((a.toNat:Nat):Int)=a by have:=h.pos;omega] at this
theorem qA.MJ {v:ck} {a w:Int} (h:qA v a) (hw:w ∈ refs v.S.K v.H.Words a.toNat):idx v.H.Words w=some (wd v.H.Words w.toNat):=by
 obtain ⟨j,bc,_,e⟩:=Wy.1 hw
 have:=h.fit
 subst e
 exact lK (by omega)
theorem MK {v:ck} {a:Int} (ad:n' v) (h:qA v a):(refs v.S.K v.H.Words a.toNat).length<= 5000 :=by
 have:(refs v.S.K v.H.Words a.toNat).length<= 1 *(List.range (wd v.H.Words (a.toNat+ 1)).toNat).length:=xj fun x _=>by split <;> simp
 have aC:=h.fit;have aS:=ad.l2
 rw [List.length_range] at this
 omega
def sG (v:ck) (w:Int):Bool:=!decide (wd v.H.Words w.toNat= 0) && !decide (wd v.H.Words w.toNat ∈ v.au++v.aI)
def nP (v:ck) (a:Int):Bool:=(refs v.S.K v.H.Words a.toNat).any (sG v)
def free (h:bw):List Int:=h.Words.take 1 ++((h.Words.take (h.au+ 1).toNat).drop h.aV.toNat++h.Words.drop h.aT.toNat)
theorem nt {α:Type} {p:α->Bool} {e:Int}:∀ l:List α,l.findSome? (fun x=>if p x then some e else none)=if l.any p then some e else none
 | []=>rfl
 | x::r=>by
   rw [List.findSome?_cons,List.any_cons]
   cases p x with
   | true=>rfl
   | false=>simp only [Bool.false_eq_true,if_false,Bool.false_or];exact nt r
theorem aG6 (bT:10000 <F) {v:ck} (ad:n' v) (bJ:0 <=v.H.au) (aC:0 <=v.H.aV/\v.H.aV<=v.H.au+ 1 /\v.H.au+ 1 <=v.H.Words.length) (aS:0 <=v.H.aT/\v.H.aT<=v.H.Words.length) :
 Cr F v=some (if (v.au++v.aI).any (nP v) then 5 else if (free v.H).any (fun x=>!decide (x= 0)) then 1 else 0):=by
 have hc:=ad.r4;have hw:=ad.l2
 unfold Cr
 have e:xt F (⟨(⟨v.H.Words,v.H.au,v.H.aI,v.H.aV,v.H.aT,v.H.aE,v.H.Next⟩:bw),(⟨(⟨v.S.K.aD,v.S.K.aA,v.S.K.Fields,v.S.K.Names,v.S.K.az⟩:bs)⟩:dz),v.au,v.aI,v.c4⟩:ck)=some (v.au++v.aI):=all_eq bT v (by omega)
 rw [e,Option.bind_some]
 have l1:xu F v (v.au++v.aI) F 0 =some (dx ((v.au++v.aI).findSome? fun a=>if nP v a then some 5 else none)):=each _ (by simp;omega) (fun f i a bx=>by
  have hm:=List.mem_of_getElem? bx
  have bO:=ad.ru a hm
  rw [xu,cC (List.getElem?_eq_some_iff.1 bx).1,cond_true,cc bx,Option.bind_some]
  have b7:pj F (⟨(⟨v.H.Words,v.H.au,v.H.aI,v.H.aV,v.H.aT,v.H.aE,v.H.Next⟩:bw),(⟨(⟨v.S.K.aD,v.S.K.aA,v.S.K.Fields,v.S.K.Names,v.S.K.az⟩:bs)⟩:dz),v.au,v.aI,v.c4⟩:ck) a=some (refs v.S.K v.H.Words a.toNat):=bO.XM ad (by omega)
  have Um:=MK ad bO
  rw [b7,Option.bind_some]
  have f':tR v (refs v.S.K v.H.Words a.toNat) F 0 =some (dx ((refs v.S.K v.H.Words a.toNat).findSome? fun w=>if sG v w then some 5 else none)):=each _ (by omega) (fun eW Aa w g_=>by
   have gz:=List.mem_of_getElem? g_
   rw [tR,cC (List.getElem?_eq_some_iff.1 g_).1,cond_true,cc g_,Option.bind_some,bO.MJ gz,Option.bind_some,ad.c4]
   unfold sG
   cases decide (wd v.H.Words w.toNat= 0) <;> cases decide (wd v.H.Words w.toNat ∈ v.au++v.aI) <;> rfl) (fun eW=>by rw [tR,cB];rfl) (by omega)
  rw [f',nt]
  show _=hE (if (refs v.S.K v.H.Words a.toNat).any (sG v) then some 5 else none) _
  cases (refs v.S.K v.H.Words a.toNat).any (sG v) <;> rfl) (fun f=>by rw [xu,cB];rfl) (by simp;omega)
 rw [l1,nt]
 cases (v.au++v.aI).any (nP v) with
 | true=>rfl
 | false=>
   simp only [Bool.false_eq_true,if_false,dx,qc]
   have dV:cut v.H.Words 0 1 =some (v.H.Words.take 1):=by
    unfold cut;rw [if_pos ⟨by omega,by omega,by omega⟩];rfl
   have ej:cut v.H.Words v.H.aV (ap (v.H.au+ 1))=some ((v.H.Words.take (v.H.au+ 1).toNat).drop v.H.aV.toNat):=by
    rw [dP (by omega) (by omega)]
    unfold cut;rw [if_pos ⟨by omega,by omega,by omega⟩]
   have fN:cut v.H.Words v.H.aT (v.H.Words.length:Int)=some (v.H.Words.drop v.H.aT.toNat):=by
    unfold cut;rw [if_pos ⟨by omega,by omega,by omega⟩,Int.toNat_natCast,List.take_length]
   have ac6:(free v.H).length<= 10000 :=by unfold free;simp;omega
   rw [dV,ej,fN,Option.bind_some,Option.bind_some,Option.bind_some,abB bT (by simp) (by simp;omega),Option.bind_some]
   have ajY:[v.H.Words.take 1,(v.H.Words.take (v.H.au+ 1).toNat).drop v.H.aV.toNat,v.H.Words.drop v.H.aT.toNat].flatten=free v.H:=by simp [free]
   rw [ajY]
   unfold MW MY
   rw [ab9 (l:=free v.H) (L:=yu (free v.H)) (fun x=>!decide (x= 0)) (by omega) (fun f i x ai=>by
    rw [yu,cC (List.getElem?_eq_some_iff.1 ai).1,cond_true,cc ai,Option.bind_some]
    rfl) (fun f=>by rw [yu,cB];rfl) (by omega),Option.bind_some]
   cases (free v.H).any (fun x=>!decide (x= 0)) <;> rfl
def kc (v:ck) (x:Int):Bool:=decide (0 <x) && decide (x<=v.H.au)
def rf (v:ck) (x:Int):Bool:=!decide (x ∈ v.au++v.aI) || kc v x || (refs v.S.K v.H.Words x.toNat).isEmpty
def js (v:ck) (i:Nat):Bool:=(decide (0 <i) && decide (wd v.H.aE i<=wd v.H.aE (i - 1))) || rf v (wd v.H.aE i)
def o' (v:ck) (x:Int):Bool:=!decide (x ∈ v.H.aE) && (refs v.S.K v.H.Words x.toNat).any fun w=>kc v (wd v.H.Words w.toNat)
theorem aE' (bT:10000 <F) {v:ck} (ad:n' v) (x:Int) (Y:Option (Way Int Unit)):(cond (!((dp v.c4 x).getD false)) (some (.out 4)) ((Co v x).bind fun C7=>
 cond (C7) (some (.out 4)) ((pj F v x).bind fun HY=>
 cond (decide ((HY.length:Int)= 0)) (some (.out 4)) Y)))=hE (if rf v x then some 4 else none) Y:=by
 rw [ad.c4]
 unfold rf
 by_cases hm:x ∈ v.au++v.aI
 · rw [decide_eq_true hm,(ad.ru x hm).XM ad (by omega)]
   show cond (kc v x) _ ((some _).bind _)=_
   cases kc v x with
   | true=>rfl
   | false=>
     rw [cond_false,Option.bind_some]
     cases refs v.S.K v.H.Words x.toNat with
     | nil=>rfl
     | cons a r=>rw [decide_eq_false (by simp;omega)];rfl
 · rw [decide_eq_false hm];rfl
theorem aE_ (bT:10000 <F) {v:ck} (ad:n' v) (af:v.H.aE.length<= 140737488355328) (zW:v.H.aE.length <F) (aBa:(∀ i,i <v.H.aE.length->js v i=false)->v.H.aE.length<= 10000) :
 Cq F v=some (if (List.range v.H.aE.length).any (js v) || v.aI.any (o' v) then 4 else 0):=by
 have hc:=ad.r4;have hw:=ad.l2
 unfold Cq
 have l1:sd F v F 0 =some (dx ((List.range v.H.aE.length).findSome? fun i=>if js v i then some 4 else none)):=kv _ af (fun f i hi=>by
  have bR:=aE' bT ad (wd v.H.aE i) (sd F v f (ap ((i:Int)+ 1)))
  rw [sd,cC hi,cond_true,lK hi,Option.bind_some]
  unfold js
  by_cases bJ:0 <i
  · rw [show decide ((0 :Int) <(i:Int))=true from decide_eq_true (by omega),cond_true,dP (n:=(i:Int) - 1) (by omega) (by omega),ig (i:=i - 1) (by omega) (by omega),Option.bind_some,decide_eq_true bJ,Bool.true_and]
    cases decide (wd v.H.aE i<=wd v.H.aE (i - 1)) with
    | true=>rfl
    | false=>exact bR
  · rw [show decide ((0 :Int) <(i:Int))=false from decide_eq_false (by omega),cond_false,decide_eq_false bJ,Bool.false_and,Bool.false_or]
    exact bR) (fun f=>by rw [sd,cB];rfl) zW
 rw [l1,nt]
 cases a1:(List.range v.H.aE.length).any (js v) with
 | true=>rfl
 | false=>
   have oy:∀ i,i <v.H.aE.length->js v i=false:=fun i hi=>by
    rw [List.any_eq_false] at a1
    simpa using a1 i (by simpa using hi)
   have hlen:=aBa oy
   have aBc:y6 v.H.aE:=XT fun i hi=>by
    have:=oy (i+ 1) hi
    unfold js at this
    simp only [Bool.or_eq_false_iff,Bool.and_eq_false_iff,decide_eq_false_iff_not,Nat.add_sub_cancel] at this
    rcases this.1 with h | h <;> omega
   simp only [Bool.false_eq_true,if_false,dx,qc,Bool.false_or]
   have f':tQ F v F 0 =some (dx (v.aI.findSome? fun x=>if o' v x then some 4 else none)):=each _ (by omega) (fun f i x ai=>by
    have hm:x ∈ v.au++v.aI:=List.mem_append_right _ (List.mem_of_getElem? ai)
    have bO:=ad.ru x hm
    obtain ⟨p,b5,_⟩:=aGt bT hlen aBc x
    rw [tQ,cC (List.getElem?_eq_some_iff.1 ai).1,cond_true,cc ai,Option.bind_some,b5,Option.bind_some]
    unfold o'
    by_cases pk:x ∈ v.H.aE
    · rw [decide_eq_true pk];rfl
    · rw [decide_eq_false pk]
      have b7:pj F (⟨(⟨v.H.Words,v.H.au,v.H.aI,v.H.aV,v.H.aT,v.H.aE,v.H.Next⟩:bw),(⟨(⟨v.S.K.aD,v.S.K.aA,v.S.K.Fields,v.S.K.Names,v.S.K.az⟩:bs)⟩:dz),v.au,v.aI,v.c4⟩:ck) x=some (refs v.S.K v.H.Words x.toNat):=bO.XM ad (by omega)
      have Um:=MK ad bO
      simp only [Bool.not_false,cond_true,Bool.true_and]
      rw [b7,Option.bind_some]
      unfold MV MX
      rw [ab9 (l:=refs v.S.K v.H.Words x.toNat) (L:=yt (refs v.S.K v.H.Words x.toNat) v) (fun w=>kc v (wd v.H.Words w.toNat)) (by omega) (fun eW Aa w g_=>by
       rw [yt,cC (List.getElem?_eq_some_iff.1 g_).1,cond_true,cc g_,Option.bind_some]
       unfold K6
       rw [bO.MJ (List.mem_of_getElem? g_)]
       rfl) (fun eW=>by rw [yt,cB];rfl) (by omega),Option.bind_some]
      cases (refs v.S.K v.H.Words x.toNat).any (fun w=>kc v (wd v.H.Words w.toNat)) <;> rfl) (fun f=>by rw [tQ,cB];rfl) (by omega)
   rw [f',nt]
   cases v.aI.any (o' v) <;> rfl
end
end J
namespace J
def Mi:bs:=⟨[],[],[],[],[]⟩
def rows {β:Type} (f:Int->β) (i:Nat):List β:=(List.range i).map fun j:Nat=>f (j:Int)
theorem Dd {β:Type} (f:Int->β) (i:Nat):rows f (i+ 1)=rows f i++[f (i:Int)]:=by simp [rows,List.range_succ]
def linked (l:List aM):bs:=⟨l,eo l,rows (gk l) l.length,rows (fun i=>(tab l i).1) l.length,rows (fun i=>(tab l i).2) l.length⟩
def BF (l:List aM) (i:Nat):Option (bs × Int):=if 12 <(gk l i).length\/ 16 <(tab l i).1.length then some (Mi,2) else none
section
variable {F:Nat} {l:List aM}
theorem ZS (x y:Nat):((decide ((12 :Int) <(x:Int))) || (decide ((16 :Int) <(y:Int))))=decide (12 <x\/ 16 <y):=by
 rw [Bool.eq_iff_iff];simp;omega
theorem aEM (bT:1100 <F) (h:h' l) (sC rk:Int × df) (QD:sC.2.cA=fH 0 l) (FD:rk.2.b3=eo l) :
 pS F l sC rk F [] [] [] 0 =some (AL ((List.range l.length).findSome? (BF l)) (rows (fun i=>(tab l i).2) l.length,rows (fun i=>(tab l i).1) l.length,rows (gk l) l.length)):=by
 have hlen:=h.right.len
 refine Py (n:=l.length) (fun k i=>pS F l sC rk k (rows (fun i=>(tab l i).2) i) (rows (fun i=>(tab l i).1) i) (rows (gk l) i) (i:Int)) _ _ (fun k i hi=>?_) (fun k=>?_) (F:=F) (by omega)
 · show pS F l sC rk (k+ 1) (rows (fun i=>(tab l i).2) i) (rows (fun i=>(tab l i).1) i) (rows (gk l) i) (i:Int)=_
   rw [pS,cC hi,cond_true,QD,FD,h.aEN bT (fH 0 l) (by omega) (by omega),Option.bind_some,h.Wv bT (fH 0 l) (by omega) (by omega),Option.bind_some,
    jz (by simp only [rows,List.length_map,List.length_range,List.length_cons,List.length_nil];omega),Option.bind_some,jz (by simp only [rows,List.length_map,List.length_range,List.length_cons,List.length_nil];omega),Option.bind_some,
    jz (by simp only [rows,List.length_map,List.length_range,List.length_cons,List.length_nil];omega),Option.bind_some,cc (i:=i) (x:=gk l i) (by simp [rows]),Option.bind_some,ZS,gO hi (by omega),<-Dd (gk l),<-Dd (fun i=>(tab l i).1),<-Dd (fun i=>(tab l i).2)]
   unfold BF
   by_cases a1:12 <(gk l i).length\/ 16 <(tab l i).1.length
   · rw [decide_eq_true a1,if_pos a1];rfl
   · rw [decide_eq_false a1,if_neg a1];rfl
 · show pS F l sC rk (k+ 1) (rows (fun i=>(tab l i).2) l.length) (rows (fun i=>(tab l i).1) l.length) (rows (gk l) l.length) (l.length:Int)=_
   rw [pS,cB];rfl
theorem aF5 (bT:1100 <F) (h:h' l) :
 qx F l F [] [] [] [] 0 =some (AL ((List.range l.length).findSome? (BF l)) (rows (fun i=>(tab l i).2) l.length,rows (fun i=>(tab l i).1) l.length,rows (gk l) l.length,eo l)):=by
 have hlen:=h.right.len
 refine Py (n:=l.length) (fun k i=>qx F l k (rows (fun i=>(tab l i).2) i) (rows (fun i=>(tab l i).1) i) (rows (gk l) i) ((eo l).take i) (i:Int)) _ _ (fun k i hi=>?_) (fun k=>?_) (F:=F) (by omega)
 · obtain ⟨x,ai⟩:∃ x,l[i]? =some x:=⟨l[i],List.getElem?_eq_getElem hi⟩
   have ez:(eo l).take i++[dN l x.bZ]=(eo l).take (i+ 1):=by rw [List.take_add_one,XV ai];rfl
   show qx F l (k+ 1) (rows (fun i=>(tab l i).2) i) (rows (fun i=>(tab l i).1) i) (rows (gk l) i) ((eo l).take i) (i:Int)=_
   rw [qx,cC hi,cond_true,h.XK bT (by omega) (by omega),Option.bind_some,h.aF6 bT (by omega) (by omega),Option.bind_some,ZS,cc ai,Option.bind_some,wo ⟨by omega,by omega⟩,Option.bind_some,
    jz (by simp only [List.length_take,Dl,List.length_cons,List.length_nil];omega),Option.bind_some,
    jz (by simp only [rows,List.length_map,List.length_range,List.length_cons,List.length_nil];omega),Option.bind_some,jz (by simp only [rows,List.length_map,List.length_range,List.length_cons,List.length_nil];omega),Option.bind_some,
    jz (by simp only [rows,List.length_map,List.length_range,List.length_cons,List.length_nil];omega),Option.bind_some,gO hi (by omega),<-Dd (gk l),<-Dd (fun i=>(tab l i).1),<-Dd (fun i=>(tab l i).2),ez]
   unfold BF
   by_cases a1:12 <(gk l i).length\/ 16 <(tab l i).1.length
   · rw [decide_eq_true a1,if_pos a1];rfl
   · rw [decide_eq_false a1,if_neg a1];rfl
 · show qx F l (k+ 1) (rows (fun i=>(tab l i).2) l.length) (rows (fun i=>(tab l i).1) l.length) (rows (gk l) l.length) ((eo l).take l.length) (l.length:Int)=_
   rw [qx,cB,List.take_of_length_le (by rw [Dl];omega)];rfl
theorem nL {α:Type} {e:Int} (h:e≠ 0) {x y:α}:cond (!decide (e= 0)) x y=x:=by rw [decide_eq_false h];rfl
theorem np {α:Type} {x y:α}:cond (!decide ((0 :Int)= 0)) x y=y:=rfl
theorem aGO {e:Int} (h:l.findSome? sE=some e):e= 4 :=by
 obtain ⟨x,_,ai⟩:=List.exists_of_findSome?_eq_some h
 unfold sE at ai
 split at ai
 · cases ai
 · injection ai with ai;exact ai.symm
theorem aE0 {e:Int} (h:l.findSome? (pV l)=some e):e= 5 :=by
 obtain ⟨x,_,ai⟩:=List.exists_of_findSome?_eq_some h
 unfold pV at ai
 split at ai
 · cases ai
 · injection ai with ai;exact ai.symm
theorem ajO {e:Int} (h:(List.range l.length).findSome? (tw l)=some e):e= 4 :=by
 obtain ⟨x,_,ai⟩:=List.exists_of_findSome?_eq_some h
 unfold tw at ai
 split at ai
 · cases ai
 · injection ai with ai;exact ai.symm
theorem aGZ {nm:List UInt8} (h:0 <=dN l nm):(dp (fH 0 l) nm).getD 0 =dN l nm:=by
 rw [C2]
 unfold dN at h ⊢
 cases b5:fg (jF nm) l with
 | none=>rw [b5] at h;simp at h
 | some i=>simp
theorem ajq (bT:1100 <F) (I:Fits F l):∃ e,Ez F l=some e /\
 ((e≠ 0 /\xV F l=some (Mi,e)) \/
  (e= 0 /\h' l/\ ∃ sC rk:Int × df,sC.2.cA=fH 0 l/\rk.2.b3=eo l /\
   xV F l=dr (α:=(List (List Target)) × (List (List (List UInt8))) × (List (List Field))) (pS F l sC rk F [] [] [] 0) fun ((nF,nG,nH):(List (List Target)) × (List (List (List UInt8))) × (List (List Field)))=>some ((⟨l,rk.2.b3,nH,nG,nF⟩:bs),0))):=by
 unfold Ez xV
 rw [aht I,aEf I,Option.bind_some,Option.bind_some]
 by_cases bJ:r2 l= 0
 case neg=>exact ⟨r2 l,by rw [nL bJ],.inl ⟨bJ,by rw [nL bJ];rfl⟩⟩
 rw [bJ,np,np]
 have g2:=ajt bJ
 have hlen:=g2.len
 rw [aFi (by omega) g2,Option.bind_some]
 rcases aE4 (F:=F) (by omega) g2 with ⟨mC,CT,An⟩ | ⟨_,⟨m,CT⟩,An⟩
 case inr=>
  unfold CO
  simp only
  rw [CT,An]
  exact ⟨6,rfl,.inl ⟨by decide,rfl⟩⟩
 rw [An,qc,wo ⟨by omega,by omega⟩,Option.bind_some,wo ⟨by omega,by omega⟩,Option.bind_some]
 have ay_:CO F ⟨l,[],[]⟩=some (cond (decide (0 <=dN l [79,98,106,101,99,116]) && decide (0 <=dN l [69,114,114,111,114])) 0 5,⟨l,fH 0 l,[]⟩):=by
  unfold CO
  simp only
  rw [CT,qc,WC,WC]
  cases decide (0 <=dN l [79,98,106,101,99,116]) <;> cases decide (0 <=dN l [69,114,114,111,114]) <;> rfl
 rw [ay_,Option.bind_some]
 by_cases TW:0 <=dN l [79,98,106,101,99,116]
 case neg=>
  rw [decide_eq_true (show dN l [79,98,106,101,99,116] < 0 by omega),decide_eq_false TW]
  exact ⟨5,rfl,.inl ⟨by decide,rfl⟩⟩
 rw [decide_eq_false (show ¬ dN l [79,98,106,101,99,116] < 0 by omega),decide_eq_true TW,cond_false]
 by_cases Ct:0 <=dN l [69,114,114,111,114]
 case neg=>
  rw [decide_eq_true (show dN l [69,114,114,111,114] < 0 by omega),decide_eq_false Ct]
  exact ⟨5,rfl,.inl ⟨by decide,rfl⟩⟩
 rw [decide_eq_false (show ¬ dN l [69,114,114,111,114] < 0 by omega),decide_eq_true Ct,cond_false,Bool.and_self,cond_true]
 simp only [Option.bind_some,decide_true,Bool.not_true,cond_false]
 unfold L8
 simp only
 rw [aGM (by omega) g2,aGN (by omega) g2,jU,jU]
 cases bO:l.findSome? sE with
 | some e=>
   have:=aGO bO
   subst this
   exact ⟨4,rfl,.inl ⟨by decide,rfl⟩⟩
 | none=>
 simp only [Option.map_none,o1]
 obtain ⟨o,bm,hm⟩:=aEY (F:=F) (by omega) g2
 rw [aEZ (by omega) g2,jU,hm,<-bm]
 cases o with
 | some r=>
   simp only [Option.map_some] at bm
   have:=aE0 bm.symm
   refine ⟨5,by simp only [Option.map_some,o1];rw [this],.inl ⟨by decide,?_⟩⟩
   obtain ⟨a,b⟩:=r
   simp only at this
   subst this
   rfl
 | none=>
 simp only [Option.map_none,o1,AL,qc]
 simp only [Option.map_none] at bm
 rw [ajN bT g2,jU,ajM bT g2,jU]
 cases hc:(List.range l.length).findSome? (tw l) with
 | some e=>
   have:=ajO hc
   subst this
   exact ⟨4,rfl,.inl ⟨by decide,rfl⟩⟩
 | none=>
 simp only [Option.map_none,o1,Option.bind_some,decide_true,Bool.not_true,cond_false]
 have ay8:∀ c ∈ l,c.bZ= []\/ 0 <=dN l c.bZ:=fun c nz=>by
  have:=List.findSome?_eq_none_iff.1 bm.symm c nz
  unfold pV at this
  split at this
  · assumption
  · cases this
 have aBh:∀ i,i <l.length-> ∃ c,eB (eo l) l.length (i:Int)=some c:=fun i hi=>by
  have:=List.findSome?_eq_none_iff.1 hc i (by simpa using hi)
  unfold tw at this
  split at this
  · rename_i aC;exact Option.isSome_iff_exists.1 aC
  · cases this
 have kX:h' l:=⟨g2,mC,ay8,aBh,fun c nz=>List.findSome?_eq_none_iff.1 bO c nz,TW⟩
 have GJ:dN l [69,114,114,111,114] <l.length:=Qg
 obtain ⟨x,ai,_⟩:=vb (l:=l) Ct GJ
 unfold L9
 simp only [aGZ Ct]
 rw [kX.XK bT Ct GJ,Option.bind_some,kX.Wv bT (fH 0 l) Ct GJ,Option.bind_some,ai,Option.bind_some,Option.bind_some]
 by_cases a5:((!decide (x.bZ= [79,98,106,101,99,116])) || (decide (((gk l (dN l [69,114,114,111,114])).length:Int)= 0)))=true
 · rw [a5]
   exact ⟨4,rfl,.inl ⟨by decide,rfl⟩⟩
 rw [Bool.eq_false_iff.2 a5,cond_false,cond_false]
 have eZ:0 <(gk l (dN l [69,114,114,111,114])).length:=by
  simp only [Bool.or_eq_true,decide_eq_true_eq,not_or] at a5
  omega
 have aBz:idx (gk l (dN l [69,114,114,111,114])) 0 =some ((gk l (dN l [69,114,114,111,114]))[0]):=by
  have:=cc (l:=gk l (dN l [69,114,114,111,114])) (i:=0) (List.getElem?_eq_getElem eZ)
  exact this
 rw [aBz,Option.bind_some,Option.bind_some]
 by_cases bf:((gk l (dN l [69,114,114,111,114]))[0]).Kind.Kind= 1
 case neg=>
  rw [decide_eq_false bf]
  exact ⟨4,rfl,.inl ⟨by decide,rfl⟩⟩
 rw [decide_eq_true bf]
 simp only [Bool.not_true,cond_false,Option.bind_some,decide_true]
 rw [aGK bT g2,jU,aGJ bT g2,Option.bind_some]
 cases z8:(rv l).findSome? (jV l) with
 | some e=>
   have:e= 5 :=by
    obtain ⟨s,_,aC⟩:=List.exists_of_findSome?_eq_some z8
    rcases afU (l:=l) (s:=s) with aS | aS
    · rw [aS] at aC;cases aC
    · rw [aS] at aC;injection aC with aC;exact aC.symm
   subst this
   exact ⟨5,rfl,.inl ⟨by decide,rfl⟩⟩
 | none=>
 simp only [o1,Option.getD_none,decide_true,Bool.not_true,cond_false]
 rw [aFd bT kX,jU,aFc bT kX,Option.bind_some]
 cases aze:(List.range l.length).findSome? (x9 l) with
 | some e=>
   have:e= 6 :=by
    obtain ⟨s,_,aC⟩:=List.exists_of_findSome?_eq_some aze
    unfold x9 tx at aC
    split at aC
    · split at aC
      · cases aC
      · simp at aC;exact aC.symm
    · simp at aC;exact aC.symm
   subst this
   exact ⟨6,rfl,.inl ⟨by decide,rfl⟩⟩
 | none=>
 simp only [o1,Option.getD_none,decide_true,Bool.not_true,cond_false]
 rw [aEX bT kX,jU,aEW bT kX,Option.bind_some]
 cases TS:(List.range l.length).findSome? (fun i=>(l[i]?).bind fun c=>CS l c i) with
 | some e=>
   have:e= 4 :=by
    obtain ⟨i,_,aC⟩:=List.exists_of_findSome?_eq_some TS
    cases CB:l[i]? with
    | none=>rw [CB] at aC;cases aC
    | some c=>
      rw [CB,Option.bind_some] at aC
      unfold CS at aC
      rcases r5 (abz (l:=l) c) (eD l i).tail with aS | aS
      · rw [aS] at aC;cases aC
      · rw [aS] at aC;injection aC with aC;exact aC.symm
   subst this
   exact ⟨4,rfl,.inl ⟨by decide,rfl⟩⟩
 | none=>
 simp only [o1,Option.getD_none,decide_true,Bool.not_true,cond_false]
 exact ⟨0,rfl,.inr ⟨rfl,kX,(0,⟨l,fH 0 l,[]⟩),(0,⟨l,fH 0 l,eo l⟩),rfl,rfl,rfl⟩⟩
theorem aEL (bT:1100 <F) (I:Fits F l):∃ r:bs × Int,xV F l=some r/\EA F l=some r/\(r.2 = 0 ->h' l/\r.1 =linked l)/\(r.2 ≠ 0 ->r.1 =Mi):=by
 obtain ⟨e,aC,aS⟩:=ajq bT I
 unfold EA
 rw [aC,Option.bind_some]
 rcases aS with ⟨he,aS⟩ | ⟨rfl,kX,sC,rk,QD,FD,aS⟩
 · exact ⟨_,aS,by rw [nL he];rfl,fun h=>absurd h he,fun _=>rfl⟩
 · rw [np,aS,aEM bT kX sC rk QD FD,aF5 bT kX]
   cases a1:(List.range l.length).findSome? (BF l) with
   | some r=>
     have:r=(Mi,2):=by
      obtain ⟨i,_,aC⟩:=List.exists_of_findSome?_eq_some a1
      unfold BF at aC
      split at aC
      · injection aC with aC;exact aC.symm
      · cases aC
     subst this
     exact ⟨_,rfl,rfl,fun h=>absurd h (by decide),fun _=>rfl⟩
   | none=>
     refine ⟨_,rfl,?_,fun _=>⟨kX,?_⟩,fun h=>absurd rfl h⟩
     · simp only [AL,qc,FD]
     · simp only [FD];rfl
end
end J
