/- Part 6 of the proof that is ended in the last text: small logic, what the functions compute, walks, plain laws. -/
import Derived.Test.YtpkhpagplommoaaGreatZm5
namespace Go.Proofs.YtpkhpagplommoaaGreat
open Go Go.RowKit a2
set_option maxHeartbeats 4000000
set_option maxRecDepth 20000
theorem aiE {W:World} {X:List Nat} {F:Nat} {h_:J.bs} {aa:J.bw} {r:Int} {ag:aS} {ah:Nat} {aI:aS} {aQ:Nat} {aT:aS} {aV:Nat} {bl:aS} {bp:Nat} {bj:aS} {bk:Nat} {bB:aS} {bC:Nat} {bL:aS} {bN:Nat} {M0:List Nat} (hm:au W M0 X W [] [U (aj .i64) ag ah h_.Words,U (aj .i64) aI aQ h_.ay,U J.bd aT aV aa.aJ,U (aj .i64) bl bp aa.aG,U (aH J.aX) bj bk aa.Fields,U (aH bz) bB bC aa.Names,U (aH J.bR) bL bN aa.aE]) (h:J.BQ F h_ aa=some r) :
 Calls Tryz.prog 50 [.agg #[.q ag ah h_.Words,.i h_.ar,.i h_.aA,.i h_.aO,.i h_.aM,.q aI aQ h_.ay,.i h_.Next],.agg #[.q aT aV aa.aJ,.q bl bp aa.aG,.q bj bk aa.Fields,.q bB bC aa.Names,.q bL bN aa.aE]].toArray W (fun e aD=>e= .returned (.i r)/\au W M0 X aD [] []):=by
 refine enter Tryz.func50 rfl Tryz.ntmps50 rfl fun a I=>?_;rw [J.BQ] at h;refine wp_seq_k fun K cZ=>aY <| cy (cs:=[.q ag ah h_.Words,.i h_.ar,.i h_.aA,.i h_.aO,.i h_.aM,.q aI aQ h_.ay,.i h_.Next]) wn (ei rfl rfl (I.g rfl)) I hm rfl rfl fun a b6 w _ I hm=>cy (cs:=[.q aT aV aa.aJ,.q bl bp aa.aG,.q bj bk aa.Fields,.q bB bC aa.Names,.q bL bN aa.aE]) wn (ei rfl rfl (I.g rfl)) I hm rfl rfl fun a cR w _ I hm=>aP 1 [] [] I fun a I=>wpList_nil (cZ _ _ ?_);refine wp_seq_k fun K bI=>?_
 refine wp_seq_k fun K ca=>aY <| bf 2 [0,1] [(21,.i h_.ar)] [b6,1] (aw (aZ (hm.e 1 rfl)) ax) I fun a I=>?_;obtain ⟨b7,k4,h⟩:=J.aF h;have hc:=hm;refine bP (vs:=[.i h_.ar,.i 3,.i 2000]) wn rfl Tryz.call41 ⟨(I.g rfl),(cW _ _),(cW _ _),trivial⟩ (oo ((hc.into 0).pick trivial) k4) I rfl rfl ?_;rintro _ w ⟨rfl,af⟩;refine ⟨_,rfl,fun a I=>?_⟩;have hm:=hc.back 0 af;clear af hc;refine aP 2 [] [(24,.bool (!b7))] I fun a I=>?_;rcases Bool.eq_false_or_eq_true (!b7) with q4 | q4
 · have h:=J.di q4 h;have I:=I.b5 24 rfl q4;refine aP 5 [1,1,1,1,1] [(29,.bool true)] I fun a I=>wpList_nil (ca _ _ ?_);refine eN (I.g rfl) rfl <| bt [] [(4,.i 3)] I fun a I=>wp_ret ?_;obtain rfl:=aB h;refine ak <| bn Tryz.results50 I rfl ?_;exact ⟨rfl,hm.aW [] []⟩
 have h:=J.dh q4 h;have I:=I.b5 24 rfl q4;refine bf 2 [1,1,0,2] [(26,.i h_.aA)] [b6,2] (aw (aZ (hm.e 1 rfl)) ax) I fun a I=>?_;obtain ⟨nI,rh,h⟩:=J.aF h;have hc:=hm;refine bP (vs:=[.i h_.aA,.i 3,.i 2000]) (c1 I rfl rfl rfl rfl) rfl Tryz.call41 ⟨(I.g rfl),(cW _ _),(cW _ _),trivial⟩ (oo ((hc.into 0).pick trivial) rh) I rfl rfl ?_;rintro _ w ⟨rfl,af⟩;refine ⟨_,rfl,fun a I=>?_⟩;have hm:=hc.back 0 af;clear af hc;refine aP 2 [1,1] [(29,.bool (!nI))] I fun a I=>wpList_nil (ca _ _ ?_);refine bi (I.g rfl) h (fun apC h=>?_) (fun apC h=>?_)
 · refine bt [] [(4,.i 3)] I fun a I=>wp_ret ?_;obtain rfl:=aB h;refine ak <| bn Tryz.results50 I rfl ?_;exact ⟨rfl,hm.aW [] []⟩
 refine wp_skip <| bI _ _ <| wp_seq_k fun K dL=>wp_seq_k fun K dt=>eI [0,0,0,1,0,2] [(39,.bool (!decide ((h_.Words.length:Int)=(J.ap ((J.ap (1 +h_.ar))+h_.aA)))))] [b6,2,b6,1,b6,0] (aw (aZ (hm.e 1 rfl)) ax) I fun a I=>dt _ _ <| bi (I.g rfl) h (fun Rt h=>?_) (fun Rt h=>?_)
 · refine bt [] [(4,.i 1)] I fun a I=>wp_ret ?_;obtain rfl:=aB h;refine ak <| bn Tryz.results50 I rfl ?_;exact ⟨rfl,hm.aW [] []⟩
 refine wp_skip <| dL _ _ <| wp_seq_k fun K dp=>wp_seq_k fun K da=>aY <| bf 5 [0,3,0,1] [(41,.i h_.aO),(44,.i (J.ap (h_.ar+ 1)))] [b6,1,b6,3] (aw (aZ (hm.e 1 rfl)) ax) I fun a I=>?_;obtain ⟨eO,HI,h⟩:=J.aF h;have hc:=hm;refine bP (vs:=[.i h_.aO,.i 1,.i (J.ap (h_.ar+ 1))]) wn rfl Tryz.call41 ⟨(I.g rfl),(cW _ _),(I.g rfl),trivial⟩ (oo ((hc.into 0).pick trivial) HI) I rfl rfl ?_;rintro _ w ⟨rfl,af⟩;refine ⟨_,rfl,fun a I=>?_⟩;have hm:=hc.back 0 af;clear af hc
 refine aP 2 [] [(47,.bool (!eO))] I fun a I=>?_;rcases Bool.eq_false_or_eq_true (!eO) with ua | ua
 · have h:=J.di ua h;have I:=I.b5 47 rfl ua;refine aP 19 [1,1,1,1,1,1,1,1,1,1,1,1,1,1,1,1,1,1] [(66,.bool true)] I fun a I=>wpList_nil (da _ _ ?_);refine eN (I.g rfl) rfl <| bt [] [(4,.i 3)] I fun a I=>wp_ret ?_;obtain rfl:=aB h;refine ak <| bn Tryz.results50 I rfl ?_;exact ⟨rfl,hm.aW [] []⟩
 have h:=J.dh ua h;have I:=I.b5 47 rfl ua;refine bf 11 [1,1,0,4,1,1,0,1,1,1,1,0,1,1,1,0,2,1,1] [(49,.i h_.aM),(52,.i (J.ap (h_.ar+ 1))),(58,.i (J.ap ((J.ap (h_.ar+h_.aA))+ 1)))] [b6,2,b6,1,b6,1,b6,4] (aw (aZ (hm.e 1 rfl)) ax) I fun a I=>?_;obtain ⟨gh,HK,h⟩:=J.aF h;have hc:=hm;refine bP (vs:=[.i h_.aM,.i (J.ap (h_.ar+ 1)),.i (J.ap ((J.ap (h_.ar+h_.aA))+ 1))]) (c1 I rfl rfl rfl rfl) rfl Tryz.call41 ⟨(I.g rfl),(I.g rfl),(I.g rfl),trivial⟩ (oo ((hc.into 0).pick trivial) HK) I rfl rfl ?_;rintro _ w ⟨rfl,af⟩;refine ⟨_,rfl,fun a I=>?_⟩;have ad:a' [] _ w:=af.ev;have hm:=hc.back 0 af
 clear af hc;clear ad;refine bf 7 [1,1,0,0,0,6,0,0] [(66,.bool ((!gh) || (decide (h_.Next < 1))))] [b6,6] (aw (aZ (hm.e 1 rfl)) ax) I fun a I=>wpList_nil (da _ _ ?_);refine bi (I.g rfl) h (fun q5 h=>?_) (fun q5 h=>?_)
 · refine bt [] [(4,.i 3)] I fun a I=>wp_ret ?_;obtain rfl:=aB h;refine ak <| bn Tryz.results50 I rfl ?_;exact ⟨rfl,hm.aW [] []⟩
 refine wp_skip <| dp _ _ <| wp_seq_k fun K dQ=>aY <| bf 2 [0,0,1,0] [(68,.agg #[.q ag ah h_.Words,.i h_.ar,.i h_.aA,.i h_.aO,.i h_.aM,.q aI aQ h_.ay,.i h_.Next]),(69,.agg #[.q aT aV aa.aJ,.q bl bp aa.aG,.q bj bk aa.Fields,.q bB bC aa.Names,.q bL bN aa.aE])] [cR,0,b6,0] (aw (aZ (hm.e 1 rfl)) (aw (aZ (hm.e 0 rfl)) ax)) I fun a I=>?_;obtain ⟨ct,HL,h⟩:=J.aF h;have hc:=hm
 refine bP (vs:=[.agg #[.q ag ah h_.Words,.i h_.ar,.i h_.aA,.i h_.aO,.i h_.aM,.q aI aQ h_.ay,.i h_.Next],.agg #[.q aT aV aa.aJ,.q bl bp aa.aG,.q bj bk aa.Fields,.q bB bC aa.Names,.q bL bN aa.aE]]) wn rfl Tryz.call61 ⟨(I.g rfl),(I.g rfl),trivial⟩ (aiP ((hc.into 0).pick ⟨⟨0,rfl⟩,⟨1,rfl⟩,⟨2,rfl⟩,⟨3,rfl⟩,⟨4,rfl⟩,⟨5,rfl⟩,⟨6,rfl⟩,trivial⟩) HL) I rfl rfl ?_;rintro _ w ⟨gI,gJ,aKI,dX,ek,aKJ,rfl,af⟩;refine ⟨_,rfl,fun a I=>?_⟩;have hm:=hc.back 0 af;clear af hc
 refine aP 7 [] [(5,.q gI gJ ct.1),(6,.q dX ek ct.2.1),(7,.bool ct.2.2)] I fun a I=>wpList_nil (dQ _ _ ?_);refine wp_seq_k fun K fx=>bc [] [(75,.bool (!ct.2.2))] I fun a I=>bi (I.g rfl) h (fun ap7 h=>?_) (fun ap7 h=>?_)
 · refine bt [] [(4,.i 1)] I fun a I=>wp_ret ?_;obtain rfl:=aB h;refine ak <| bn Tryz.results50 I rfl ?_;exact ⟨rfl,hm.aW [] []⟩
 refine wp_skip <| fx _ _ <| wp_seq_k fun K hf=>aY <| gw (cs:=[]) wn (rT Tryz.underlying22 Tryz.sizeOf3 rfl) I hm rfl rfl fun a acx w _ I hm=>aP 1 [] [(77,.q gI gJ ct.1)] I fun a I=>?_;obtain ⟨aeZ,ay1,h⟩:=J.aF h;have hm:=hm.freeze 1 0 rfl rfl;have hm:=hm.jH (sz:=1) 0 ([]:eK) rfl rfl rfl rfl;have hm:=hm.more (y:=al.rows (aj .i64) [] []) rfl;refine nM (T:=(aj .i64)) 0 0 1 hm rfl rfl rfl Tryz.underlying22 jC rfl rfl ay1 rfl wn rfl (I.g rfl) (I.g rfl) I rfl rfl fun a vX xh aKN w I hm=>?_
 refine aP 1 [] [(79,.q dX ek ct.2.1)] I fun a I=>?_;obtain ⟨cn,T4,h⟩:=J.aF h;have hm:=hm.freeze 1 4 rfl rfl;refine nM (T:=(aj .i64)) 0 1 0 hm rfl rfl rfl Tryz.underlying22 jC rfl rfl T4 rfl wn rfl (I.g rfl) (I.g rfl) I rfl rfl fun a eQ fo fv w I hm=>aP 1 [] [(8,.q eQ fo cn)] I fun a I=>wpList_nil (hf _ _ ?_);refine wp_seq_k fun K fy=>bc [] [(9,.i 0)] I fun a I=>?_;obtain ⟨US,h,Sk⟩:=J.ef h
 refine cb (fun a w=>Fr ⟨288,[]⟩ [(2,.aL b6),(3,.aL cR),(6,.q dX ek ct.2.1),(8,.q eQ fo cn)] a/\au W M0 X w [aq.row 3 1 (.q eQ fo cn) cn fv,aq.bm cR 30 [.q aT aV aa.aJ,.q bl bp aa.aG,.q bj bk aa.Fields,.q bB bC aa.Names,.q bL bN aa.aE],aq.bm b6 24 [.q ag ah h_.Words,.i h_.ar,.i h_.aA,.i h_.aO,.i h_.aM,.q aI aQ h_.ay,.i h_.Next]] [al.rows (aj .i64) fv cn,U (aj .i64) dX ek ct.2.1,U (aj .i64) gI gJ ct.1,U (aj .i64) ag ah h_.Words,U (aj .i64) aI aQ h_.ay,U J.bd aT aV aa.aJ,U (aj .i64) bl bp aa.aG,U (aH J.aX) bj bk aa.Fields,U (aH bz) bB bC aa.Names,U (aH J.bR) bL bN aa.aE]/\US=(.go ())) (fun K fU=>?_) ?_
 · refine cA (fun (bu:Nat) a w=>∃ (oR:Int),Fr ⟨288,[]⟩ [(2,.aL b6),(3,.aL cR),(6,.q dX ek ct.2.1),(8,.q eQ fo cn),(9,.i oR)] a/\au W M0 X w [aq.row 3 1 (.q eQ fo cn) cn fv,aq.bm cR 30 [.q aT aV aa.aJ,.q bl bp aa.aG,.q bj bk aa.Fields,.q bB bC aa.Names,.q bL bN aa.aE],aq.bm b6 24 [.q ag ah h_.Words,.i h_.ar,.i h_.aA,.i h_.aO,.i h_.aM,.q aI aQ h_.ay,.i h_.Next]] [al.rows (aj .i64) fv cn,U (aj .i64) dX ek ct.2.1,U (aj .i64) gI gJ ct.1,U (aj .i64) ag ah h_.Words,U (aj .i64) aI aQ h_.ay,U J.bd aT aV aa.aJ,U (aj .i64) bl bp aa.aG,U (aH J.aX) bj bk aa.Fields,U (aH bz) bB bC aa.Names,U (aH J.bR) bL bN aa.aE]/\J.wm h_ cn bu oR=some US) F ⟨0,I.cut,hm.ec [0,1,4,7,8,9,10,11,12,13],h⟩ ?_ ?_
   · rintro a w ⟨oR,I,hm,h⟩;exact absurd h (by simp [J.wm])
   rintro bu a w ⟨oR,I,hm,h⟩ K gr;rw [J.wm] at h;refine wp_seq_k fun K gN=>bc [] [(84,.bool (decide (oR <(cn.length:Int))))] I fun a I=>bi (I.g rfl) h (fun aoZ h=>?_) (fun aoZ h=>?_)
   · refine wp_skip <| gN _ _ <| wp_seq_k fun K hY=>wp_block <| wp_seq_k fun K ht=>hd (m:=14) 14 (a' []) (by kernel_rfl) rfl fun w ad=>?_;have hm:=hm.dB ad;clear ad;have ba:=hm;have av:=a'.refl [] w;refine cc [0,1,2,3,9,10,11] 7 [0,0,0,6] [(88,.q ag ah h_.Words),(89,.q eQ fo cn),(90,.i oR),(98,.i (J.ap (h_.Next - 1)))] [b6,6,b6,0] (fun a7 ad=>(aw (b9 ad (aZ (ba.e 2 rfl))) ax)) I av fun a I=>?_;obtain ⟨vE,UC,h⟩:=J.aF h;obtain ⟨Q4,Sc,_,rfl,RJ⟩:=gi (ba.e 0 rfl) (ba.d 0 rfl) UC
     refine eR 4 rfl (by kernel_rfl) wn (fun a7=>bF Tryz.underlying22 Tryz.sizeOf3 rfl (I.g rfl) (I.g rfl) Q4 Sc) av I rfl rfl fun a I=>cc [5,6] 2 [0,0] [(93,.i (J.ap (vE+ 2)))] [bG eQ,bJ eQ+(oR).toNat* 1] (fun a7 ad=>(aw (b9 ad RJ) ax)) I av fun a I=>?_;obtain ⟨ia,Au,h⟩:=J.aF h;obtain ⟨zM,Ac,_,rfl,zZ⟩:=bZ _ (ba.d 3 rfl) Au;refine eR 7 rfl (by kernel_rfl) wn (fun a7=>bF Tryz.underlying22 Tryz.sizeOf3 rfl (I.g rfl) (I.g rfl) zM Ac) av I rfl rfl fun a I=>?_
     refine cc [8] 1 [0,0] [(95,.i ia)] [bG ag,bJ ag+(J.ap (vE+ 2)).toNat* 1] (fun a7 ad=>(aw (b9 ad zZ) ax)) I av fun a I=>cQ 12 rfl (by kernel_rfl) (fun _=>av) ?_;obtain ⟨W3,ss,h⟩:=J.aF h;have hc:=hm;refine bP (vs:=[.i ia,.i 1,.i (J.ap (h_.Next - 1))]) wn rfl Tryz.call41 ⟨(I.g rfl),(cW _ _),(I.g rfl),trivial⟩ (oo ((hc.into 0).pick trivial) ss) I rfl rfl ?_;rintro _ w ⟨rfl,af⟩;refine ⟨_,rfl,fun a I=>?_⟩;have ad:a' [] _ w:=af.ev;have hm:=hc.back 0 af;clear af hc;have av:=fp av ad;clear ad;refine cD ?_
     refine cc [13] 1 [] [(100,.bool (!W3))] [] (fun a7 ad=>ax) I av fun a I=>fm (by kernel_rfl) ?_ (fun _=>av);clear ba av;refine ht _ _ <| bi (I.g rfl) h (fun ao5 h=>?_) (fun ao5 h=>?_)
     · refine bt [] [(4,.i 3)] I fun a I=>wp_ret ?_;obtain rfl:=aB h;obtain rfl:=aB Sk;refine a6 (ak (ak (a6 (ak (ak ?_)))));refine bn Tryz.results50 I rfl ?_;exact ⟨rfl,hm.aW [] []⟩
     refine wp_skip <| hY _ _ <| DB [] [(2,.aL b6),(3,.aL cR),(6,.q dX ek ct.2.1),(8,.q eQ fo cn),(9,.i (J.ap (oR+ 1)))] I fun a I=>?_;exact gr _ _ ⟨J.ap (oR+ 1),I.cut,hm,h⟩
   refine wp_exit <| bx (bx (cw ?_));exact fU _ _ ⟨I.cut,hm,(os h)⟩
 rintro a w ⟨I,hm,bb⟩;subst US;have h:=Sk;clear Sk;dsimp only [J.dZ] at h;refine fy _ _ <| wp_seq_k fun K hx=>bc [] [(10,.i 0)] I fun a I=>?_;obtain ⟨V',h,TR⟩:=J.ef h
 refine cb (fun a w=>Fr ⟨288,[]⟩ [(2,.aL b6),(3,.aL cR),(6,.q dX ek ct.2.1),(8,.q eQ fo cn)] a/\au W M0 X w [aq.row 3 1 (.q eQ fo cn) cn fv,aq.bm cR 30 [.q aT aV aa.aJ,.q bl bp aa.aG,.q bj bk aa.Fields,.q bB bC aa.Names,.q bL bN aa.aE],aq.bm b6 24 [.q ag ah h_.Words,.i h_.ar,.i h_.aA,.i h_.aO,.i h_.aM,.q aI aQ h_.ay,.i h_.Next]] [al.rows (aj .i64) fv cn,U (aj .i64) dX ek ct.2.1,U (aj .i64) gI gJ ct.1,U (aj .i64) ag ah h_.Words,U (aj .i64) aI aQ h_.ay,U J.bd aT aV aa.aJ,U (aj .i64) bl bp aa.aG,U (aH J.aX) bj bk aa.Fields,U (aH bz) bB bC aa.Names,U (aH J.bR) bL bN aa.aE]/\V'=(.go ())) (fun K jk=>?_) ?_
 · refine cA (fun (c4:Nat) a w=>∃ (iI:Int),Fr ⟨288,[]⟩ [(2,.aL b6),(3,.aL cR),(6,.q dX ek ct.2.1),(8,.q eQ fo cn),(10,.i iI)] a/\au W M0 X w [aq.row 3 1 (.q eQ fo cn) cn fv,aq.bm cR 30 [.q aT aV aa.aJ,.q bl bp aa.aG,.q bj bk aa.Fields,.q bB bC aa.Names,.q bL bN aa.aE],aq.bm b6 24 [.q ag ah h_.Words,.i h_.ar,.i h_.aA,.i h_.aO,.i h_.aM,.q aI aQ h_.ay,.i h_.Next]] [al.rows (aj .i64) fv cn,U (aj .i64) dX ek ct.2.1,U (aj .i64) gI gJ ct.1,U (aj .i64) ag ah h_.Words,U (aj .i64) aI aQ h_.ay,U J.bd aT aV aa.aJ,U (aj .i64) bl bp aa.aG,U (aH J.aX) bj bk aa.Fields,U (aH bz) bB bC aa.Names,U (aH J.bR) bL bN aa.aE]/\J.tf F h_ cn c4 iI=some V') F ⟨0,I.cut,hm,h⟩ ?_ ?_
   · rintro a w ⟨iI,I,hm,h⟩;exact absurd h (by simp [J.tf])
   rintro c4 a w ⟨iI,I,hm,h⟩ K mw;rw [J.tf] at h;refine wp_seq_k fun K jA=>bc [] [(104,.bool (decide (iI <(cn.length:Int))))] I fun a I=>bi (I.g rfl) h (fun aoR h=>?_) (fun aoR h=>?_)
   · refine wp_skip <| jA _ _ <| wp_seq_k fun K j_=>?_;obtain ⟨aeh,h,Ss⟩:=J.e3 h
     refine cb (fun a w=>Fr ⟨288,[]⟩ [(2,.aL b6),(3,.aL cR),(6,.q dX ek ct.2.1),(8,.q eQ fo cn),(10,.i iI)] a/\au W M0 X w [aq.row 3 1 (.q eQ fo cn) cn fv,aq.bm cR 30 [.q aT aV aa.aJ,.q bl bp aa.aG,.q bj bk aa.Fields,.q bB bC aa.Names,.q bL bN aa.aE],aq.bm b6 24 [.q ag ah h_.Words,.i h_.ar,.i h_.aA,.i h_.aO,.i h_.aM,.q aI aQ h_.ay,.i h_.Next]] [al.rows (aj .i64) fv cn,U (aj .i64) dX ek ct.2.1,U (aj .i64) gI gJ ct.1,U (aj .i64) ag ah h_.Words,U (aj .i64) aI aQ h_.ay,U J.bd aT aV aa.aJ,U (aj .i64) bl bp aa.aG,U (aH J.aX) bj bk aa.Fields,U (aH bz) bB bC aa.Names,U (aH J.bR) bL bN aa.aE]/\aeh=(.go ())) (fun K j'=>?_) ?_
     · refine bc [] [(11,.i 0)] I fun a I=>?_;obtain ⟨U0,h,Su⟩:=J.e3 h
       refine cb (fun a w=>Fr ⟨288,[]⟩ [(2,.aL b6),(3,.aL cR),(6,.q dX ek ct.2.1),(8,.q eQ fo cn),(10,.i iI)] a/\au W M0 X w [aq.row 3 1 (.q eQ fo cn) cn fv,aq.bm cR 30 [.q aT aV aa.aJ,.q bl bp aa.aG,.q bj bk aa.Fields,.q bB bC aa.Names,.q bL bN aa.aE],aq.bm b6 24 [.q ag ah h_.Words,.i h_.ar,.i h_.aA,.i h_.aO,.i h_.aM,.q aI aQ h_.ay,.i h_.Next]] [al.rows (aj .i64) fv cn,U (aj .i64) dX ek ct.2.1,U (aj .i64) gI gJ ct.1,U (aj .i64) ag ah h_.Words,U (aj .i64) aI aQ h_.ay,U J.bd aT aV aa.aJ,U (aj .i64) bl bp aa.aG,U (aH J.aX) bj bk aa.Fields,U (aH bz) bB bC aa.Names,U (aH J.bR) bL bN aa.aE]/\U0=(.go ())) (fun K ow=>?_) ?_
       · refine cA (fun (eB:Nat) a w=>∃ (nF:Int),Fr ⟨288,[]⟩ [(2,.aL b6),(3,.aL cR),(6,.q dX ek ct.2.1),(8,.q eQ fo cn),(10,.i iI),(11,.i nF)] a/\au W M0 X w [aq.row 3 1 (.q eQ fo cn) cn fv,aq.bm cR 30 [.q aT aV aa.aJ,.q bl bp aa.aG,.q bj bk aa.Fields,.q bB bC aa.Names,.q bL bN aa.aE],aq.bm b6 24 [.q ag ah h_.Words,.i h_.ar,.i h_.aA,.i h_.aO,.i h_.aM,.q aI aQ h_.ay,.i h_.Next]] [al.rows (aj .i64) fv cn,U (aj .i64) dX ek ct.2.1,U (aj .i64) gI gJ ct.1,U (aj .i64) ag ah h_.Words,U (aj .i64) aI aQ h_.ay,U J.bd aT aV aa.aJ,U (aj .i64) bl bp aa.aG,U (aH J.aX) bj bk aa.Fields,U (aH bz) bB bC aa.Names,U (aH J.bR) bL bN aa.aE]/\J.wo h_ cn iI eB nF=some U0) F ⟨0,I.cut,hm,h⟩ ?_ ?_
         · rintro a w ⟨nF,I,hm,h⟩;exact absurd h (by simp [J.wo])
         rintro eB a w ⟨nF,I,hm,h⟩ K lI;rw [J.wo] at h;refine wp_seq_k fun K ox=>bc [] [(109,.bool (decide (nF <iI)))] I fun a I=>bi (I.g rfl) h (fun ao1 h=>?_) (fun ao1 h=>?_)
         · refine wp_skip <| ox _ _ <| wp_seq_k fun K mx=>wp_block <| wp_seq_k fun K q2=>hF (by kernel_rfl) (by kernel_rfl) <| dM 4 [0,0] [(113,.q ag ah h_.Words),(114,.q eQ fo cn),(115,.i iI)] [b6,0] (fun a7 ad=>(aw (b9 ad (aZ (hm.e 2 rfl))) ax)) I fun a I=>?_;obtain ⟨NI,aB3,h⟩:=J.aF h;obtain ⟨ak9,av2,_,rfl,arJ⟩:=gi (hm.e 0 rfl) (hm.d 0 rfl) aB3;refine eM wn (fun a7 ad=>bF Tryz.underlying22 Tryz.sizeOf3 rfl (I.g rfl) (I.g rfl) ak9 av2) I rfl rfl fun a I=>dM 2 [0,0] [(118,.i (J.ap (NI+ 2)))] [bG eQ,bJ eQ+(iI).toNat* 1] (fun a7 ad=>(aw (b9 ad arJ) ax)) I fun a I=>?_
           obtain ⟨NJ,aB4,h⟩:=J.aF h;obtain ⟨ak_,av3,_,rfl,arK⟩:=bZ _ (hm.d 3 rfl) aB4;refine eM wn (fun a7 ad=>bF Tryz.underlying22 Tryz.sizeOf3 rfl (I.g rfl) (I.g rfl) ak_ av3) I rfl rfl fun a I=>ML 5 [0,0,1,0] [(2,.aL b6),(3,.aL cR),(6,.q dX ek ct.2.1),(8,.q eQ fo cn),(10,.i iI),(11,.i nF),(120,.i NJ),(122,.q ag ah h_.Words),(123,.q eQ fo cn),(124,.i nF)] [b6,0,bG ag,bJ ag+(J.ap (NI+ 2)).toNat* 1] (fun a7 ad=>(aw (b9 ad arK) (aw (b9 ad (aZ (hm.e 2 rfl))) ax))) I fun a I=>?_;obtain ⟨NK,aB5,h⟩:=J.aF h
           obtain ⟨ak',av4,_,rfl,arL⟩:=gi (hm.e 0 rfl) (hm.d 0 rfl) aB5;refine eM wn (fun a7 ad=>bF Tryz.underlying22 Tryz.sizeOf3 rfl (I.g rfl) (I.g rfl) ak' av4) I rfl rfl fun a I=>dM 2 [0,0] [(127,.i (J.ap (NK+ 2)))] [bG eQ,bJ eQ+(nF).toNat* 1] (fun a7 ad=>(aw (b9 ad arL) ax)) I fun a I=>?_;obtain ⟨Yp,aB6,h⟩:=J.aF h;obtain ⟨ala,av5,_,rfl,arM⟩:=bZ _ (hm.d 3 rfl) aB6;refine eM wn (fun a7 ad=>bF Tryz.underlying22 Tryz.sizeOf3 rfl (I.g rfl) (I.g rfl) ala av5) I rfl rfl fun a I=>?_
           refine dM 2 [0,0] [(130,.bool (decide (NJ=Yp)))] [bG ag,bJ ag+(J.ap (NK+ 2)).toNat* 1] (fun a7 ad=>(aw (b9 ad arM) ax)) I fun a I=>wpQuiet_nil fun w ad=>?_;have hm:=hm.dB ad;clear ad;refine q2 _ _ <| bi (I.g rfl) h (fun ao3 h=>?_) (fun ao3 h=>?_)
           · refine bt [] [(4,.i 6)] I fun a I=>wp_ret ?_;obtain rfl:=aB h;obtain rfl:=aB Su;obtain rfl:=aB Ss;obtain rfl:=aB TR;refine a6 (ak (ak (a6 (ak (a6 (ak (ak (ak (a6 (ak (ak ?_)))))))))));refine bn Tryz.results50 I rfl ?_;exact ⟨rfl,hm.aW [] []⟩
           refine wp_skip <| mx _ _ <| ch [] [(11,.i (J.ap (nF+ 1)))] I fun a I=>?_;exact lI _ _ ⟨J.ap (nF+ 1),I.cut,hm,h⟩
         refine wp_exit <| bx (bx (cw ?_));exact ow _ _ ⟨I.cut,hm,(os h)⟩
       rintro a w ⟨I,hm,bb⟩;subst U0;have h:=Su;clear Su;dsimp only [J.eV] at h;exact j' _ _ ⟨I.cut,hm,(os h)⟩
     rintro a w ⟨I,hm,bb⟩;subst aeh;have h:=Ss;clear Ss;dsimp only [J.eV] at h;refine j_ _ _ <| ch [] [(10,.i (J.ap (iI+ 1)))] I fun a I=>?_;exact mw _ _ ⟨J.ap (iI+ 1),I.cut,hm,h⟩
   refine wp_exit <| bx (bx (cw ?_));exact jk _ _ ⟨I.cut,hm,(os h)⟩
 rintro a w ⟨I,hm,bb⟩;subst V';have h:=TR;clear TR;dsimp only [J.dZ] at h;refine hx _ _ <| wp_seq_k fun K my=>bc [] [(12,.i 0)] I fun a I=>?_;obtain ⟨Vm,h,SS⟩:=J.ef h
 refine cb (fun a w=>Fr ⟨288,[]⟩ [(2,.aL b6),(3,.aL cR),(6,.q dX ek ct.2.1)] a/\au W M0 X w [aq.row 3 1 (.q eQ fo cn) cn fv,aq.bm cR 30 [.q aT aV aa.aJ,.q bl bp aa.aG,.q bj bk aa.Fields,.q bB bC aa.Names,.q bL bN aa.aE],aq.bm b6 24 [.q ag ah h_.Words,.i h_.ar,.i h_.aA,.i h_.aO,.i h_.aM,.q aI aQ h_.ay,.i h_.Next]] [al.rows (aj .i64) fv cn,U (aj .i64) dX ek ct.2.1,U (aj .i64) gI gJ ct.1,U (aj .i64) ag ah h_.Words,U (aj .i64) aI aQ h_.ay,U J.bd aT aV aa.aJ,U (aj .i64) bl bp aa.aG,U (aH J.aX) bj bk aa.Fields,U (aH bz) bB bC aa.Names,U (aH J.bR) bL bN aa.aE]/\Vm=(.go ())) (fun K q3=>?_) ?_
 · refine cA (fun (fB:Nat) a w=>∃ (lf:Int),Fr ⟨288,[]⟩ [(2,.aL b6),(3,.aL cR),(6,.q dX ek ct.2.1),(8,.q eQ fo cn),(12,.i lf)] a/\au W M0 X w [aq.row 3 1 (.q eQ fo cn) cn fv,aq.bm cR 30 [.q aT aV aa.aJ,.q bl bp aa.aG,.q bj bk aa.Fields,.q bB bC aa.Names,.q bL bN aa.aE],aq.bm b6 24 [.q ag ah h_.Words,.i h_.ar,.i h_.aA,.i h_.aO,.i h_.aM,.q aI aQ h_.ay,.i h_.Next]] [al.rows (aj .i64) fv cn,U (aj .i64) dX ek ct.2.1,U (aj .i64) gI gJ ct.1,U (aj .i64) ag ah h_.Words,U (aj .i64) aI aQ h_.ay,U J.bd aT aV aa.aJ,U (aj .i64) bl bp aa.aG,U (aH J.aX) bj bk aa.Fields,U (aH bz) bB bC aa.Names,U (aH J.bR) bL bN aa.aE]/\J.wq F h_ aa cn fB lf=some Vm) F ⟨0,I.cut,hm,h⟩ ?_ ?_
   · rintro a w ⟨lf,I,hm,h⟩;exact absurd h (by simp [J.wq])
   rintro fB a w ⟨lf,I,hm,h⟩ K oy;rw [J.wq] at h;refine wp_seq_k fun K oz=>bc [] [(134,.bool (decide (lf <(cn.length:Int))))] I fun a I=>bi (I.g rfl) h (fun apU h=>?_) (fun apU h=>?_)
   · refine wp_skip <| oz _ _ <| wp_seq_k fun K sm=>?_;obtain ⟨aex,h,S2⟩:=J.e3 h
     refine cb (fun a w=>Fr ⟨288,[]⟩ [(2,.aL b6),(3,.aL cR),(6,.q dX ek ct.2.1),(8,.q eQ fo cn),(12,.i lf)] a/\au W M0 X w [aq.row 3 1 (.q eQ fo cn) cn fv,aq.bm cR 30 [.q aT aV aa.aJ,.q bl bp aa.aG,.q bj bk aa.Fields,.q bB bC aa.Names,.q bL bN aa.aE],aq.bm b6 24 [.q ag ah h_.Words,.i h_.ar,.i h_.aA,.i h_.aO,.i h_.aM,.q aI aQ h_.ay,.i h_.Next]] [al.rows (aj .i64) fv cn,U (aj .i64) dX ek ct.2.1,U (aj .i64) gI gJ ct.1,U (aj .i64) ag ah h_.Words,U (aj .i64) aI aQ h_.ay,U J.bd aT aV aa.aJ,U (aj .i64) bl bp aa.aG,U (aH J.aX) bj bk aa.Fields,U (aH bz) bB bC aa.Names,U (aH J.bR) bL bN aa.aE]/\aex=(.go ())) (fun K tT=>?_) ?_
     · refine wp_seq_k fun K tU=>hd (m:=8) 8 (a' []) (by kernel_rfl) rfl fun w ad=>?_;have hm:=hm.dB ad;clear ad;have ba:=hm;have av:=a'.refl [] w
       refine cc [0,1,2,3] 4 [0,0,1,0] [(137,.agg #[.q ag ah h_.Words,.i h_.ar,.i h_.aA,.i h_.aO,.i h_.aM,.q aI aQ h_.ay,.i h_.Next]),(138,.agg #[.q aT aV aa.aJ,.q bl bp aa.aG,.q bj bk aa.Fields,.q bB bC aa.Names,.q bL bN aa.aE]),(139,.q eQ fo cn),(140,.i lf)] [cR,0,b6,0] (fun a7 ad=>(aw (b9 ad (aZ (ba.e 2 rfl))) (aw (b9 ad (aZ (ba.e 1 rfl))) ax))) I av fun a I=>?_;obtain ⟨NT,aCO,h⟩:=J.aF h;obtain ⟨al1,awS,_,rfl,asA⟩:=gi (ba.e 0 rfl) (ba.d 0 rfl) aCO
       refine eR 4 rfl (by kernel_rfl) wn (fun a7=>bF Tryz.underlying22 Tryz.sizeOf3 rfl (I.g rfl) (I.g rfl) al1 awS) av I rfl rfl fun a I=>cc [5] 1 [0,0] [(142,.i NT)] [bG eQ,bJ eQ+(lf).toNat* 1] (fun a7 ad=>(aw (b9 ad asA) ax)) I av fun a I=>cQ 6 rfl (by kernel_rfl) (fun _=>av) ?_;obtain ⟨jR,aAt,h⟩:=J.aF h;have hc:=hm
       refine bP (vs:=[.agg #[.q ag ah h_.Words,.i h_.ar,.i h_.aA,.i h_.aO,.i h_.aM,.q aI aQ h_.ay,.i h_.Next],.agg #[.q aT aV aa.aJ,.q bl bp aa.aG,.q bj bk aa.Fields,.q bB bC aa.Names,.q bL bN aa.aE],.i NT]) wn rfl Tryz.call43 ⟨(I.g rfl),(I.g rfl),(I.g rfl),trivial⟩ (KV ((hc.into 0).pick ⟨⟨3,rfl⟩,⟨4,rfl⟩,⟨5,rfl⟩,⟨6,rfl⟩,⟨7,rfl⟩,⟨8,rfl⟩,⟨9,rfl⟩,trivial⟩) aAt) I rfl rfl ?_;rintro _ w ⟨rZ,Ci,OS,rfl,af⟩;refine ⟨_,rfl,fun a I=>?_⟩;have ad:a' [] _ w:=af.ev;have hm:=hc.back 0 af;clear af hc;have av:=fp av ad;clear ad
       refine cD <| a0 [7] 1 [] [(2,.aL b6),(3,.aL cR),(6,.q dX ek ct.2.1),(8,.q eQ fo cn),(12,.i lf),(13,.q rZ Ci jR)] [] (fun a7 ad=>ax) I av fun a I=>fm (by kernel_rfl) ?_ (fun _=>av);clear ba av;refine tU _ _ <| bc [] [(14,.i 0)] I fun a I=>?_;obtain ⟨VB,h,S6⟩:=J.e3 h
       refine cb (fun a w=>Fr ⟨288,[]⟩ [(2,.aL b6),(3,.aL cR),(6,.q dX ek ct.2.1),(8,.q eQ fo cn),(12,.i lf)] a/\au W M0 X w [aq.row 3 1 (.q rZ Ci jR) jR OS,aq.row 3 1 (.q eQ fo cn) cn fv,aq.bm cR 30 [.q aT aV aa.aJ,.q bl bp aa.aG,.q bj bk aa.Fields,.q bB bC aa.Names,.q bL bN aa.aE],aq.bm b6 24 [.q ag ah h_.Words,.i h_.ar,.i h_.aA,.i h_.aO,.i h_.aM,.q aI aQ h_.ay,.i h_.Next]] [al.rows (aj .i64) OS jR,al.rows (aj .i64) fv cn,U (aj .i64) dX ek ct.2.1,U (aj .i64) gI gJ ct.1,U (aj .i64) ag ah h_.Words,U (aj .i64) aI aQ h_.ay,U J.bd aT aV aa.aJ,U (aj .i64) bl bp aa.aG,U (aH J.aX) bj bk aa.Fields,U (aH bz) bB bC aa.Names,U (aH J.bR) bL bN aa.aE]/\VB=(.go ())) (fun K tV=>?_) ?_
       · refine cA (fun (h1:Nat) a w=>∃ (kj:Int),Fr ⟨288,[]⟩ [(2,.aL b6),(3,.aL cR),(6,.q dX ek ct.2.1),(8,.q eQ fo cn),(12,.i lf),(13,.q rZ Ci jR),(14,.i kj)] a/\au W M0 X w [aq.row 3 1 (.q rZ Ci jR) jR OS,aq.row 3 1 (.q eQ fo cn) cn fv,aq.bm cR 30 [.q aT aV aa.aJ,.q bl bp aa.aG,.q bj bk aa.Fields,.q bB bC aa.Names,.q bL bN aa.aE],aq.bm b6 24 [.q ag ah h_.Words,.i h_.ar,.i h_.aA,.i h_.aO,.i h_.aM,.q aI aQ h_.ay,.i h_.Next]] [al.rows (aj .i64) OS jR,al.rows (aj .i64) fv cn,U (aj .i64) dX ek ct.2.1,U (aj .i64) gI gJ ct.1,U (aj .i64) ag ah h_.Words,U (aj .i64) aI aQ h_.ay,U J.bd aT aV aa.aJ,U (aj .i64) bl bp aa.aG,U (aH J.aX) bj bk aa.Fields,U (aH bz) bB bC aa.Names,U (aH J.bR) bL bN aa.aE]/\J.tg F h_ cn jR h1 kj=some VB) F ⟨0,I.cut,hm,h⟩ ?_ ?_
         · rintro a w ⟨kj,I,hm,h⟩;exact absurd h (by simp [J.tg])
         rintro h1 a w ⟨kj,I,hm,h⟩ K xG;rw [J.tg] at h;refine wp_seq_k fun K tW=>bc [] [(147,.bool (decide (kj <(jR.length:Int))))] I fun a I=>bi (I.g rfl) h (fun ap1 h=>?_) (fun ap1 h=>?_)
         · refine wp_skip <| tW _ _ <| wp_seq_k fun K CE=>wp_block <| wp_seq_k fun K xH=>hd (m:=22) 22 (a' []) (by kernel_rfl) rfl fun w ad=>?_;have hm:=hm.dB ad;clear ad;have ba:=hm;have av:=a'.refl [] w;refine cc [0,1,2,3] 4 [0,0] [(151,.q ag ah h_.Words),(152,.q rZ Ci jR),(153,.i kj)] [b6,0] (fun a7 ad=>(aw (b9 ad (aZ (ba.e 3 rfl))) ax)) I av fun a I=>?_;obtain ⟨NW,aCR,h⟩:=J.aF h;obtain ⟨al4,awV,_,rfl,asD⟩:=gi (ba.e 0 rfl) (ba.d 0 rfl) aCR
           refine eR 4 rfl (by kernel_rfl) wn (fun a7=>bF Tryz.underlying22 Tryz.sizeOf3 rfl (I.g rfl) (I.g rfl) al4 awV) av I rfl rfl fun a I=>cc [5] 1 [0,0] [(155,.i NW)] [bG rZ,bJ rZ+(kj).toNat* 1] (fun a7 ad=>(aw (b9 ad asD) ax)) I av fun a I=>?_;obtain ⟨NY,aCS,h⟩:=J.aF h;obtain ⟨al5,awW,_,rfl,asE⟩:=bZ _ (ba.d 4 rfl) aCS;refine eR 6 rfl (by kernel_rfl) wn (fun a7=>bF Tryz.underlying22 Tryz.sizeOf3 rfl (I.g rfl) (I.g rfl) al5 awW) av I rfl rfl fun a I=>?_
           refine cc [7,8,9] 3 [0,0] [(159,.bool (!decide (NY= 0)))] [bG ag,bJ ag+(NW).toNat* 1] (fun a7 ad=>(aw (b9 ad asE) ax)) I av fun a I=>?_;rcases Bool.eq_false_or_eq_true (!decide (NY= 0)) with GB | GB
           · have h:=J.di GB h;have I:=I.b5 159 rfl GB;refine cc [10,11,12,13,14] 5 [1,1,1,0,0,1,1] [(160,.q eQ fo cn),(162,.q ag ah h_.Words),(163,.q rZ Ci jR),(164,.i kj)] [b6,0] (fun a7 ad=>(aw (b9 ad (aZ (ba.e 3 rfl))) ax)) I av fun a I=>?_;obtain ⟨N0,aCU,h⟩:=J.aF h;obtain ⟨al7,awY,_,rfl,asG⟩:=gi (ba.e 0 rfl) (ba.d 0 rfl) aCU;refine eR 15 rfl (by kernel_rfl) (c1 I rfl rfl rfl rfl) (fun a7=>bF Tryz.underlying22 Tryz.sizeOf3 rfl (I.g rfl) (I.g rfl) al7 awY) av I rfl rfl fun a I=>?_
             refine cc [16] 1 [1,0,0] [(166,.i N0)] [bG rZ,bJ rZ+(kj).toNat* 1] (fun a7 ad=>(aw (b9 ad asG) ax)) I av fun a I=>?_;obtain ⟨N2,aCW,h⟩:=J.aF h;obtain ⟨al9,aw0,_,rfl,asI⟩:=bZ _ (ba.d 4 rfl) aCW;refine eR 17 rfl (by kernel_rfl) (c1 I rfl rfl rfl rfl) (fun a7=>bF Tryz.underlying22 Tryz.sizeOf3 rfl (I.g rfl) (I.g rfl) al9 aw0) av I rfl rfl fun a I=>cc [18] 1 [1,0,0] [(168,.i N2)] [bG ag,bJ ag+(N0).toNat* 1] (fun a7 ad=>(aw (b9 ad asI) ax)) I av fun a I=>cQ 19 rfl (by kernel_rfl) (fun _=>av) ?_
             obtain ⟨Xn,aAv,h⟩:=J.aF h;have hc:=hm;have az:=hc.freeze 1 1 rfl rfl;refine bP (vs:=[.q eQ fo cn,.i N2]) (c1 I rfl rfl rfl rfl) rfl Tryz.call42 ⟨(I.g rfl),(I.g rfl),trivial⟩ (KU ((az.into 0).pick ⟨⟨0,rfl⟩,trivial⟩) aAv) I rfl rfl ?_;rintro _ w ⟨rfl,af⟩;refine ⟨_,rfl,fun a I=>?_⟩;have ad:a' [] _ w:=af.ev;have hm:=hc.gl 0 (by exact trivial) af;clear af hc az;have av:=fp av ad;clear ad;refine cD <| cc [20,21] 2 [1,1] [(171,.bool (!Xn))] [] (fun a7 ad=>ax) I av fun a I=>?_
             refine fm (by kernel_rfl) ?_ (fun _=>av);clear ba av;refine xH _ _ <| bi (I.g rfl) h (fun ap2 h=>?_) (fun ap2 h=>?_)
             · refine bt [] [(4,.i 5)] I fun a I=>wp_ret ?_;obtain rfl:=aB h;obtain rfl:=aB S6;obtain rfl:=aB S2;obtain rfl:=aB SS;refine a6 (ak (ak (a6 (ak (a6 (ak (ak (ak (a6 (ak (ak ?_)))))))))));refine bn Tryz.results50 I rfl ?_;exact ⟨rfl,hm.aW [] []⟩
             refine wp_skip <| CE _ _ <| ch [] [(14,.i (J.ap (kj+ 1)))] I fun a I=>?_;exact xG _ _ ⟨J.ap (kj+ 1),I.cut,hm,h⟩
           have h:=J.dh GB h;have I:=I.b5 159 rfl GB;refine cc [10,11,12,13,14,15,16,17,18] 9 [1,1,1,1,1,1,1,1,1] [(160,undef),(168,undef)] [] (fun a7 ad=>ax) I av fun a I=>cQ 19 rfl (by kernel_rfl) (fun _=>av) <| aP 1 [1] [(169,undef)] I fun a I=>cD <| cc [20,21] 2 [1,1] [(171,.bool false)] [] (fun a7 ad=>ax) I av fun a I=>fm (by kernel_rfl) ?_ (fun _=>av);clear ba av;refine xH _ _ <| ij (I.g rfl) rfl <| wp_skip <| CE _ _ <| ch [] [(14,.i (J.ap (kj+ 1)))] I fun a I=>?_
           exact xG _ _ ⟨J.ap (kj+ 1),I.cut,hm,h⟩
         refine wp_exit <| bx (bx (cw ?_));exact tV _ _ ⟨I.cut,hm,(os h)⟩
       rintro a w ⟨I,hm,bb⟩;subst VB;have h:=S6;clear S6;dsimp only [J.eV] at h;exact tT _ _ ⟨I.cut,hm.aW [1,2,3] [1,2,3,4,5,6,7,8,9,10],(os h)⟩
     rintro a w ⟨I,hm,bb⟩;subst aex;have h:=S2;clear S2;dsimp only [J.eV] at h;refine sm _ _ <| ch [] [(12,.i (J.ap (lf+ 1)))] I fun a I=>?_;exact oy _ _ ⟨J.ap (lf+ 1),I.cut,hm,h⟩
   refine wp_exit <| bx (bx (cw ?_));exact q3 _ _ ⟨I.cut,hm,(os h)⟩
 rintro a w ⟨I,hm,bb⟩;subst Vm;have h:=SS;clear SS;dsimp only [J.dZ] at h;refine my _ _ <| wp_seq_k fun K tX=>bc [] [(15,.i 0)] I fun a I=>?_;obtain ⟨VC,h,LF⟩:=J.ef h
 refine cb (fun a w=>Fr ⟨288,[]⟩ [(2,.aL b6),(3,.aL cR),(6,.q dX ek ct.2.1)] a/\au W M0 X w [aq.row 3 1 (.q eQ fo cn) cn fv,aq.bm cR 30 [.q aT aV aa.aJ,.q bl bp aa.aG,.q bj bk aa.Fields,.q bB bC aa.Names,.q bL bN aa.aE],aq.bm b6 24 [.q ag ah h_.Words,.i h_.ar,.i h_.aA,.i h_.aO,.i h_.aM,.q aI aQ h_.ay,.i h_.Next]] [al.rows (aj .i64) fv cn,U (aj .i64) dX ek ct.2.1,U (aj .i64) gI gJ ct.1,U (aj .i64) ag ah h_.Words,U (aj .i64) aI aQ h_.ay,U J.bd aT aV aa.aJ,U (aj .i64) bl bp aa.aG,U (aH J.aX) bj bk aa.Fields,U (aH bz) bB bC aa.Names,U (aH J.bR) bL bN aa.aE]/\VC=(.go ())) (fun K zQ=>?_) ?_
 · refine cA (fun (jE:Nat) a w=>∃ (hR:Int),Fr ⟨288,[]⟩ [(2,.aL b6),(3,.aL cR),(6,.q dX ek ct.2.1),(15,.i hR)] a/\au W M0 X w [aq.row 3 1 (.q eQ fo cn) cn fv,aq.bm cR 30 [.q aT aV aa.aJ,.q bl bp aa.aG,.q bj bk aa.Fields,.q bB bC aa.Names,.q bL bN aa.aE],aq.bm b6 24 [.q ag ah h_.Words,.i h_.ar,.i h_.aA,.i h_.aO,.i h_.aM,.q aI aQ h_.ay,.i h_.Next]] [al.rows (aj .i64) fv cn,U (aj .i64) dX ek ct.2.1,U (aj .i64) gI gJ ct.1,U (aj .i64) ag ah h_.Words,U (aj .i64) aI aQ h_.ay,U J.bd aT aV aa.aJ,U (aj .i64) bl bp aa.aG,U (aH J.aX) bj bk aa.Fields,U (aH bz) bB bC aa.Names,U (aH J.bR) bL bN aa.aE]/\J.r5 h_ jE hR=some VC) F ⟨0,I.cut,hm,h⟩ ?_ ?_
   · rintro a w ⟨hR,I,hm,h⟩;exact absurd h (by simp [J.r5])
   rintro jE a w ⟨hR,I,hm,h⟩ K xI;rw [J.r5] at h;refine wp_seq_k fun K F6=>wp_seq_k fun K F7=>eI [0,0] [(176,.bool (decide (hR <(h_.Words.length:Int))))] [b6,0] (aw (aZ (hm.e 2 rfl)) ax) I fun a I=>F7 _ _ <| bi (I.g rfl) h (fun ap4 h=>?_) (fun ap4 h=>?_)
   · refine wp_skip <| F6 _ _ <| wp_seq_k fun K CF=>wp_block <| wp_seq_k fun K zR=>aY <| bf 3 [0,0] [(180,.q ag ah h_.Words),(181,.i hR)] [b6,0] (aw (aZ (hm.e 2 rfl)) ax) I fun a I=>?_;obtain ⟨N3,aCY,h⟩:=J.aF h;obtain ⟨al',aw2,_,rfl,asK⟩:=bZ _ (hm.d 3 rfl) aCY;refine bQ wn (bF Tryz.underlying22 Tryz.sizeOf3 rfl (I.g rfl) (I.g rfl) al' aw2) I rfl rfl fun a I=>bf 3 [0,0] [(185,.bool (!decide (N3= 0)))] [bG ag,bJ ag+(hR).toNat* 1] (aw asK ax) I fun a I=>?_;rcases Bool.eq_false_or_eq_true (!decide (N3= 0)) with GC | GC
     · have h:=J.di GC h;have I:=I.b5 185 rfl GC;refine aP 3 [1,1,1] [(188,.bool (decide (hR= 0)))] I fun a I=>?_;rcases Bool.eq_false_or_eq_true (decide (hR= 0)) with GD | GD
       · have h:=J.di GD h;have I:=I.b5 188 rfl GD;refine eo 14 [1,1,1,1,1,1,1,1,1,1,1,1,1,1,1,1] [(2,.aL b6),(3,.aL cR),(6,.q dX ek ct.2.1),(15,.i hR),(202,.bool true)] I fun a I=>wpList_nil (zR _ _ ?_);refine eN (I.g rfl) rfl <| bt [] [(4,.i 1)] I fun a I=>wp_ret ?_;obtain rfl:=aB h;obtain rfl:=aB LF;refine a6 (ak (ak (a6 (ak (ak ?_)))));refine bn Tryz.results50 I rfl ?_;exact ⟨rfl,hm.aW [] []⟩
       have h:=J.dh GD h;have I:=I.b5 188 rfl GD;refine jS 5 [1,1,1,0,3,1,1,0,1] [(2,.aL b6),(3,.aL cR),(6,.q dX ek ct.2.1),(15,.i hR),(185,.bool true),(188,.bool false),(189,.i hR),(191,.i h_.aO),(193,.i h_.ar)] [b6,1,b6,3] (aw (aZ (hm.e 2 rfl)) ax) I fun a I=>?_;obtain ⟨Xo,aAw,h⟩:=J.aF h;have hc:=hm;refine bP (vs:=[.i hR,.i h_.aO,.i h_.ar]) (c1 I rfl rfl rfl rfl) rfl Tryz.call41 ⟨(I.g rfl),(I.g rfl),(I.g rfl),trivial⟩ (oo ((hc.into 0).pick trivial) aAw) I rfl rfl ?_;rintro _ w ⟨rfl,af⟩;refine ⟨_,rfl,fun a I=>?_⟩;have ad:a' [] _ w:=af.ev;have hm:=hc.back 0 af
       clear af hc;clear ad;refine bf 8 [1,1,1,0,0,0,0,4,0,1,0,1] [(202,.bool (Xo || (decide (h_.aM<=hR))))] [b6,4] (aw (aZ (hm.e 2 rfl)) ax) I fun a I=>wpList_nil (zR _ _ ?_);refine bi (I.g rfl) h (fun ap5 h=>?_) (fun ap5 h=>?_)
       · refine bt [] [(4,.i 1)] I fun a I=>wp_ret ?_;obtain rfl:=aB h;obtain rfl:=aB LF;refine a6 (ak (ak (a6 (ak (ak ?_)))));refine bn Tryz.results50 I rfl ?_;exact ⟨rfl,hm.aW [] []⟩
       refine wp_skip <| CF _ _ <| ch [] [(15,.i (J.ap (hR+ 1)))] I fun a I=>?_;exact xI _ _ ⟨J.ap (hR+ 1),I.cut,hm,h⟩
     have h:=J.dh GC h;have I:=I.b5 185 rfl GC;refine aP 17 [1,1,1,1,1,1,1,1,1,1,1,1,1,1,1,1,1] [(202,.bool false)] I fun a I=>wpList_nil (zR _ _ ?_);refine ij (I.g rfl) rfl <| wp_skip <| CF _ _ <| DB [] [(2,.aL b6),(3,.aL cR),(6,.q dX ek ct.2.1),(15,.i (J.ap (hR+ 1)))] I fun a I=>?_;exact xI _ _ ⟨J.ap (hR+ 1),I.cut,hm,h⟩
   refine wp_exit <| bx (bx (cw ?_));exact zQ _ _ ⟨I.cut,hm,(os h)⟩
 rintro a w ⟨I,hm,bb⟩;subst VC;have h:=LF;clear LF;dsimp only [J.dZ] at h;refine tX _ _ <| wp_seq_k fun K Q'=>bc [] [(16,.i 0)] I fun a I=>?_;obtain ⟨VD,h,Af⟩:=J.ef h
 refine cb (fun a w=>Fr ⟨288,[]⟩ [(2,.aL b6),(3,.aL cR),(6,.q dX ek ct.2.1)] a/\au W M0 X w [aq.row 3 1 (.q eQ fo cn) cn fv,aq.bm cR 30 [.q aT aV aa.aJ,.q bl bp aa.aG,.q bj bk aa.Fields,.q bB bC aa.Names,.q bL bN aa.aE],aq.bm b6 24 [.q ag ah h_.Words,.i h_.ar,.i h_.aA,.i h_.aO,.i h_.aM,.q aI aQ h_.ay,.i h_.Next]] [al.rows (aj .i64) fv cn,U (aj .i64) dX ek ct.2.1,U (aj .i64) gI gJ ct.1,U (aj .i64) ag ah h_.Words,U (aj .i64) aI aQ h_.ay,U J.bd aT aV aa.aJ,U (aj .i64) bl bp aa.aG,U (aH J.aX) bj bk aa.Fields,U (aH bz) bB bC aa.Names,U (aH J.bR) bL bN aa.aE]/\VD=(.go ())) (fun K Ra=>?_) ?_
 · refine cA (fun (sx:Nat) a w=>∃ (fV:Int),Fr ⟨288,[]⟩ [(2,.aL b6),(3,.aL cR),(6,.q dX ek ct.2.1),(16,.i fV)] a/\au W M0 X w [aq.row 3 1 (.q eQ fo cn) cn fv,aq.bm cR 30 [.q aT aV aa.aJ,.q bl bp aa.aG,.q bj bk aa.Fields,.q bB bC aa.Names,.q bL bN aa.aE],aq.bm b6 24 [.q ag ah h_.Words,.i h_.ar,.i h_.aA,.i h_.aO,.i h_.aM,.q aI aQ h_.ay,.i h_.Next]] [al.rows (aj .i64) fv cn,U (aj .i64) dX ek ct.2.1,U (aj .i64) gI gJ ct.1,U (aj .i64) ag ah h_.Words,U (aj .i64) aI aQ h_.ay,U J.bd aT aV aa.aJ,U (aj .i64) bl bp aa.aG,U (aH J.aX) bj bk aa.Fields,U (aH bz) bB bC aa.Names,U (aH J.bR) bL bN aa.aE]/\J.r6 F h_ aa ct sx fV=some VD) F ⟨0,I.cut,hm,h⟩ ?_ ?_
   · rintro a w ⟨fV,I,hm,h⟩;exact absurd h (by simp [J.r6])
   rintro sx a w ⟨fV,I,hm,h⟩ K Lk;rw [J.r6] at h;refine wp_seq_k fun K Rb=>wp_seq_k fun K Rc=>eI [0,5] [(207,.bool (decide (fV <(h_.ay.length:Int))))] [b6,5] (aw (aZ (hm.e 2 rfl)) ax) I fun a I=>Rc _ _ <| bi (I.g rfl) h (fun aqa h=>?_) (fun aqa h=>?_)
   · refine wp_skip <| Rb _ _ <| wp_seq_k fun K Ll=>wp_block <| wp_seq_k fun K zS=>hd (m:=38) 38 (a' []) (by kernel_rfl) rfl fun w ad=>?_;have hm:=hm.dB ad;clear ad;have ba:=hm;have av:=a'.refl [] w;refine cc [0,1,2] 3 [] [(212,.bool (decide (0 <fV)))] [] (fun a7 ad=>ax) I av fun a I=>?_;rcases Bool.eq_false_or_eq_true (decide (0 <fV)) with GG | GG
     · have h:=J.di GG h;have I:=I.b5 212 rfl GG;refine a0 [3,4,5,8,9,10,11] 7 [1,1,0,5,1,1,1,0,5,1,1] [(2,.aL b6),(3,.aL cR),(6,.q dX ek ct.2.1),(16,.i fV),(212,.bool true),(214,.q aI aQ h_.ay),(215,.i fV),(219,.q aI aQ h_.ay),(221,.i (J.ap (fV - 1)))] [b6,5,b6,5] (fun a7 ad=>(aw (b9 ad (aZ (ba.e 2 rfl))) ax)) I av fun a I=>?_;obtain ⟨IX,aC1,h⟩:=J.aF h;obtain ⟨amd,aw5,_,rfl,asN⟩:=bZ _ (ba.d 4 rfl) aC1
       refine eR 6 rfl (by kernel_rfl) (c1 I rfl rfl rfl rfl) (fun a7=>bF Tryz.underlying22 Tryz.sizeOf3 rfl (I.g rfl) (I.g rfl) amd aw5) av I rfl rfl fun a I=>cc [7] 1 [1,0,0] [(217,.i IX)] [bG aI,bJ aI+(fV).toNat* 1] (fun a7 ad=>(aw (b9 ad asN) ax)) I av fun a I=>?_;obtain ⟨N5,aC2,h⟩:=J.aF h;obtain ⟨ame,aw6,_,rfl,asO⟩:=bZ _ (ba.d 4 rfl) aC2;refine eR 12 rfl (by kernel_rfl) (c1 I rfl rfl rfl rfl) (fun a7=>bF Tryz.underlying22 Tryz.sizeOf3 rfl (I.g rfl) (I.g rfl) ame aw6) av I rfl rfl fun a I=>?_
       refine cc [13,14,15,16] 4 [1,0,0,1,1] [(226,.bool (decide (IX<=N5)))] [bG aI,bJ aI+(J.ap (fV - 1)).toNat* 1] (fun a7 ad=>(aw (b9 ad asO) ax)) I av fun a I=>?_;rcases Bool.eq_false_or_eq_true (decide (IX<=N5)) with GH | GH
       · have h:=J.di GH h;have I:=I.b5 226 rfl GH;refine cc [17,18,19,20,21,22] 6 [1,1,1,1,1,1] [(227,undef),(232,undef)] [] (fun a7 ad=>ax) I av fun a I=>cQ 23 rfl (by kernel_rfl) (fun _=>av) <| aP 1 [1] [(233,undef)] I fun a I=>cD <| cc [24,25,26,27,28,29,30,31,32,33] 10 [1,1,1,1,1,1,1,1,1] [(236,.bool true),(237,undef),(238,undef),(243,undef)] [] (fun a7 ad=>ax) I av fun a I=>cQ 34 rfl (by kernel_rfl) (fun _=>av) <| aP 1 [1] [(244,undef)] I fun a I=>cD ?_
         refine cc [35,36,37] 3 [1,1,1] [(247,.bool true)] [] (fun a7 ad=>ax) I av fun a I=>fm (by kernel_rfl) ?_ (fun _=>av);clear ba av;refine zS _ _ <| eN (I.g rfl) rfl <| bt [] [(4,.i 4)] I fun a I=>wp_ret ?_;obtain rfl:=aB h;obtain rfl:=aB Af;refine a6 (ak (ak (a6 (ak (ak ?_)))));refine bn Tryz.results50 I rfl ?_;exact ⟨rfl,hm.aW [] []⟩
       have h:=J.dh GH h;have I:=I.b5 226 rfl GH;refine cc [17,18,19,20] 4 [1,1,1,0,5,1] [(227,.q dX ek ct.2.1),(229,.q aI aQ h_.ay),(230,.i fV)] [b6,5] (fun a7 ad=>(aw (b9 ad (aZ (ba.e 2 rfl))) ax)) I av fun a I=>?_;obtain ⟨N6,aC3,h⟩:=J.aF h;obtain ⟨amf,aw7,_,rfl,asP⟩:=bZ _ (ba.d 4 rfl) aC3;refine eR 21 rfl (by kernel_rfl) (c1 I rfl rfl rfl rfl) (fun a7=>bF Tryz.underlying22 Tryz.sizeOf3 rfl (I.g rfl) (I.g rfl) amf aw7) av I rfl rfl fun a I=>?_
       refine cc [22] 1 [1,0,0] [(232,.i N6)] [bG aI,bJ aI+(fV).toNat* 1] (fun a7 ad=>(aw (b9 ad asP) ax)) I av fun a I=>cQ 23 rfl (by kernel_rfl) (fun _=>av) ?_;obtain ⟨Dy,aAy,h⟩:=J.aF h;have hc:=hm;refine bP (vs:=[.q dX ek ct.2.1,.i N6]) (c1 I rfl rfl rfl rfl) rfl Tryz.call42 ⟨(I.g rfl),(I.g rfl),trivial⟩ (KU ((hc.into 0).pick ⟨⟨1,rfl⟩,trivial⟩) aAy) I rfl rfl ?_;rintro _ w ⟨rfl,af⟩;refine ⟨_,rfl,fun a I=>?_⟩;have ad:a' [] _ w:=af.ev;have hm:=hc.back 0 af;clear af hc;have av:=fp av ad;clear ad;refine cD ?_
       refine cc [24,25,26] 3 [1,1] [(236,.bool (!Dy))] [] (fun a7 ad=>ax) I av fun a I=>?_;rcases Bool.eq_false_or_eq_true (!Dy) with GI | GI
       · have h:=J.di GI h;have I:=I.b5 236 rfl GI;refine cc [27,28,29,30,31,32,33] 7 [1,1,1,1,1,1,1] [(237,undef),(238,undef),(243,undef)] [] (fun a7 ad=>ax) I av fun a I=>cQ 34 rfl (by kernel_rfl) (fun _=>av) <| aP 1 [1] [(244,undef)] I fun a I=>cD <| cc [35,36,37] 3 [1,1,1] [(247,.bool true)] [] (fun a7 ad=>ax) I av fun a I=>fm (by kernel_rfl) ?_ (fun _=>av);clear ba av;refine zS _ _ <| eN (I.g rfl) rfl <| bt [] [(4,.i 4)] I fun a I=>wp_ret ?_
         obtain rfl:=aB h;obtain rfl:=aB Af;refine a6 (ak (ak (a6 (ak (ak ?_)))));refine bn Tryz.results50 I rfl ?_;exact ⟨rfl,hm.aW [] []⟩
       have h:=J.dh GI h;have I:=I.b5 236 rfl GI;refine cc [27,28,29,30,31] 5 [1,0,0,1,1,0,1,1,0,5,1] [(237,.agg #[.q ag ah h_.Words,.i h_.ar,.i h_.aA,.i h_.aO,.i h_.aM,.q aI aQ h_.ay,.i h_.Next]),(238,.agg #[.q aT aV aa.aJ,.q bl bp aa.aG,.q bj bk aa.Fields,.q bB bC aa.Names,.q bL bN aa.aE]),(240,.q aI aQ h_.ay),(241,.i fV)] [b6,5,cR,0,b6,0] (fun a7 ad=>(aw (b9 ad (aZ (ba.e 2 rfl))) (aw (b9 ad (aZ (ba.e 1 rfl))) ax))) I av fun a I=>?_;obtain ⟨DS,aC4,h⟩:=J.aF h
       obtain ⟨amg,aw8,_,rfl,asQ⟩:=bZ _ (ba.d 4 rfl) aC4;refine eR 32 rfl (by kernel_rfl) (c1 I rfl rfl rfl rfl) (fun a7=>bF Tryz.underlying22 Tryz.sizeOf3 rfl (I.g rfl) (I.g rfl) amg aw8) av I rfl rfl fun a I=>cc [33] 1 [1,0,0] [(243,.i DS)] [bG aI,bJ aI+(fV).toNat* 1] (fun a7 ad=>(aw (b9 ad asQ) ax)) I av fun a I=>cQ 34 rfl (by kernel_rfl) (fun _=>av) ?_;obtain ⟨Iq,aAA,h⟩:=J.aF h;have hc:=hm
       refine bP (vs:=[.agg #[.q ag ah h_.Words,.i h_.ar,.i h_.aA,.i h_.aO,.i h_.aM,.q aI aQ h_.ay,.i h_.Next],.agg #[.q aT aV aa.aJ,.q bl bp aa.aG,.q bj bk aa.Fields,.q bB bC aa.Names,.q bL bN aa.aE],.i DS]) (c1 I rfl rfl rfl rfl) rfl Tryz.call43 ⟨(I.g rfl),(I.g rfl),(I.g rfl),trivial⟩ (KV ((hc.into 0).pick ⟨⟨3,rfl⟩,⟨4,rfl⟩,⟨5,rfl⟩,⟨6,rfl⟩,⟨7,rfl⟩,⟨8,rfl⟩,⟨9,rfl⟩,trivial⟩) aAA) I rfl rfl ?_;rintro _ w ⟨aI5,aJk,aKL,rfl,af⟩;refine ⟨_,rfl,fun a I=>?_⟩;have ad:a' [] _ w:=af.ev;have hm:=hc.back 0 af;clear af hc
       have av:=fp av ad;clear ad;refine cD <| cc [35,36,37] 3 [1,1,1] [(247,.bool (decide ((Iq.length:Int)= 0)))] [] (fun a7 ad=>ax) I av fun a I=>fm (by kernel_rfl) ?_ (fun _=>av);clear ba av;refine zS _ _ <| bi (I.g rfl) h (fun aqc h=>?_) (fun aqc h=>?_)
       · refine bt [] [(4,.i 4)] I fun a I=>wp_ret ?_;obtain rfl:=aB h;obtain rfl:=aB Af;refine a6 (ak (ak (a6 (ak (ak ?_)))));refine bn Tryz.results50 I rfl ?_;exact ⟨rfl,hm.aW [] []⟩
       refine wp_skip <| Ll _ _ <| ch [] [(16,.i (J.ap (fV+ 1)))] I fun a I=>?_;exact Lk _ _ ⟨J.ap (fV+ 1),I.cut,hm.aW [1,2,3] [1,2,3,4,5,6,7,8,9,10],h⟩
     have h:=J.dh GG h;have I:=I.b5 212 rfl GG;refine a0 [3,4,5,6,7,8,9,10,11,12,13,14,15,16,17,18,19,20] 18 [1,1,1,1,1,1,1,1,1,1,1,1,1,1,1,1,0,5,1] [(2,.aL b6),(3,.aL cR),(6,.q dX ek ct.2.1),(16,.i fV),(226,.bool false),(227,.q dX ek ct.2.1),(229,.q aI aQ h_.ay),(230,.i fV)] [b6,5] (fun a7 ad=>(aw (b9 ad (aZ (ba.e 2 rfl))) ax)) I av fun a I=>?_;obtain ⟨N7,aC5,h⟩:=J.aF h;obtain ⟨amh,aw9,_,rfl,asR⟩:=bZ _ (ba.d 4 rfl) aC5
     refine eR 21 rfl (by kernel_rfl) (c1 I rfl rfl rfl rfl) (fun a7=>bF Tryz.underlying22 Tryz.sizeOf3 rfl (I.g rfl) (I.g rfl) amh aw9) av I rfl rfl fun a I=>cc [22] 1 [1,0,0] [(232,.i N7)] [bG aI,bJ aI+(fV).toNat* 1] (fun a7 ad=>(aw (b9 ad asR) ax)) I av fun a I=>cQ 23 rfl (by kernel_rfl) (fun _=>av) ?_;obtain ⟨M4,aAC,h⟩:=J.aF h;have hc:=hm;refine bP (vs:=[.q dX ek ct.2.1,.i N7]) (c1 I rfl rfl rfl rfl) rfl Tryz.call42 ⟨(I.g rfl),(I.g rfl),trivial⟩ (KU ((hc.into 0).pick ⟨⟨1,rfl⟩,trivial⟩) aAC) I rfl rfl ?_;rintro _ w ⟨rfl,af⟩;refine ⟨_,rfl,fun a I=>?_⟩;have ad:a' [] _ w:=af.ev
     have hm:=hc.back 0 af;clear af hc;have av:=fp av ad;clear ad;refine cD <| cc [24,25,26] 3 [1,1] [(236,.bool (!M4))] [] (fun a7 ad=>ax) I av fun a I=>?_;rcases Bool.eq_false_or_eq_true (!M4) with GK | GK
     · have h:=J.di GK h;have I:=I.b5 236 rfl GK;refine cc [27,28,29,30,31,32,33] 7 [1,1,1,1,1,1,1] [(237,undef),(238,undef),(243,undef)] [] (fun a7 ad=>ax) I av fun a I=>cQ 34 rfl (by kernel_rfl) (fun _=>av) <| aP 1 [1] [(244,undef)] I fun a I=>cD <| cc [35,36,37] 3 [1,1,1] [(247,.bool true)] [] (fun a7 ad=>ax) I av fun a I=>fm (by kernel_rfl) ?_ (fun _=>av);clear ba av;refine zS _ _ <| eN (I.g rfl) rfl <| bt [] [(4,.i 4)] I fun a I=>wp_ret ?_
       obtain rfl:=aB h;obtain rfl:=aB Af;refine a6 (ak (ak (a6 (ak (ak ?_)))));refine bn Tryz.results50 I rfl ?_;exact ⟨rfl,hm.aW [] []⟩
     have h:=J.dh GK h;have I:=I.b5 236 rfl GK;refine cc [27,28,29,30,31] 5 [1,0,0,1,1,0,1,1,0,5,1] [(237,.agg #[.q ag ah h_.Words,.i h_.ar,.i h_.aA,.i h_.aO,.i h_.aM,.q aI aQ h_.ay,.i h_.Next]),(238,.agg #[.q aT aV aa.aJ,.q bl bp aa.aG,.q bj bk aa.Fields,.q bB bC aa.Names,.q bL bN aa.aE]),(240,.q aI aQ h_.ay),(241,.i fV)] [b6,5,cR,0,b6,0] (fun a7 ad=>(aw (b9 ad (aZ (ba.e 2 rfl))) (aw (b9 ad (aZ (ba.e 1 rfl))) ax))) I av fun a I=>?_;obtain ⟨N9,aC6,h⟩:=J.aF h
     obtain ⟨ami,aw_,_,rfl,asS⟩:=bZ _ (ba.d 4 rfl) aC6;refine eR 32 rfl (by kernel_rfl) (c1 I rfl rfl rfl rfl) (fun a7=>bF Tryz.underlying22 Tryz.sizeOf3 rfl (I.g rfl) (I.g rfl) ami aw_) av I rfl rfl fun a I=>cc [33] 1 [1,0,0] [(243,.i N9)] [bG aI,bJ aI+(fV).toNat* 1] (fun a7 ad=>(aw (b9 ad asS) ax)) I av fun a I=>cQ 34 rfl (by kernel_rfl) (fun _=>av) ?_;obtain ⟨Xp,aAD,h⟩:=J.aF h;have hc:=hm
     refine bP (vs:=[.agg #[.q ag ah h_.Words,.i h_.ar,.i h_.aA,.i h_.aO,.i h_.aM,.q aI aQ h_.ay,.i h_.Next],.agg #[.q aT aV aa.aJ,.q bl bp aa.aG,.q bj bk aa.Fields,.q bB bC aa.Names,.q bL bN aa.aE],.i N9]) (c1 I rfl rfl rfl rfl) rfl Tryz.call43 ⟨(I.g rfl),(I.g rfl),(I.g rfl),trivial⟩ (KV ((hc.into 0).pick ⟨⟨3,rfl⟩,⟨4,rfl⟩,⟨5,rfl⟩,⟨6,rfl⟩,⟨7,rfl⟩,⟨8,rfl⟩,⟨9,rfl⟩,trivial⟩) aAD) I rfl rfl ?_;rintro _ w ⟨aI6,aJl,aKM,rfl,af⟩;refine ⟨_,rfl,fun a I=>?_⟩;have ad:a' [] _ w:=af.ev;have hm:=hc.back 0 af;clear af hc
     have av:=fp av ad;clear ad;refine cD <| cc [35,36,37] 3 [1,1,1] [(247,.bool (decide ((Xp.length:Int)= 0)))] [] (fun a7 ad=>ax) I av fun a I=>fm (by kernel_rfl) ?_ (fun _=>av);clear ba av;refine zS _ _ <| bi (I.g rfl) h (fun aqd h=>?_) (fun aqd h=>?_)
     · refine bt [] [(4,.i 4)] I fun a I=>wp_ret ?_;obtain rfl:=aB h;obtain rfl:=aB Af;refine a6 (ak (ak (a6 (ak (ak ?_)))));refine bn Tryz.results50 I rfl ?_;exact ⟨rfl,hm.aW [] []⟩
     refine wp_skip <| Ll _ _ <| ch [] [(16,.i (J.ap (fV+ 1)))] I fun a I=>?_;exact Lk _ _ ⟨J.ap (fV+ 1),I.cut,hm.aW [1,2,3] [1,2,3,4,5,6,7,8,9,10],h⟩
   refine wp_exit <| bx (bx (cw ?_));exact Ra _ _ ⟨I.cut,hm,(os h)⟩
 rintro a w ⟨I,hm,bb⟩;subst VD;have h:=Af;clear Af;dsimp only [J.dZ] at h;refine Q' _ _ <| wp_seq_k fun K Rd=>bc [] [(17,.i 0)] I fun a I=>?_;obtain ⟨VO,h,Tk⟩:=J.ef h
 refine cb (fun a w=>Fr ⟨288,[]⟩ [] a/\au W M0 X w [aq.row 3 1 (.q eQ fo cn) cn fv,aq.bm cR 30 [.q aT aV aa.aJ,.q bl bp aa.aG,.q bj bk aa.Fields,.q bB bC aa.Names,.q bL bN aa.aE],aq.bm b6 24 [.q ag ah h_.Words,.i h_.ar,.i h_.aA,.i h_.aO,.i h_.aM,.q aI aQ h_.ay,.i h_.Next]] [al.rows (aj .i64) fv cn,U (aj .i64) dX ek ct.2.1,U (aj .i64) gI gJ ct.1,U (aj .i64) ag ah h_.Words,U (aj .i64) aI aQ h_.ay,U J.bd aT aV aa.aJ,U (aj .i64) bl bp aa.aG,U (aH J.aX) bj bk aa.Fields,U (aH bz) bB bC aa.Names,U (aH J.bR) bL bN aa.aE]/\VO=(.go ())) (fun K Rf=>?_) ?_
 · refine cA (fun (uz:Nat) a w=>∃ (h5:Int),Fr ⟨288,[]⟩ [(2,.aL b6),(3,.aL cR),(6,.q dX ek ct.2.1),(17,.i h5)] a/\au W M0 X w [aq.row 3 1 (.q eQ fo cn) cn fv,aq.bm cR 30 [.q aT aV aa.aJ,.q bl bp aa.aG,.q bj bk aa.Fields,.q bB bC aa.Names,.q bL bN aa.aE],aq.bm b6 24 [.q ag ah h_.Words,.i h_.ar,.i h_.aA,.i h_.aO,.i h_.aM,.q aI aQ h_.ay,.i h_.Next]] [al.rows (aj .i64) fv cn,U (aj .i64) dX ek ct.2.1,U (aj .i64) gI gJ ct.1,U (aj .i64) ag ah h_.Words,U (aj .i64) aI aQ h_.ay,U J.bd aT aV aa.aJ,U (aj .i64) bl bp aa.aG,U (aH J.aX) bj bk aa.Fields,U (aH bz) bB bC aa.Names,U (aH J.bR) bL bN aa.aE]/\J.wu F h_ aa ct uz h5=some VO) F ⟨0,I.cut,hm,h⟩ ?_ ?_
   · rintro a w ⟨h5,I,hm,h⟩;exact absurd h (by simp [J.wu])
   rintro uz a w ⟨h5,I,hm,h⟩ K Rg;rw [J.wu] at h;refine wp_seq_k fun K Rh=>bc [] [(251,.bool (decide (h5 <(ct.2.1.length:Int))))] I fun a I=>bi (I.g rfl) h (fun aqT h=>?_) (fun aqT h=>?_)
   · refine wp_skip <| Rh _ _ <| wp_seq_k fun K Ri=>?_;obtain ⟨aeK,h,Ty⟩:=J.e3 h
     refine cb (fun a w=>Fr ⟨288,[]⟩ [(2,.aL b6),(3,.aL cR),(6,.q dX ek ct.2.1),(17,.i h5)] a/\au W M0 X w [aq.row 3 1 (.q eQ fo cn) cn fv,aq.bm cR 30 [.q aT aV aa.aJ,.q bl bp aa.aG,.q bj bk aa.Fields,.q bB bC aa.Names,.q bL bN aa.aE],aq.bm b6 24 [.q ag ah h_.Words,.i h_.ar,.i h_.aA,.i h_.aO,.i h_.aM,.q aI aQ h_.ay,.i h_.Next]] [al.rows (aj .i64) fv cn,U (aj .i64) dX ek ct.2.1,U (aj .i64) gI gJ ct.1,U (aj .i64) ag ah h_.Words,U (aj .i64) aI aQ h_.ay,U J.bd aT aV aa.aJ,U (aj .i64) bl bp aa.aG,U (aH J.aX) bj bk aa.Fields,U (aH bz) bB bC aa.Names,U (aH J.bR) bL bN aa.aE]/\aeK=(.go ())) (fun K aot=>?_) ?_
     · refine wp_seq_k fun K Rj=>hd (m:=8) 8 (a' []) (by kernel_rfl) rfl fun w ad=>?_;have hm:=hm.dB ad;clear ad;have ba:=hm;have av:=a'.refl [] w
       refine a0 [0,1,2,3] 4 [0,0,1,0] [(2,.aL b6),(3,.aL cR),(6,.q dX ek ct.2.1),(17,.i h5),(254,.agg #[.q ag ah h_.Words,.i h_.ar,.i h_.aA,.i h_.aO,.i h_.aM,.q aI aQ h_.ay,.i h_.Next]),(255,.agg #[.q aT aV aa.aJ,.q bl bp aa.aG,.q bj bk aa.Fields,.q bB bC aa.Names,.q bL bN aa.aE]),(256,.q dX ek ct.2.1),(257,.i h5)] [cR,0,b6,0] (fun a7 ad=>(aw (b9 ad (aZ (ba.e 2 rfl))) (aw (b9 ad (aZ (ba.e 1 rfl))) ax))) I av fun a I=>?_
       obtain ⟨Oj,aDD,h⟩:=J.aF h;obtain ⟨amT,axK,_,rfl,atr⟩:=bZ _ (ba.d 1 rfl) aDD;refine eR 4 rfl (by kernel_rfl) wn (fun a7=>bF Tryz.underlying22 Tryz.sizeOf3 rfl (I.g rfl) (I.g rfl) amT axK) av I rfl rfl fun a I=>cc [5] 1 [0,0] [(259,.i Oj)] [bG dX,bJ dX+(h5).toNat* 1] (fun a7 ad=>(aw (b9 ad atr) ax)) I av fun a I=>cQ 6 rfl (by kernel_rfl) (fun _=>av) ?_;obtain ⟨kM,aA4,h⟩:=J.aF h;have hc:=hm
       refine bP (vs:=[.agg #[.q ag ah h_.Words,.i h_.ar,.i h_.aA,.i h_.aO,.i h_.aM,.q aI aQ h_.ay,.i h_.Next],.agg #[.q aT aV aa.aJ,.q bl bp aa.aG,.q bj bk aa.Fields,.q bB bC aa.Names,.q bL bN aa.aE],.i Oj]) wn rfl Tryz.call43 ⟨(I.g rfl),(I.g rfl),(I.g rfl),trivial⟩ (KV ((hc.into 0).pick ⟨⟨3,rfl⟩,⟨4,rfl⟩,⟨5,rfl⟩,⟨6,rfl⟩,⟨7,rfl⟩,⟨8,rfl⟩,⟨9,rfl⟩,trivial⟩) aA4) I rfl rfl ?_;rintro _ w ⟨y',FA,O1,rfl,af⟩;refine ⟨_,rfl,fun a I=>?_⟩;have ad:a' [] _ w:=af.ev;have hm:=hc.back 0 af;clear af hc;have av:=fp av ad;clear ad
       refine cD <| cc [7] 1 [] [(18,.q y' FA kM)] [] (fun a7 ad=>ax) I av fun a I=>fm (by kernel_rfl) ?_ (fun _=>av);clear ba av;refine Rj _ _ <| bc [] [(19,.i 0)] I fun a I=>?_;obtain ⟨V0,h,TA⟩:=J.e3 h
       refine cb (fun a w=>Fr ⟨288,[]⟩ [(2,.aL b6),(3,.aL cR),(6,.q dX ek ct.2.1),(17,.i h5)] a/\au W M0 X w [aq.row 3 1 (.q y' FA kM) kM O1,aq.row 3 1 (.q eQ fo cn) cn fv,aq.bm cR 30 [.q aT aV aa.aJ,.q bl bp aa.aG,.q bj bk aa.Fields,.q bB bC aa.Names,.q bL bN aa.aE],aq.bm b6 24 [.q ag ah h_.Words,.i h_.ar,.i h_.aA,.i h_.aO,.i h_.aM,.q aI aQ h_.ay,.i h_.Next]] [al.rows (aj .i64) O1 kM,al.rows (aj .i64) fv cn,U (aj .i64) dX ek ct.2.1,U (aj .i64) gI gJ ct.1,U (aj .i64) ag ah h_.Words,U (aj .i64) aI aQ h_.ay,U J.bd aT aV aa.aJ,U (aj .i64) bl bp aa.aG,U (aH J.aX) bj bk aa.Fields,U (aH bz) bB bC aa.Names,U (aH J.bR) bL bN aa.aE]/\V0=(.go ())) (fun K Rk=>?_) ?_
       · refine cA (fun (sy:Nat) a w=>∃ (lZ:Int),Fr ⟨288,[]⟩ [(2,.aL b6),(3,.aL cR),(6,.q dX ek ct.2.1),(17,.i h5),(18,.q y' FA kM),(19,.i lZ)] a/\au W M0 X w [aq.row 3 1 (.q y' FA kM) kM O1,aq.row 3 1 (.q eQ fo cn) cn fv,aq.bm cR 30 [.q aT aV aa.aJ,.q bl bp aa.aG,.q bj bk aa.Fields,.q bB bC aa.Names,.q bL bN aa.aE],aq.bm b6 24 [.q ag ah h_.Words,.i h_.ar,.i h_.aA,.i h_.aO,.i h_.aM,.q aI aQ h_.ay,.i h_.Next]] [al.rows (aj .i64) O1 kM,al.rows (aj .i64) fv cn,U (aj .i64) dX ek ct.2.1,U (aj .i64) gI gJ ct.1,U (aj .i64) ag ah h_.Words,U (aj .i64) aI aQ h_.ay,U J.bd aT aV aa.aJ,U (aj .i64) bl bp aa.aG,U (aH J.aX) bj bk aa.Fields,U (aH bz) bB bC aa.Names,U (aH J.bR) bL bN aa.aE]/\J.th F h_ ct h5 kM sy lZ=some V0) F ⟨0,I.cut,hm,h⟩ ?_ ?_
         · rintro a w ⟨lZ,I,hm,h⟩;exact absurd h (by simp [J.th])
         rintro sy a w ⟨lZ,I,hm,h⟩ K acN;rw [J.th] at h;refine wp_seq_k fun K Rl=>bc [] [(264,.bool (decide (lZ <(kM.length:Int))))] I fun a I=>bi (I.g rfl) h (fun aqY h=>?_) (fun aqY h=>?_)
         · refine wp_skip <| Rl _ _ <| wp_seq_k fun K Lm=>wp_block <| wp_seq_k fun K Ln=>hd (m:=21) 21 (a' []) (by kernel_rfl) rfl fun w ad=>?_;have hm:=hm.dB ad;clear ad;have ba:=hm;have av:=a'.refl [] w;refine cc [0,1,2,3,8,9] 6 [0,0,0,1] [(268,.q ag ah h_.Words),(269,.q y' FA kM),(270,.i lZ),(276,.i h_.ar)] [b6,1,b6,0] (fun a7 ad=>(aw (b9 ad (aZ (ba.e 3 rfl))) ax)) I av fun a I=>?_;obtain ⟨Ol,aDE,h⟩:=J.aF h;obtain ⟨amU,axL,_,rfl,att⟩:=gi (ba.e 0 rfl) (ba.d 0 rfl) aDE
           refine eR 4 rfl (by kernel_rfl) wn (fun a7=>bF Tryz.underlying22 Tryz.sizeOf3 rfl (I.g rfl) (I.g rfl) amU axL) av I rfl rfl fun a I=>cc [5] 1 [0,0] [(272,.i Ol)] [bG y',bJ y'+(lZ).toNat* 1] (fun a7 ad=>(aw (b9 ad att) ax)) I av fun a I=>?_;obtain ⟨Om,aDF,h⟩:=J.aF h;obtain ⟨amV,axM,_,rfl,atu⟩:=bZ _ (ba.d 4 rfl) aDF;refine eR 6 rfl (by kernel_rfl) wn (fun a7=>bF Tryz.underlying22 Tryz.sizeOf3 rfl (I.g rfl) (I.g rfl) amV axM) av I rfl rfl fun a I=>?_
           refine cc [7] 1 [0,0] [(274,.i Om)] [bG ag,bJ ag+(Ol).toNat* 1] (fun a7 ad=>(aw (b9 ad atu) ax)) I av fun a I=>cQ 10 rfl (by kernel_rfl) (fun _=>av) ?_;obtain ⟨M_,aA6,h⟩:=J.aF h;have hc:=hm;refine bP (vs:=[.i Om,.i 1,.i h_.ar]) wn rfl Tryz.call41 ⟨(I.g rfl),(cW _ _),(I.g rfl),trivial⟩ (oo ((hc.into 0).pick trivial) aA6) I rfl rfl ?_;rintro _ w ⟨rfl,af⟩;refine ⟨_,rfl,fun a I=>?_⟩;have ad:a' [] _ w:=af.ev;have hm:=hc.back 0 af;clear af hc;have av:=fp av ad;clear ad;refine cD ?_
           refine cc [11] 1 [] [(278,.bool M_)] [] (fun a7 ad=>ax) I av fun a I=>?_;rcases Bool.eq_false_or_eq_true M_ with GV | GV
           · have h:=J.di GV h;have I:=I.b5 278 rfl GV;refine cc [12,13,14,15] 4 [1,1,0,5,1,1] [(280,.q aI aQ h_.ay),(281,.q dX ek ct.2.1),(282,.i h5)] [b6,5] (fun a7 ad=>(aw (b9 ad (aZ (ba.e 3 rfl))) ax)) I av fun a I=>?_;obtain ⟨On,aDH,h⟩:=J.aF h;obtain ⟨amW,axN,_,rfl,atv⟩:=bZ _ (ba.d 2 rfl) aDH;refine eR 16 rfl (by kernel_rfl) (c1 I rfl rfl rfl rfl) (fun a7=>bF Tryz.underlying22 Tryz.sizeOf3 rfl (I.g rfl) (I.g rfl) amW axN) av I rfl rfl fun a I=>?_
             refine cc [17] 1 [1,0,0] [(284,.i On)] [bG dX,bJ dX+(h5).toNat* 1] (fun a7 ad=>(aw (b9 ad atv) ax)) I av fun a I=>cQ 18 rfl (by kernel_rfl) (fun _=>av) ?_;obtain ⟨XG,aA7,h⟩:=J.aF h;have hc:=hm;refine bP (vs:=[.q aI aQ h_.ay,.i On]) (c1 I rfl rfl rfl rfl) rfl Tryz.call42 ⟨(I.g rfl),(I.g rfl),trivial⟩ (KU ((hc.into 0).pick ⟨⟨5,rfl⟩,trivial⟩) aA7) I rfl rfl ?_;rintro _ w ⟨rfl,af⟩;refine ⟨_,rfl,fun a I=>?_⟩;have ad:a' [] _ w:=af.ev;have hm:=hc.back 0 af;clear af hc;have av:=fp av ad;clear ad;refine cD ?_
             refine cc [19,20] 2 [1,1] [(287,.bool (!XG))] [] (fun a7 ad=>ax) I av fun a I=>fm (by kernel_rfl) ?_ (fun _=>av);clear ba av;refine Ln _ _ <| bi (I.g rfl) h (fun aqZ h=>?_) (fun aqZ h=>?_)
             · refine bt [] [(4,.i 4)] I fun a I=>wp_ret ?_;obtain rfl:=aB h;obtain rfl:=aB TA;obtain rfl:=aB Ty;obtain rfl:=aB Tk;refine a6 (ak (ak (a6 (ak (a6 (ak (ak (ak (a6 (ak (ak ?_)))))))))));refine bn Tryz.results50 I rfl ?_;exact ⟨rfl,hm.aW [] []⟩
             refine wp_skip <| Lm _ _ <| ch [] [(19,.i (J.ap (lZ+ 1)))] I fun a I=>?_;exact acN _ _ ⟨J.ap (lZ+ 1),I.cut,hm,h⟩
           have h:=J.dh GV h;have I:=I.b5 278 rfl GV;refine cc [12,13,14,15,16,17] 6 [1,1,1,1,1,1] [(280,undef),(284,undef)] [] (fun a7 ad=>ax) I av fun a I=>cQ 18 rfl (by kernel_rfl) (fun _=>av) <| aP 1 [1] [(285,undef)] I fun a I=>cD <| cc [19,20] 2 [1,1] [(287,.bool false)] [] (fun a7 ad=>ax) I av fun a I=>fm (by kernel_rfl) ?_ (fun _=>av);clear ba av;refine Ln _ _ <| ij (I.g rfl) rfl <| wp_skip <| Lm _ _ <| ch [] [(19,.i (J.ap (lZ+ 1)))] I fun a I=>?_
           exact acN _ _ ⟨J.ap (lZ+ 1),I.cut,hm,h⟩
         refine wp_exit <| bx (bx (cw ?_));exact Rk _ _ ⟨I.cut,hm,(os h)⟩
       rintro a w ⟨I,hm,bb⟩;subst V0;have h:=TA;clear TA;dsimp only [J.eV] at h;exact aot _ _ ⟨I.cut,hm.aW [1,2,3] [1,2,3,4,5,6,7,8,9,10],(os h)⟩
     rintro a w ⟨I,hm,bb⟩;subst aeK;have h:=Ty;clear Ty;dsimp only [J.eV] at h;refine Ri _ _ <| ch [] [(17,.i (J.ap (h5+ 1)))] I fun a I=>?_;exact Rg _ _ ⟨J.ap (h5+ 1),I.cut,hm,h⟩
   refine wp_exit <| bx (bx (cw ?_));exact Rf _ _ ⟨I.cut,hm,(os h)⟩
 rintro a w ⟨I,hm,bb⟩;subst VO;have h:=Tk;clear Tk;dsimp only [J.dZ] at h;refine Rd _ _ <| bt [] [(4,.i 0)] I fun a I=>wp_ret ?_;obtain rfl:=aB h;refine bn Tryz.results50 I rfl ?_;exact ⟨rfl,hm.aW [] []⟩
theorem aiK {W:World} {X:List Nat} {F:Nat} {h_:J.bs} {aa:J.bw} {r:Int} {ag:aS} {ah:Nat} {aI:aS} {aQ:Nat} {aT:aS} {aV:Nat} {bl:aS} {bp:Nat} {bj:aS} {bk:Nat} {bB:aS} {bC:Nat} {bL:aS} {bN:Nat} {M0:List Nat} (hm:au W M0 X W [] [U (aj .i64) ag ah h_.Words,U (aj .i64) aI aQ h_.ay,U J.bd aT aV aa.aJ,U (aj .i64) bl bp aa.aG,U (aH J.aX) bj bk aa.Fields,U (aH bz) bB bC aa.Names,U (aH J.bR) bL bN aa.aE]) (h:J.BT F h_ aa=some r) :
 Calls Tryz.prog 18 [.agg #[.q ag ah h_.Words,.i h_.ar,.i h_.aA,.i h_.aO,.i h_.aM,.q aI aQ h_.ay,.i h_.Next],.agg #[.q aT aV aa.aJ,.q bl bp aa.aG,.q bj bk aa.Fields,.q bB bC aa.Names,.q bL bN aa.aE]].toArray W (fun e aD=>e= .returned (.i r)/\au W M0 X aD [] []):=by
 refine enter Tryz.func18 rfl Tryz.ntmps18 rfl fun a I=>?_;rw [J.BT] at h;refine wp_seq_k fun K cZ=>aY <| cy (cs:=[.q ag ah h_.Words,.i h_.ar,.i h_.aA,.i h_.aO,.i h_.aM,.q aI aQ h_.ay,.i h_.Next]) wn (ei rfl rfl (I.g rfl)) I hm rfl rfl fun a b6 w _ I hm=>cy (cs:=[.q aT aV aa.aJ,.q bl bp aa.aG,.q bj bk aa.Fields,.q bB bC aa.Names,.q bL bN aa.aE]) wn (ei rfl rfl (I.g rfl)) I hm rfl rfl fun a cR w _ I hm=>aP 1 [] [] I fun a I=>wpList_nil (cZ _ _ ?_);refine wp_seq_k fun K bI=>?_
 refine aY <| bf 1 [0,0] [(6,.agg #[.q aT aV aa.aJ,.q bl bp aa.aG,.q bj bk aa.Fields,.q bB bC aa.Names,.q bL bN aa.aE])] [cR,0] (aw (aZ (hm.e 0 rfl)) ax) I fun a I=>?_;obtain ⟨b7,k4,h⟩:=J.aF h;have hc:=hm;refine bP (vs:=[.agg #[.q aT aV aa.aJ,.q bl bp aa.aG,.q bj bk aa.Fields,.q bB bC aa.Names,.q bL bN aa.aE]]) wn rfl Tryz.call49 ⟨(I.g rfl),trivial⟩ (aiG ((hc.into 0).pick ⟨⟨2,rfl⟩,⟨3,rfl⟩,⟨4,rfl⟩,⟨5,rfl⟩,⟨6,rfl⟩,trivial⟩) k4) I rfl rfl ?_;rintro _ w ⟨rfl,af⟩;refine ⟨_,rfl,fun a I=>?_⟩;have ad:a' [] _ w:=af.ev;have hm:=hc.back 0 af
 clear af hc;clear ad;refine aP 1 [] [(5,.i b7)] I fun a I=>wpList_nil (bI _ _ ?_);refine wp_seq_k fun K ca=>bc [] [(9,.bool (decide (b7= 0)))] I fun a I=>bi (I.g rfl) h (fun q4 h=>?_) (fun q4 h=>?_)
 · refine aY <| bf 2 [0,0,1,0] [(10,.agg #[.q ag ah h_.Words,.i h_.ar,.i h_.aA,.i h_.aO,.i h_.aM,.q aI aQ h_.ay,.i h_.Next]),(11,.agg #[.q aT aV aa.aJ,.q bl bp aa.aG,.q bj bk aa.Fields,.q bB bC aa.Names,.q bL bN aa.aE])] [cR,0,b6,0] (aw (aZ (hm.e 1 rfl)) (aw (aZ (hm.e 0 rfl)) ax)) I fun a I=>?_;obtain ⟨nI,rh,h⟩:=J.aF h;have hc:=hm
   refine bP (vs:=[.agg #[.q ag ah h_.Words,.i h_.ar,.i h_.aA,.i h_.aO,.i h_.aM,.q aI aQ h_.ay,.i h_.Next],.agg #[.q aT aV aa.aJ,.q bl bp aa.aG,.q bj bk aa.Fields,.q bB bC aa.Names,.q bL bN aa.aE]]) wn rfl Tryz.call50 ⟨(I.g rfl),(I.g rfl),trivial⟩ (aiE ((hc.into 0).pick ⟨⟨0,rfl⟩,⟨1,rfl⟩,⟨2,rfl⟩,⟨3,rfl⟩,⟨4,rfl⟩,⟨5,rfl⟩,⟨6,rfl⟩,trivial⟩) rh) I rfl rfl ?_;rintro _ w ⟨rfl,af⟩;refine ⟨_,rfl,fun a I=>?_⟩;have hm:=hc.back 0 af;clear af hc
   refine eo 1 [] [(5,.i nI)] I fun a I=>wpList_nil (ca _ _ ?_);refine bt [] [(4,.i nI)] I fun a I=>wp_ret ?_;obtain rfl:=aB h;refine bn Tryz.results18 I rfl ?_;exact ⟨rfl,hm.aW [] []⟩
 refine wp_skip <| ca _ _ <| bt [] [(4,.i b7)] I fun a I=>wp_ret ?_;obtain rfl:=aB h;refine bn Tryz.results18 I rfl ?_;exact ⟨rfl,hm.aW [] []⟩
end Go.Proofs.YtpkhpagplommoaaGreat
namespace J
def B0 (h_:bs):Option (bs):=
 (ej 8 ([]:List Int) h_.Words).bind fun mQ=>
 (ej 8 ([]:List Int) h_.ay).bind fun hh=>
 some (⟨mQ,h_.ar,h_.aA,h_.aO,h_.aM,hh,h_.Next⟩:bs)
def BR (aa:bw) (ck:Int) (dl:Int):Option (Int):=
 (wO (⟨aa.aJ,aa.aG,aa.Fields,aa.Names,aa.aE⟩:bw) ck).bind fun c2=>
 cond (!c2) (some 7) ((wN (⟨aa.aJ,aa.aG,aa.Fields,aa.Names,aa.aE⟩:bw) ck dl).bind fun fP=>
 cond (!fP) (some 3) (some 0))
def BS (h_:bs) (ck:Int) (dl:Int) (e1:Bool):Option (bs × Int × Bool):=
 Option.bind (α:=Int × Int) (cond (e1) (some (h_.aM,ap ((ap (h_.ar+h_.aA))+ 1))) (some (h_.aO,ap (h_.ar+ 1)))) fun ((js,Dp):Int × Int)=>
 cond (decide (Dp <(ap ((ap (js+ 3))+dl)))) (some ((⟨h_.Words,h_.ar,h_.aA,h_.aO,h_.aM,h_.ay,h_.Next⟩:bs),0,false)) ((B0 (⟨h_.Words,h_.ar,h_.aA,h_.aO,h_.aM,h_.ay,h_.Next⟩:bs)).bind fun dD=>
 (idx dD.Words js).bind fun nV=>
 (some (dD.Words.set (js).toNat ck)).bind fun Wr=>
 (idx Wr (ap (js+ 1))).bind fun agt=>
 (some (Wr.set (ap (js+ 1)).toNat dl)).bind fun Ws=>
 (idx Ws (ap (js+ 2))).bind fun agv=>
 (some (Ws.set (ap (js+ 2)).toNat dD.Next)).bind fun cn=>
 Option.bind (α:=Int × Int) (cond (e1) (some (dD.aO,ap (dD.aM+(ap (3 +dl))))) (some (ap (dD.aO+(ap (3 +dl))),dD.aM))) fun ((h4,kI):Int × Int)=>
 some ((⟨cn,dD.ar,dD.aA,h4,kI,dD.ay,ap (dD.Next+ 1)⟩:bs),js,true))
end J
namespace Go.Proofs.YtpkhpagplommoaaGreat
open Go Go.RowKit a2
set_option maxHeartbeats 4000000
set_option maxRecDepth 20000
theorem aiR {W:World} {X:List Nat} {h_:J.bs} {r:J.bs} {ag:aS} {ah:Nat} {aI:aS} {aQ:Nat} {M0:List Nat} (hm:au W M0 X W [] [U (aj .i64) ag ah h_.Words,U (aj .i64) aI aQ h_.ay]) (h:J.B0 h_=some r) :
 Calls Tryz.prog 56 [.agg #[.q ag ah h_.Words,.i h_.ar,.i h_.aA,.i h_.aO,.i h_.aM,.q aI aQ h_.ay,.i h_.Next]].toArray W (fun e aD=>∃ dm:Option Addr,∃ dJ:Nat,∃ Bh:List Value,∃ kQ:Option Addr,∃ kV:Nat,∃ vL:List Value,e= .returned (.agg #[.q dm dJ r.Words,.i r.ar,.i r.aA,.i r.aO,.i r.aM,.q kQ kV r.ay,.i r.Next])/\au W M0 X aD [aq.row 3 1 (.q dm dJ r.Words) r.Words Bh,aq.row 3 1 (.q kQ kV r.ay) r.ay vL] [al.rows (aj .i64) Bh r.Words,al.rows (aj .i64) vL r.ay]):=by
 refine enter Tryz.func56 rfl Tryz.ntmps56 rfl fun a I=>?_;rw [J.B0] at h;refine wp_seq_k fun K cZ=>aY <| cy (cs:=[.q ag ah h_.Words,.i h_.ar,.i h_.aA,.i h_.aO,.i h_.aM,.q aI aQ h_.ay,.i h_.Next]) wn (ei rfl rfl (I.g rfl)) I hm rfl rfl fun a cl w _ I hm=>cy (cs:=[.slice none 0 0,.i 0,.i 0,.i 0,.i 0,.slice none 0 0,.i 0]) wn (eJ Tryz.zeroValue24 rfl rfl) I hm rfl rfl fun a sj w _ I hm=>wpList_nil <| cZ _ _ <| wp_seq_k fun K bI=>hd (m:=12) 7 (a' []) (by kernel_rfl) rfl fun w ad=>?_;have hm:=hm.dB ad;clear ad
 have ba:=hm;have av:=a'.refl [] w;refine cc [1,2,5,6] 4 [0,0,0,5] [(5,.q ag ah h_.Words),(9,.q aI aQ h_.ay)] [cl,5,cl,0] (fun a7 ad=>(aw (b9 ad (aZ (ba.e 1 rfl))) ax)) I av fun a I=>Kf 0 4 rfl rfl (by kernel_rfl) (fun _=>av) ?_ ?_
 · refine o3 (cs:=[]) wn (rT Tryz.underlying22 Tryz.sizeOf3 rfl) I hm rfl rfl fun a dc w ad z' I hm=>?_;have z':=Nat.le_trans av.size z';have av:=fp av ad;clear ad;refine cD <| Kf 3 4 rfl rfl (by kernel_rfl) (fun _=>av) ?_ ?_
   · obtain ⟨mQ,T6,h⟩:=J.aF h;have hm:=hm.jH (sz:=1) 0 ([]:eK) rfl rfl rfl rfl;have hm:=hm.more (y:=al.rows (aj .i64) [] []) rfl;refine Nj (T:=(aj .i64)) 0 0 1 hm rfl rfl rfl Tryz.underlying22 jC rfl rfl T6 rfl wn rfl (I.g rfl) (I.g rfl) I rfl rfl fun a cL cM D0 w ad I hm=>?_;have av:=sg av ad z';clear ad;refine cD <| cc [8] 1 [] [(11,.aL cl)] [] (fun a7 ad=>ax) I av fun a I=>cQ 4 rfl (by kernel_rfl) (fun _=>av) <| o3 (cs:=[]) wn (rT Tryz.underlying22 Tryz.sizeOf3 rfl) I hm rfl rfl fun a dW w ad adl I hm=>?_
     have adl:=Nat.le_trans av.size adl;have av:=fp av ad;clear ad;refine cD <| cQ 7 rfl (by kernel_rfl) (fun _=>av) ?_;obtain ⟨hh,Ht,h⟩:=J.aF h;have hm:=hm.jH (sz:=1) 0 ([]:eK) rfl rfl rfl rfl;have hm:=hm.more (y:=al.rows (aj .i64) [] []) rfl;refine nM (T:=(aj .i64)) 0 0 4 hm rfl rfl rfl Tryz.underlying22 jC rfl rfl Ht rfl wn rfl (I.g rfl) (I.g rfl) I rfl rfl fun a cq cr vJ w I hm=>cD ?_;clear ba av;have ba:=hm;have av:=a'.refl [] w;refine dV.next 9 (a' [] w) (by kernel_rfl) <| cQ 9 rfl (by kernel_rfl) (fun _=>av) ?_
     refine cx (vs:=[.q cL cM mQ]) 3 hm rfl wn rfl Tryz.sizeOf22 rfl rfl rfl rfl (I.g rfl) (I.g rfl) rfl fun w hm=>cD ?_;clear ba av;have ba:=hm;have av:=a'.refl [] w;refine dV.next 11 (a' [] w) (by kernel_rfl) <| cc [10] 1 [] [(12,.pointer (some ⟨cl,5,none⟩))] [] (fun a7 ad=>ax) I av fun a I=>cQ 11 rfl (by kernel_rfl) (fun _=>av) <| cx (vs:=[.q cq cr hh]) 3 hm rfl wn rfl Tryz.sizeOf22 rfl rfl rfl rfl (I.g rfl) (I.g rfl) rfl fun w hm=>cD ?_
     clear ba av;have ba:=hm;have av:=a'.refl [] w;refine dV.next 12 (a' [] w) (by kernel_rfl) <| fm (by kernel_rfl) ?_ (fun _=>av);clear ba av;refine bI _ _ <| wp_seq_k fun K ca=>aY <| bf 1 [0,0] [(13,.agg #[.q cL cM mQ,.i h_.ar,.i h_.aA,.i h_.aO,.i h_.aM,.q cq cr hh,.i h_.Next])] [cl,0] (aw (aZ (hm.e 3 rfl)) ax) I fun a I=>cx (vs:=[.q cL cM mQ,.i h_.ar,.i h_.aA,.i h_.aO,.i h_.aM,.q cq cr hh,.i h_.Next]) 2 hm rfl wn rfl Tryz.sizeOf24 rfl rfl rfl rfl (I.g rfl) (I.g rfl) rfl fun w hm=>?_
     refine wpList_nil <| ca _ _ <| wp_ret ?_;obtain rfl:=aB h;refine gR (vs:=[.agg #[.q cL cM mQ,.i h_.ar,.i h_.aA,.i h_.aO,.i h_.aM,.q cq cr hh,.i h_.Next]]) Tryz.results56 I ⟨⟨_,_,I.g rfl,.inl ⟨[.q cL cM mQ,.i h_.ar,.i h_.aA,.i h_.aO,.i h_.aM,.q cq cr hh,.i h_.Next],Tryz.isAgg24,Tryz.sizeOf24,g0 (hm.e 2 rfl) 0 ⟨rfl,rfl,rfl,rfl,rfl,rfl,rfl,trivial⟩,rfl⟩⟩,trivial⟩ ?_;exact ⟨cL,cM,D0,cq,cr,vJ,rfl,hm.aW [1,0] [2,0]⟩
   refine o3 (cs:=[]) wn (rT Tryz.underlying22 Tryz.sizeOf3 rfl) I hm rfl rfl fun a hr w ad CR I hm=>?_;have CR:=Nat.le_trans av.size CR;have av:=fp av ad;clear ad;refine cD <| cQ 3 rfl (by kernel_rfl) (fun _=>av) ?_;obtain ⟨mR,Hs,h⟩:=J.aF h;have hm:=hm.jH (sz:=1) 1 ([]:eK) rfl rfl rfl rfl;have hm:=hm.more (y:=al.rows (aj .i64) [] []) rfl;refine Nj (T:=(aj .i64)) 1 0 1 hm rfl rfl rfl Tryz.underlying22 jC rfl rfl Hs rfl wn rfl (I.g rfl) (I.g rfl) I rfl rfl fun a bB bC D1 w ad I hm=>?_;have av:=sg av ad z';clear ad;refine cD ?_
   refine cc [8] 1 [] [(11,.aL cl)] [] (fun a7 ad=>ax) I av fun a I=>cQ 7 rfl (by kernel_rfl) (fun _=>av) ?_;obtain ⟨hh,Ht,h⟩:=J.aF h;have hm:=hm.jH (sz:=1) 0 ([]:eK) rfl rfl rfl rfl;have hm:=hm.more (y:=al.rows (aj .i64) [] []) rfl;refine nM (T:=(aj .i64)) 0 0 4 hm rfl rfl rfl Tryz.underlying22 jC rfl rfl Ht rfl wn rfl (I.g rfl) (I.g rfl) I rfl rfl fun a cq cr vJ w I hm=>cD ?_;clear ba av;have ba:=hm;have av:=a'.refl [] w;refine dV.next 9 (a' [] w) (by kernel_rfl) <| cQ 9 rfl (by kernel_rfl) (fun _=>av) ?_
   refine cx (vs:=[.q bB bC mR]) 3 hm rfl wn rfl Tryz.sizeOf22 rfl rfl rfl rfl (I.g rfl) (I.g rfl) rfl fun w hm=>cD ?_;clear ba av;have ba:=hm;have av:=a'.refl [] w;refine dV.next 11 (a' [] w) (by kernel_rfl) <| cc [10] 1 [] [(12,.pointer (some ⟨cl,5,none⟩))] [] (fun a7 ad=>ax) I av fun a I=>cQ 11 rfl (by kernel_rfl) (fun _=>av) <| cx (vs:=[.q cq cr hh]) 3 hm rfl wn rfl Tryz.sizeOf22 rfl rfl rfl rfl (I.g rfl) (I.g rfl) rfl fun w hm=>cD ?_
   clear ba av;have ba:=hm;have av:=a'.refl [] w;refine dV.next 12 (a' [] w) (by kernel_rfl) <| fm (by kernel_rfl) ?_ (fun _=>av);clear ba av;refine bI _ _ <| wp_seq_k fun K ca=>aY <| bf 1 [0,0] [(13,.agg #[.q bB bC mR,.i h_.ar,.i h_.aA,.i h_.aO,.i h_.aM,.q cq cr hh,.i h_.Next])] [cl,0] (aw (aZ (hm.e 3 rfl)) ax) I fun a I=>cx (vs:=[.q bB bC mR,.i h_.ar,.i h_.aA,.i h_.aO,.i h_.aM,.q cq cr hh,.i h_.Next]) 2 hm rfl wn rfl Tryz.sizeOf24 rfl rfl rfl rfl (I.g rfl) (I.g rfl) rfl fun w hm=>?_
   refine wpList_nil <| ca _ _ <| wp_ret ?_;obtain rfl:=aB h;refine gR (vs:=[.agg #[.q bB bC mR,.i h_.ar,.i h_.aA,.i h_.aO,.i h_.aM,.q cq cr hh,.i h_.Next]]) Tryz.results56 I ⟨⟨_,_,I.g rfl,.inl ⟨[.q bB bC mR,.i h_.ar,.i h_.aA,.i h_.aO,.i h_.aM,.q cq cr hh,.i h_.Next],Tryz.isAgg24,Tryz.sizeOf24,g0 (hm.e 2 rfl) 0 ⟨rfl,rfl,rfl,rfl,rfl,rfl,rfl,trivial⟩,rfl⟩⟩,trivial⟩ ?_;exact ⟨bB,bC,D1,cq,cr,vJ,rfl,hm.aW [1,0] [2,0]⟩
 refine o3 (cs:=[]) wn (rT Tryz.underlying22 Tryz.sizeOf3 rfl) I hm rfl rfl fun a dc w ad z' I hm=>?_;have z':=Nat.le_trans av.size z';have av:=fp av ad;clear ad;refine cD <| cQ 0 rfl (by kernel_rfl) (fun _=>av) <| o3 (cs:=[]) wn (rT Tryz.underlying22 Tryz.sizeOf3 rfl) I hm rfl rfl fun a hr w ad CR I hm=>?_;have CR:=Nat.le_trans av.size CR;have av:=fp av ad;clear ad;refine cD <| cQ 3 rfl (by kernel_rfl) (fun _=>av) ?_;obtain ⟨mR,Hs,h⟩:=J.aF h;have hm:=hm.jH (sz:=1) 0 ([]:eK) rfl rfl rfl rfl;have hm:=hm.more (y:=al.rows (aj .i64) [] []) rfl
 refine Nj (T:=(aj .i64)) 0 0 1 hm rfl rfl rfl Tryz.underlying22 jC rfl rfl Hs rfl wn rfl (I.g rfl) (I.g rfl) I rfl rfl fun a bB bC D1 w ad I hm=>?_;have av:=sg av ad CR;clear ad;refine cD <| cc [8] 1 [] [(11,.aL cl)] [] (fun a7 ad=>ax) I av fun a I=>cQ 7 rfl (by kernel_rfl) (fun _=>av) ?_;obtain ⟨hh,Ht,h⟩:=J.aF h;have hm:=hm.jH (sz:=1) 1 ([]:eK) rfl rfl rfl rfl;have hm:=hm.more (y:=al.rows (aj .i64) [] []) rfl;refine nM (T:=(aj .i64)) 1 0 4 hm rfl rfl rfl Tryz.underlying22 jC rfl rfl Ht rfl wn rfl (I.g rfl) (I.g rfl) I rfl rfl ?_
 intro a cq cr vJ w I hm;refine cD ?_;clear ba av;have ba:=hm;have av:=a'.refl [] w;refine dV.next 9 (a' [] w) (by kernel_rfl) <| cQ 9 rfl (by kernel_rfl) (fun _=>av) <| cx (vs:=[.q bB bC mR]) 3 hm rfl wn rfl Tryz.sizeOf22 rfl rfl rfl rfl (I.g rfl) (I.g rfl) rfl fun w hm=>cD ?_;clear ba av;have ba:=hm;have av:=a'.refl [] w;refine dV.next 11 (a' [] w) (by kernel_rfl) <| cc [10] 1 [] [(12,.pointer (some ⟨cl,5,none⟩))] [] (fun a7 ad=>ax) I av fun a I=>cQ 11 rfl (by kernel_rfl) (fun _=>av) ?_
 refine cx (vs:=[.q cq cr hh]) 3 hm rfl wn rfl Tryz.sizeOf22 rfl rfl rfl rfl (I.g rfl) (I.g rfl) rfl fun w hm=>cD ?_;clear ba av;have ba:=hm;have av:=a'.refl [] w;refine dV.next 12 (a' [] w) (by kernel_rfl) <| fm (by kernel_rfl) ?_ (fun _=>av);clear ba av;refine bI _ _ <| wp_seq_k fun K ca=>aY <| bf 1 [0,0] [(13,.agg #[.q bB bC mR,.i h_.ar,.i h_.aA,.i h_.aO,.i h_.aM,.q cq cr hh,.i h_.Next])] [cl,0] (aw (aZ (hm.e 3 rfl)) ax) I fun a I=>?_
 refine cx (vs:=[.q bB bC mR,.i h_.ar,.i h_.aA,.i h_.aO,.i h_.aM,.q cq cr hh,.i h_.Next]) 2 hm rfl wn rfl Tryz.sizeOf24 rfl rfl rfl rfl (I.g rfl) (I.g rfl) rfl fun w hm=>wpList_nil <| ca _ _ <| wp_ret ?_;obtain rfl:=aB h
 refine gR (vs:=[.agg #[.q bB bC mR,.i h_.ar,.i h_.aA,.i h_.aO,.i h_.aM,.q cq cr hh,.i h_.Next]]) Tryz.results56 I ⟨⟨_,_,I.g rfl,.inl ⟨[.q bB bC mR,.i h_.ar,.i h_.aA,.i h_.aO,.i h_.aM,.q cq cr hh,.i h_.Next],Tryz.isAgg24,Tryz.sizeOf24,g0 (hm.e 2 rfl) 0 ⟨rfl,rfl,rfl,rfl,rfl,rfl,rfl,trivial⟩,rfl⟩⟩,trivial⟩ ?_;exact ⟨bB,bC,D1,cq,cr,vJ,rfl,hm.aW [0,1] [2,0]⟩
theorem aiH {W:World} {X:List Nat} {aa:J.bw} {ck:Int} {dl:Int} {r:Int} {ag:aS} {ah:Nat} {aI:aS} {aQ:Nat} {aT:aS} {aV:Nat} {bl:aS} {bp:Nat} {bj:aS} {bk:Nat} {M0:List Nat} (hm:au W M0 X W [] [U J.bd ag ah aa.aJ,U (aj .i64) aI aQ aa.aG,U (aH J.aX) aT aV aa.Fields,U (aH bz) bl bp aa.Names,U (aH J.bR) bj bk aa.aE]) (h:J.BR aa ck dl=some r) :
 Calls Tryz.prog 21 [.agg #[.q ag ah aa.aJ,.q aI aQ aa.aG,.q aT aV aa.Fields,.q bl bp aa.Names,.q bj bk aa.aE],.i ck,.i dl].toArray W (fun e aD=>e= .returned (.i r)/\au W M0 X aD [] []):=by
 refine enter Tryz.func21 rfl Tryz.ntmps21 rfl fun a I=>?_;rw [J.BR] at h;refine wp_seq_k fun K cZ=>aY <| cy (cs:=[.q ag ah aa.aJ,.q aI aQ aa.aG,.q aT aV aa.Fields,.q bl bp aa.Names,.q bj bk aa.aE]) wn (ei rfl rfl (I.g rfl)) I hm rfl rfl fun a iB w _ I hm=>aP 1 [] [] I fun a I=>wpList_nil (cZ _ _ ?_);refine wp_seq_k fun K bI=>wp_seq_k fun K ca=>aY ?_
 refine bf 2 [0,0] [(7,.agg #[.q ag ah aa.aJ,.q aI aQ aa.aG,.q aT aV aa.Fields,.q bl bp aa.Names,.q bj bk aa.aE]),(8,.i ck)] [iB,0] (aw (aZ (hm.e 0 rfl)) ax) I fun a I=>?_;obtain ⟨c2,mI,h⟩:=J.aF h;have hc:=hm;refine bP (vs:=[.agg #[.q ag ah aa.aJ,.q aI aQ aa.aG,.q aT aV aa.Fields,.q bl bp aa.Names,.q bj bk aa.aE],.i ck]) wn rfl Tryz.call54 ⟨(I.g rfl),(I.g rfl),trivial⟩ (abl ((hc.into 0).pick ⟨⟨0,rfl⟩,⟨1,rfl⟩,⟨2,rfl⟩,⟨3,rfl⟩,⟨4,rfl⟩,trivial⟩) mI) I rfl rfl ?_;rintro _ w ⟨rfl,af⟩;refine ⟨_,rfl,fun a I=>?_⟩;have ad:a' [] _ w:=af.ev;have hm:=hc.back 0 af
 clear af hc;clear ad;refine aP 1 [] [(10,.bool (!c2))] I fun a I=>wpList_nil (ca _ _ ?_);refine bi (I.g rfl) h (fun jm h=>?_) (fun jm h=>?_)
 · refine bt [] [(6,.i 7)] I fun a I=>wp_ret ?_;obtain rfl:=aB h;refine ak <| bn Tryz.results21 I rfl ?_;exact ⟨rfl,hm.aW [] []⟩
 refine wp_skip <| bI _ _ <| wp_seq_k fun K cu=>wp_seq_k fun K dL=>aY <| jS 3 [0,0] [(11,.agg #[.q ag ah aa.aJ,.q aI aQ aa.aG,.q aT aV aa.Fields,.q bl bp aa.Names,.q bj bk aa.aE]),(12,.i ck),(13,.i dl)] [iB,0] (aw (aZ (hm.e 0 rfl)) ax) I fun a I=>?_;obtain ⟨fP,Ao,h⟩:=J.aF h;have hc:=hm
 refine bP (vs:=[.agg #[.q ag ah aa.aJ,.q aI aQ aa.aG,.q aT aV aa.Fields,.q bl bp aa.Names,.q bj bk aa.aE],.i ck,.i dl]) wn rfl Tryz.call55 ⟨(I.g rfl),(I.g rfl),(I.g rfl),trivial⟩ (abk ((hc.into 0).pick ⟨⟨0,rfl⟩,⟨1,rfl⟩,⟨2,rfl⟩,⟨3,rfl⟩,⟨4,rfl⟩,trivial⟩) Ao) I rfl rfl ?_;rintro _ w ⟨rfl,af⟩;refine ⟨_,rfl,fun a I=>?_⟩;have hm:=hc.back 0 af;clear af hc;refine eo 1 [] [(15,.bool (!fP))] I fun a I=>wpList_nil (dL _ _ ?_);refine bi (I.g rfl) h (fun Gi h=>?_) (fun Gi h=>?_)
 · refine bt [] [(6,.i 3)] I fun a I=>wp_ret ?_;obtain rfl:=aB h;refine ak <| bn Tryz.results21 I rfl ?_;exact ⟨rfl,hm.aW [] []⟩
 refine wp_skip <| cu _ _ <| bt [] [(6,.i 0)] I fun a I=>wp_ret ?_;obtain rfl:=aB h;refine bn Tryz.results21 I rfl ?_;exact ⟨rfl,hm.aW [] []⟩
theorem aiJ {W:World} {X:List Nat} {h_:J.bs} {ck:Int} {dl:Int} {e1:Bool} {r:J.bs × Int × Bool} {ag:aS} {ah:Nat} {aI:aS} {aQ:Nat} {M0:List Nat} (hm:au W M0 X W [] [U (aj .i64) ag ah h_.Words,U (aj .i64) aI aQ h_.ay]) (h:J.BS h_ ck dl e1=some r) :
 Calls Tryz.prog 22 [.agg #[.q ag ah h_.Words,.i h_.ar,.i h_.aA,.i h_.aO,.i h_.aM,.q aI aQ h_.ay,.i h_.Next],.i ck,.i dl,.bool e1].toArray W (fun e aD=>∃ qA:Option Addr,∃ qS:Nat,∃ y9:Option Addr,∃ zu:Nat,e= .returned (.tuple #[.agg #[.q qA qS r.1.Words,.i r.1.ar,.i r.1.aA,.i r.1.aO,.i r.1.aM,.q y9 zu r.1.ay,.i r.1.Next],.i r.2.1,.bool r.2.2])/\au W M0 X aD [] [U (aj .i64) qA qS r.1.Words,U (aj .i64) y9 zu r.1.ay]):=by
 refine enter Tryz.func22 rfl Tryz.ntmps22 rfl fun a I=>?_;rw [J.BS] at h;refine wp_seq_k fun K cZ=>aY <| cy (cs:=[.q ag ah h_.Words,.i h_.ar,.i h_.aA,.i h_.aO,.i h_.aM,.q aI aQ h_.ay,.i h_.Next]) wn (ei rfl rfl (I.g rfl)) I hm rfl rfl fun a cl w _ I hm=>cy (cs:=[.slice none 0 0,.i 0,.i 0,.i 0,.i 0,.slice none 0 0,.i 0]) wn (eJ Tryz.zeroValue24 rfl rfl) I hm rfl rfl fun a sj w _ I hm=>aP 2 [] [] I fun a I=>wpList_nil (cZ _ _ ?_);refine wp_seq_k fun K bI=>hF (by kernel_rfl) (by kernel_rfl) ?_
 refine dM 7 [0,3,0,1] [(11,.i h_.aO),(12,.i (J.ap (h_.ar+ 1)))] [cl,1,cl,3] (fun a7 ad=>(aw (b9 ad (aZ (hm.e 1 rfl))) ax)) I fun a I=>wpQuiet_nil fun w ad=>?_;have hm:=hm.dB ad;clear ad;refine bI _ _ ?_;obtain ⟨aef,h,Sm⟩:=J.aF h
 refine qY (fun a w=>∃ (js:Int) (Dp:Int),Fr ⟨73,[]⟩ [(1,.i ck),(2,.i dl),(3,.bool e1),(4,.aL cl),(8,.aL sj),(11,.i js),(12,.i Dp)] a/\au W M0 X w [aq.bm sj 24 [.slice none 0 0,.i 0,.i 0,.i 0,.i 0,.slice none 0 0,.i 0],aq.bm cl 24 [.q ag ah h_.Words,.i h_.ar,.i h_.aA,.i h_.aO,.i h_.aM,.q aI aQ h_.ay,.i h_.Next]] [U (aj .i64) ag ah h_.Words,U (aj .i64) aI aQ h_.ay]/\aef=(js,Dp)) (fun K ca=>?_) ?_
 · clear Sm;refine bc [] [(18,.bool e1)] I fun a I=>bi (I.g rfl) h (fun t' h=>?_) (fun t' h=>?_)
   · refine hF (by kernel_rfl) (by kernel_rfl) <| dM 10 [0,4,0,1,0,2] [(11,.i h_.aM),(12,.i (J.ap ((J.ap (h_.ar+h_.aA))+ 1)))] [cl,2,cl,1,cl,4] (fun a7 ad=>(aw (b9 ad (aZ (hm.e 1 rfl))) ax)) I fun a I=>wpQuiet_nil fun w ad=>?_;have hm:=hm.dB ad;clear ad;exact ca _ _ ⟨h_.aM,J.ap ((J.ap (h_.ar+h_.aA))+ 1),I.cut,hm,(os h)⟩
   refine wp_skip ?_;exact ca _ _ ⟨h_.aO,J.ap (h_.ar+ 1),I.cut,hm,(os h)⟩
 rintro a w ⟨js,Dp,I,hm,bb⟩;subst aef;have h:=Sm;clear Sm;dsimp only at h;refine wp_seq_k fun K cu=>bc [] [(32,.bool (decide (Dp <(J.ap ((J.ap (js+ 3))+dl)))))] I fun a I=>bi (I.g rfl) h (fun ga h=>?_) (fun ga h=>?_)
 · refine wp_seq_k fun K dt=>aY <| bf 1 [0,0] [(33,.agg #[.q ag ah h_.Words,.i h_.ar,.i h_.aA,.i h_.aO,.i h_.aM,.q aI aQ h_.ay,.i h_.Next])] [cl,0] (aw (aZ (hm.e 1 rfl)) ax) I fun a I=>cx (vs:=[.q ag ah h_.Words,.i h_.ar,.i h_.aA,.i h_.aO,.i h_.aM,.q aI aQ h_.ay,.i h_.Next]) 0 hm rfl wn rfl Tryz.sizeOf24 rfl rfl rfl rfl (I.g rfl) (I.g rfl) rfl fun w hm=>aP 2 [] [(9,.i 0),(10,.bool false)] I fun a I=>wpList_nil (dt _ _ ?_);refine wp_ret ?_;obtain rfl:=aB h;refine ak ?_
   refine gR (vs:=[.agg #[.q ag ah h_.Words,.i h_.ar,.i h_.aA,.i h_.aO,.i h_.aM,.q aI aQ h_.ay,.i h_.Next],.i 0,.bool false]) Tryz.results22 I ⟨⟨_,_,I.g rfl,.inl ⟨[.q ag ah h_.Words,.i h_.ar,.i h_.aA,.i h_.aO,.i h_.aM,.q aI aQ h_.ay,.i h_.Next],Tryz.isAgg24,Tryz.sizeOf24,g0 (hm.e 0 rfl) 0 ⟨rfl,rfl,rfl,rfl,rfl,rfl,rfl,trivial⟩,rfl⟩⟩,I.g rfl,I.g rfl,trivial⟩ ?_;exact ⟨ag,ah,aI,aQ,rfl,hm.aW [] [0,1]⟩
 refine wp_skip <| cu _ _ <| wp_seq_k fun K cO=>aY <| bf 1 [0,0] [(34,.agg #[.q ag ah h_.Words,.i h_.ar,.i h_.aA,.i h_.aO,.i h_.aM,.q aI aQ h_.ay,.i h_.Next])] [cl,0] (aw (aZ (hm.e 1 rfl)) ax) I fun a I=>?_;obtain ⟨dD,uu,h⟩:=J.aF h;have hc:=hm;refine bP (vs:=[.agg #[.q ag ah h_.Words,.i h_.ar,.i h_.aA,.i h_.aO,.i h_.aM,.q aI aQ h_.ay,.i h_.Next]]) wn rfl Tryz.call56 ⟨(I.g rfl),trivial⟩ (aiR ((hc.into 0).pick ⟨⟨0,rfl⟩,⟨1,rfl⟩,trivial⟩) uu) I rfl rfl ?_;rintro _ w ⟨eE,eL,aHK,eF,eS,Yz,rfl,af⟩;refine ⟨_,rfl,fun a I=>?_⟩;have ad:a' [] _ w:=af.ev
 have hm:=hc.back 0 af;clear af hc;clear ad;refine cx (vs:=[.q eE eL dD.Words,.i dD.ar,.i dD.aA,.i dD.aO,.i dD.aM,.q eF eS dD.ay,.i dD.Next]) 3 hm rfl wn rfl Tryz.sizeOf24 rfl rfl rfl rfl (I.g rfl) (I.g rfl) rfl fun w hm=>wpList_nil <| cO _ _ <| wp_seq_k fun K dp=>hd (m:=21) 20 (a' (Value.q eE eL dD.Words).ownBlock.toList) (by kernel_rfl) rfl fun w ad=>?_;have hm:=hm.dB ad;clear ad;have ba:=hm;have av:=a'.refl (Value.q eE eL dD.Words).ownBlock.toList w
 refine cc [0,1,2,3,4,5,6,7,8,9,10,11,12,13,14] 15 [0,0,0,0,0,0,0,6] [(37,.q eE eL dD.Words),(38,.i js),(40,.q eE eL dD.Words),(42,.i (J.ap (js+ 1))),(44,.q eE eL dD.Words),(46,.i (J.ap (js+ 2))),(47,.i ck),(48,.i dl),(50,.i dD.Next)] [cl,6,cl,0,cl,0,cl,0] (fun a7 ad=>(aw (zD ad (ba.AK 3 0 rfl rfl (by decide)) (w8 (ba.e 3 rfl)) (aZ (ba.e 3 rfl))) ax)) I av fun a I=>?_;obtain ⟨nV,LV,h⟩:=J.aF h;obtain ⟨Q8,Sh,_,rfl,RN⟩:=gi (ba.e 0 rfl) (ba.d 0 rfl) LV
 refine eR 15 rfl (by kernel_rfl) wn (fun a7=>bF Tryz.underlying22 Tryz.sizeOf3 rfl (I.g rfl) (I.g rfl) Q8 Sh) av I rfl rfl fun a I=>cQ 16 rfl (by kernel_rfl) (fun _=>av) ?_;obtain ⟨Wr,ayW,h⟩:=J.aF h;refine nQ (T:=(aj .i64)) (d':=ck) (vs:=[.i ck]) (cs0:=[.i nV]) (kk:=0) 0 0 ayW hm rfl rfl LV rfl RN wn rfl Tryz.sizeOf3 rfl rfl rfl rfl rfl (I.g rfl) (I.g rfl) rfl fun D2 w hlen ad hm=>?_;try unfold Value.q at hm;try unfold Value.q at I;rw [hlen] at hm;try rw [hlen] at I;clear hlen;have av:=av.trans ad (fun x ai=>.inl ai);clear ad;refine cD ?_;obtain ⟨agt,adW,h⟩:=J.aF h;obtain ⟨alY,awP,_,rfl,asz⟩:=gi (hm.e 0 rfl) (hm.d 0 rfl) adW
 refine eR 17 rfl (by kernel_rfl) wn (fun a7=>bF Tryz.underlying22 Tryz.sizeOf3 rfl (I.g rfl) (I.g rfl) alY awP) av I rfl rfl fun a I=>cQ 18 rfl (by kernel_rfl) (fun _=>av) ?_;obtain ⟨Ws,ay0,h⟩:=J.aF h;refine nQ (T:=(aj .i64)) (d':=dl) (vs:=[.i dl]) (cs0:=[.i agt]) (kk:=0) 0 0 ay0 hm rfl rfl adW rfl asz wn rfl Tryz.sizeOf3 rfl rfl rfl rfl rfl (I.g rfl) (I.g rfl) rfl fun aHP w hlen ad hm=>?_;try unfold Value.q at hm;try unfold Value.q at I;rw [hlen] at hm;try rw [hlen] at I;clear hlen;have av:=av.trans ad (fun x ai=>.inl (aFG ai));clear ad;refine cD ?_;obtain ⟨agv,adY,h⟩:=J.aF h;obtain ⟨amo,axj,_,rfl,as4⟩:=gi (hm.e 0 rfl) (hm.d 0 rfl) adY
 refine eR 19 rfl (by kernel_rfl) wn (fun a7=>bF Tryz.underlying22 Tryz.sizeOf3 rfl (I.g rfl) (I.g rfl) amo axj) av I rfl rfl fun a I=>cQ 20 rfl (by kernel_rfl) (fun _=>av) ?_;obtain ⟨cn,T4,h⟩:=J.aF h;refine nQ (T:=(aj .i64)) (d':=dD.Next) (vs:=[.i dD.Next]) (cs0:=[.i agv]) (kk:=0) 0 0 T4 hm rfl rfl adY rfl as4 wn rfl Tryz.sizeOf3 rfl rfl rfl rfl rfl (I.g rfl) (I.g rfl) rfl fun D5 w hlen ad hm=>?_;try unfold Value.q at hm;try unfold Value.q at I;rw [hlen] at hm;try rw [hlen] at I;clear hlen;clear ad;refine cD ?_;clear ba av;have ba:=hm;have av:=a'.refl [] w;refine dV.next 21 (a' [] w) (by kernel_rfl) <| fm (by kernel_rfl) ?_ (fun _=>av);clear ba av
 have I:=I.cut (l':=[(2,.i dl),(3,.bool e1),(4,.aL cl),(8,.aL sj),(11,.i js)]);refine dp _ _ <| wp_seq_k fun K da=>aY <| bf 4 [0,6] [(56,.i (J.ap (dD.Next+ 1))),(57,.pointer (some ⟨cl,6,none⟩))] [cl,6] (aw (aZ (hm.e 3 rfl)) ax) I fun a I=>cx (vs:=[.i (J.ap (dD.Next+ 1))]) 3 hm rfl wn rfl Tryz.sizeOf3 rfl rfl rfl rfl (I.g rfl) (I.g rfl) rfl fun w hm=>wpList_nil <| da _ _ ?_;obtain ⟨C6,h,Ag⟩:=J.aF h
 refine qY (fun a w=>∃ (h4:Int) (kI:Int),Fr ⟨73,[]⟩ [(4,.aL cl),(8,.aL sj),(11,.i js)] a/\au W M0 X w [aq.row 3 1 (.q eE eL cn) cn D5,aq.row 3 1 (.q eF eS dD.ay) dD.ay Yz,aq.bm sj 24 [.slice none 0 0,.i 0,.i 0,.i 0,.i 0,.slice none 0 0,.i 0],aq.bm cl 24 [.q eE eL cn,.i dD.ar,.i dD.aA,.i h4,.i kI,.q eF eS dD.ay,.i (J.ap (dD.Next+ 1))]] [al.rows (aj .i64) D5 cn,al.rows (aj .i64) Yz dD.ay,U (aj .i64) ag ah h_.Words,U (aj .i64) aI aQ h_.ay]/\C6=(h4,kI)) (fun K dA=>?_) ?_
 · clear Ag;refine bc [] [(58,.bool e1)] I fun a I=>bi (I.g rfl) h (fun Rz h=>?_) (fun Rz h=>?_)
   · refine aY <| bf 6 [0,4] [(63,.i (J.ap (dD.aM+(J.ap (3 +dl))))),(64,.pointer (some ⟨cl,4,none⟩))] [cl,4] (aw (aZ (hm.e 3 rfl)) ax) I fun a I=>cx (vs:=[.i (J.ap (dD.aM+(J.ap (3 +dl))))]) 3 hm rfl wn rfl Tryz.sizeOf3 rfl rfl rfl rfl (I.g rfl) (I.g rfl) rfl fun w hm=>wpList_nil ?_;exact dA _ _ ⟨dD.aO,J.ap (dD.aM+(J.ap (3 +dl))),I.cut,hm.ec [0,4,5,6],(os h)⟩
   refine aY <| bf 6 [0,3] [(69,.i (J.ap (dD.aO+(J.ap (3 +dl))))),(70,.pointer (some ⟨cl,3,none⟩))] [cl,3] (aw (aZ (hm.e 3 rfl)) ax) I fun a I=>cx (vs:=[.i (J.ap (dD.aO+(J.ap (3 +dl))))]) 3 hm rfl wn rfl Tryz.sizeOf3 rfl rfl rfl rfl (I.g rfl) (I.g rfl) rfl fun w hm=>wpList_nil ?_;exact dA _ _ ⟨J.ap (dD.aO+(J.ap (3 +dl))),dD.aM,I.cut,hm.ec [0,4,5,6],(os h)⟩
 rintro a w ⟨h4,kI,I,hm,bb⟩;subst C6;have h:=Ag;clear Ag;dsimp only at h;refine wp_seq_k fun K dQ=>aY <| bf 2 [0,0] [(71,.agg #[.q eE eL cn,.i dD.ar,.i dD.aA,.i h4,.i kI,.q eF eS dD.ay,.i (J.ap (dD.Next+ 1))]),(72,.i js)] [cl,0] (aw (aZ (hm.e 3 rfl)) ax) I fun a I=>cx (vs:=[.q eE eL cn,.i dD.ar,.i dD.aA,.i h4,.i kI,.q eF eS dD.ay,.i (J.ap (dD.Next+ 1))]) 2 hm rfl wn rfl Tryz.sizeOf24 rfl rfl rfl rfl (I.g rfl) (I.g rfl) rfl fun w hm=>?_
 refine aP 2 [] [(9,.i js),(10,.bool true)] I fun a I=>wpList_nil (dQ _ _ ?_);refine wp_ret ?_;obtain rfl:=aB h;refine gR (vs:=[.agg #[.q eE eL cn,.i dD.ar,.i dD.aA,.i h4,.i kI,.q eF eS dD.ay,.i (J.ap (dD.Next+ 1))],.i js,.bool true]) Tryz.results22 I ⟨⟨_,_,I.g rfl,.inl ⟨[.q eE eL cn,.i dD.ar,.i dD.aA,.i h4,.i kI,.q eF eS dD.ay,.i (J.ap (dD.Next+ 1))],Tryz.isAgg24,Tryz.sizeOf24,g0 (hm.e 2 rfl) 0 ⟨rfl,rfl,rfl,rfl,rfl,rfl,rfl,trivial⟩,rfl⟩⟩,I.g rfl,I.g rfl,trivial⟩ ?_;have hm:=hm.freeze 0 0 rfl rfl;have hm:=hm.freeze 0 2 rfl rfl
 exact ⟨eE,eL,eF,eS,rfl,hm.aW [] [1,0]⟩
end Go.Proofs.YtpkhpagplommoaaGreat
namespace J
def J' (F:Nat) (h_:bs) (aa:bw) (ck:Int) (dl:Int) (e1:Bool):Option (Bool):=
 (sp F (⟨h_.Words,h_.ar,h_.aA,h_.aO,h_.aM,h_.ay,h_.Next⟩:bs) (⟨aa.aJ,aa.aG,aa.Fields,aa.Names,aa.aE⟩:bw) ck dl e1).bind fun b7=>
 (BT F (⟨h_.Words,h_.ar,h_.aA,h_.aO,h_.aM,h_.ay,h_.Next⟩:bs) (⟨aa.aJ,aa.aG,aa.Fields,aa.Names,aa.aE⟩:bw)).bind fun m4=>
 Option.bind (α:=Int) (cond (decide (m4= 0)) ((BR (⟨aa.aJ,aa.aG,aa.Fields,aa.Names,aa.aE⟩:bw) ck dl).bind fun M2=>
 some M2) (some m4)) fun (sL:Int)=>
 Option.bind (α:=(List Int) × Int × Int × Int × Int × (List Int) × Int × Int × Int) (cond (decide (sL= 0)) ((BS (⟨h_.Words,h_.ar,h_.aA,h_.aO,h_.aM,h_.ay,h_.Next⟩:bs) ck dl e1).bind fun dk=>
 cond (dk.2.2) (some (dk.1.Words,dk.1.ar,dk.1.aA,dk.1.aO,dk.1.aM,dk.1.ay,dk.1.Next,sL,dk.2.1)) (some ([],0,0,0,0,[],0,8,0))) (some ([],0,0,0,0,[],0,sL,0))) fun ((uM,h4,kI,yw,yx,uP,yy,AH,AI):(List Int) × Int × Int × Int × Int × (List Int) × Int × Int × Int)=>
 (td F).bind fun M'=>
 cond (M' && (decide (b7.2.1 =AI))) ((qF F (⟨b7.1.Words,b7.1.ar,b7.1.aA,b7.1.aO,b7.1.aM,b7.1.ay,b7.1.Next⟩:bs) b7.2.2 AH (⟨uM,h4,kI,yw,yx,uP,yy⟩:bs)).bind fun XJ=>
 some XJ) (some false)
end J
namespace Go.Proofs.YtpkhpagplommoaaGreat
open Go Go.RowKit a2
set_option maxHeartbeats 4000000
set_option maxRecDepth 20000
theorem aiz {W:World} {X:List Nat} {F:Nat} {h_:J.bs} {aa:J.bw} {ck:Int} {dl:Int} {e1:Bool} {r:Bool} {ag:aS} {ah:Nat} {aI:aS} {aQ:Nat} {aT:aS} {aV:Nat} {bl:aS} {bp:Nat} {bj:aS} {bk:Nat} {bB:aS} {bC:Nat} {bL:aS} {bN:Nat} {M0:List Nat} (hm:au W M0 X W [] [U (aj .i64) ag ah h_.Words,U (aj .i64) aI aQ h_.ay,U J.bd aT aV aa.aJ,U (aj .i64) bl bp aa.aG,U (aH J.aX) bj bk aa.Fields,U (aH bz) bB bC aa.Names,U (aH J.bR) bL bN aa.aE]) (h:J.J' F h_ aa ck dl e1=some r) :
 Calls Tryz.prog 6 [.agg #[.q ag ah h_.Words,.i h_.ar,.i h_.aA,.i h_.aO,.i h_.aM,.q aI aQ h_.ay,.i h_.Next],.agg #[.q aT aV aa.aJ,.q bl bp aa.aG,.q bj bk aa.Fields,.q bB bC aa.Names,.q bL bN aa.aE],.i ck,.i dl,.bool e1].toArray W (fun e aD=>e= .returned (.bool r)/\au W M0 X aD [] []):=by
 refine enter Tryz.func6 rfl Tryz.ntmps6 rfl fun a I=>?_;rw [J.J'] at h;refine wp_seq_k fun K cZ=>aY <| cy (cs:=[.q ag ah h_.Words,.i h_.ar,.i h_.aA,.i h_.aO,.i h_.aM,.q aI aQ h_.ay,.i h_.Next]) wn (ei rfl rfl (I.g rfl)) I hm rfl rfl fun a b6 w _ I hm=>cy (cs:=[.q aT aV aa.aJ,.q bl bp aa.aG,.q bj bk aa.Fields,.q bB bC aa.Names,.q bL bN aa.aE]) wn (ei rfl rfl (I.g rfl)) I hm rfl rfl fun a cR w _ I hm=>aP 1 [] [] I fun a I=>wpList_nil (cZ _ _ ?_);refine wp_seq_k fun K bI=>?_
 refine aY <| bf 5 [0,0,1,0] [(21,.agg #[.q ag ah h_.Words,.i h_.ar,.i h_.aA,.i h_.aO,.i h_.aM,.q aI aQ h_.ay,.i h_.Next]),(22,.agg #[.q aT aV aa.aJ,.q bl bp aa.aG,.q bj bk aa.Fields,.q bB bC aa.Names,.q bL bN aa.aE]),(23,.i ck),(24,.i dl),(25,.bool e1)] [cR,0,b6,0] (aw (aZ (hm.e 1 rfl)) (aw (aZ (hm.e 0 rfl)) ax)) I fun a I=>?_;obtain ⟨b7,k4,h⟩:=J.aF h;have hc:=hm
 refine bP (vs:=[.agg #[.q ag ah h_.Words,.i h_.ar,.i h_.aA,.i h_.aO,.i h_.aM,.q aI aQ h_.ay,.i h_.Next],.agg #[.q aT aV aa.aJ,.q bl bp aa.aG,.q bj bk aa.Fields,.q bB bC aa.Names,.q bL bN aa.aE],.i ck,.i dl,.bool e1]) wn rfl Tryz.call20 ⟨(I.g rfl),(I.g rfl),(I.g rfl),(I.g rfl),(I.g rfl),trivial⟩ (abt ((hc.into 0).pick ⟨⟨0,rfl⟩,⟨1,rfl⟩,⟨2,rfl⟩,⟨3,rfl⟩,⟨4,rfl⟩,⟨5,rfl⟩,⟨6,rfl⟩,trivial⟩) k4) I rfl rfl ?_;rintro _ w ⟨dm,dJ,Bh,kQ,kV,vL,rfl,af⟩;refine ⟨_,rfl,fun a I=>?_⟩;have ad:a' [] _ w:=af.ev;have hm:=hc.back 0 af
 clear af hc;clear ad;refine aP 4 [] [(27,.agg #[.q dm dJ b7.1.Words,.i b7.1.ar,.i b7.1.aA,.i b7.1.aO,.i b7.1.aM,.q kQ kV b7.1.ay,.i b7.1.Next]),(28,.i b7.2.1),(29,.i b7.2.2)] I fun a I=>cy (cs:=[.slice none 0 0,.i 0,.i 0,.i 0,.i 0,.slice none 0 0,.i 0]) wn (eJ Tryz.zeroValue24 rfl rfl) I hm rfl rfl fun a FX w _ I hm=>?_
 refine cx (vs:=[.q dm dJ b7.1.Words,.i b7.1.ar,.i b7.1.aA,.i b7.1.aO,.i b7.1.aM,.q kQ kV b7.1.ay,.i b7.1.Next]) 0 hm rfl wn rfl Tryz.sizeOf24 rfl rfl rfl rfl (I.g rfl) (I.g rfl) rfl fun w hm=>aP 2 [] [(12,.i b7.2.1),(13,.i b7.2.2)] I fun a I=>wpList_nil (bI _ _ ?_);refine wp_seq_k fun K ca=>aY ?_
 refine bf 2 [0,0,1,0] [(30,.agg #[.q ag ah h_.Words,.i h_.ar,.i h_.aA,.i h_.aO,.i h_.aM,.q aI aQ h_.ay,.i h_.Next]),(31,.agg #[.q aT aV aa.aJ,.q bl bp aa.aG,.q bj bk aa.Fields,.q bB bC aa.Names,.q bL bN aa.aE])] [cR,0,b6,0] (aw (aZ (hm.e 4 rfl)) (aw (aZ (hm.e 3 rfl)) ax)) I fun a I=>?_;obtain ⟨m4,HJ,h⟩:=J.aF h;have hc:=hm
 refine bP (vs:=[.agg #[.q ag ah h_.Words,.i h_.ar,.i h_.aA,.i h_.aO,.i h_.aM,.q aI aQ h_.ay,.i h_.Next],.agg #[.q aT aV aa.aJ,.q bl bp aa.aG,.q bj bk aa.Fields,.q bB bC aa.Names,.q bL bN aa.aE]]) wn rfl Tryz.call18 ⟨(I.g rfl),(I.g rfl),trivial⟩ (aiK ((hc.into 0).pick ⟨⟨2,rfl⟩,⟨3,rfl⟩,⟨4,rfl⟩,⟨5,rfl⟩,⟨6,rfl⟩,⟨7,rfl⟩,⟨8,rfl⟩,trivial⟩) HJ) I rfl rfl ?_;rintro _ w ⟨rfl,af⟩;refine ⟨_,rfl,fun a I=>?_⟩;have hm:=hc.back 0 af;clear af hc
 refine bQ wn (gk (vs:=[]) (cs:=[.slice none 0 0,.i 0,.i 0,.i 0,.i 0,.slice none 0 0,.i 0]) Tryz.zeroValue24 Tryz.underlying24 rA rfl trivial (by kernel_rfl)) I rfl rfl fun a I=>cy (cs:=[.slice none 0 0,.i 0,.i 0,.i 0,.i 0,.slice none 0 0,.i 0]) wn (eJ Tryz.zeroValue24 rfl rfl) I hm rfl rfl fun a zG w _ I hm=>aP 1 [] [(14,.i m4)] I fun a I=>cx (vs:=[.slice none 0 0,.i 0,.i 0,.i 0,.i 0,.slice none 0 0,.i 0]) 0 hm rfl wn rfl Tryz.sizeOf24 rfl rfl rfl rfl (I.g rfl) (I.g rfl) rfl fun w hm=>?_
 refine aP 1 [] [(16,.i 0)] I fun a I=>wpList_nil (ca _ _ ?_);obtain ⟨aev,h,SZ⟩:=J.aF h
 refine qY (fun a w=>∃ (sL:Int),Fr ⟨67,[]⟩ [(2,.i ck),(3,.i dl),(4,.bool e1),(5,.aL b6),(11,.aL FX),(12,.i b7.2.1),(13,.i b7.2.2),(14,.i sL),(15,.aL zG),(16,.i 0)] a/\au W M0 X w [aq.bm zG 24 [.slice none 0 0,.i 0,.i 0,.i 0,.i 0,.slice none 0 0,.i 0],aq.bm FX 24 [.q dm dJ b7.1.Words,.i b7.1.ar,.i b7.1.aA,.i b7.1.aO,.i b7.1.aM,.q kQ kV b7.1.ay,.i b7.1.Next],aq.row 3 1 (.q dm dJ b7.1.Words) b7.1.Words Bh,aq.row 3 1 (.q kQ kV b7.1.ay) b7.1.ay vL,aq.bm cR 30 [.q aT aV aa.aJ,.q bl bp aa.aG,.q bj bk aa.Fields,.q bB bC aa.Names,.q bL bN aa.aE],aq.bm b6 24 [.q ag ah h_.Words,.i h_.ar,.i h_.aA,.i h_.aO,.i h_.aM,.q aI aQ h_.ay,.i h_.Next]] [al.rows (aj .i64) Bh b7.1.Words,al.rows (aj .i64) vL b7.1.ay,U (aj .i64) ag ah h_.Words,U (aj .i64) aI aQ h_.ay,U J.bd aT aV aa.aJ,U (aj .i64) bl bp aa.aG,U (aH J.aX) bj bk aa.Fields,U (aH bz) bB bC aa.Names,U (aH J.bR) bL bN aa.aE]/\aev=sL) (fun K cY=>?_) ?_
 · clear SZ;refine bc [] [(35,.bool (decide (m4= 0)))] I fun a I=>bi (I.g rfl) h (fun apY h=>?_) (fun apY h=>?_)
   · refine aY <| bf 3 [0,0] [(36,.agg #[.q aT aV aa.aJ,.q bl bp aa.aG,.q bj bk aa.Fields,.q bB bC aa.Names,.q bL bN aa.aE]),(37,.i ck),(38,.i dl)] [cR,0] (aw (aZ (hm.e 4 rfl)) ax) I fun a I=>?_;obtain ⟨M2,aAu,h⟩:=J.aF h;have hc:=hm;refine bP (vs:=[.agg #[.q aT aV aa.aJ,.q bl bp aa.aG,.q bj bk aa.Fields,.q bB bC aa.Names,.q bL bN aa.aE],.i ck,.i dl]) wn rfl Tryz.call21 ⟨(I.g rfl),(I.g rfl),(I.g rfl),trivial⟩ (aiH ((hc.into 0).pick ⟨⟨4,rfl⟩,⟨5,rfl⟩,⟨6,rfl⟩,⟨7,rfl⟩,⟨8,rfl⟩,trivial⟩) aAu) I rfl rfl ?_;rintro _ w ⟨rfl,af⟩;refine ⟨_,rfl,fun a I=>?_⟩
     have hm:=hc.back 0 af;clear af hc;refine aP 1 [] [(14,.i M2)] I fun a I=>wpList_nil ?_;exact cY _ _ ⟨M2,I.cut,hm,(os h)⟩
   refine wp_skip ?_;exact cY _ _ ⟨m4,I.cut,hm,(os h)⟩
 rintro a w ⟨sL,I,hm,bb⟩;subst aev;have h:=SZ;clear SZ;obtain ⟨aeL,h,Tz⟩:=J.aF h
 refine qY (fun a w=>∃ (qy:aS) (qQ:Nat) (uM:eK) (h4:Int) (kI:Int) (yw:Int) (yx:Int) (qA:aS) (qS:Nat) (uP:eK) (yy:Int) (AH:Int) (AI:Int),Fr ⟨67,[]⟩ [(11,.aL FX),(12,.i b7.2.1),(13,.i b7.2.2),(14,.i AH),(15,.aL zG),(16,.i AI)] a/\au W M0 X w [aq.bm zG 24 [.q qy qQ uM,.i h4,.i kI,.i yw,.i yx,.q qA qS uP,.i yy],aq.bm FX 24 [.q dm dJ b7.1.Words,.i b7.1.ar,.i b7.1.aA,.i b7.1.aO,.i b7.1.aM,.q kQ kV b7.1.ay,.i b7.1.Next],aq.row 3 1 (.q dm dJ b7.1.Words) b7.1.Words Bh,aq.row 3 1 (.q kQ kV b7.1.ay) b7.1.ay vL,aq.bm cR 30 [.q aT aV aa.aJ,.q bl bp aa.aG,.q bj bk aa.Fields,.q bB bC aa.Names,.q bL bN aa.aE],aq.bm b6 24 [.q ag ah h_.Words,.i h_.ar,.i h_.aA,.i h_.aO,.i h_.aM,.q aI aQ h_.ay,.i h_.Next]] [U (aj .i64) qy qQ uM,U (aj .i64) qA qS uP,al.rows (aj .i64) Bh b7.1.Words,al.rows (aj .i64) vL b7.1.ay,U (aj .i64) ag ah h_.Words,U (aj .i64) aI aQ h_.ay,U J.bd aT aV aa.aJ,U (aj .i64) bl bp aa.aG,U (aH J.aX) bj bk aa.Fields,U (aH bz) bB bC aa.Names,U (aH J.bR) bL bN aa.aE]/\aeL=(uM,h4,kI,yw,yx,uP,yy,AH,AI)) (fun K dL=>?_) ?_
 · clear Tz;refine bc [] [(41,.bool (decide (sL= 0)))] I fun a I=>bi (I.g rfl) h (fun RA h=>?_) (fun RA h=>?_)
   · refine wp_seq_k fun K cO=>aY <| bf 4 [0,0] [(43,.agg #[.q ag ah h_.Words,.i h_.ar,.i h_.aA,.i h_.aO,.i h_.aM,.q aI aQ h_.ay,.i h_.Next]),(44,.i ck),(45,.i dl),(46,.bool e1)] [b6,0] (aw (aZ (hm.e 5 rfl)) ax) I fun a I=>?_;obtain ⟨dk,Ut,h⟩:=J.aF h;have hc:=hm;refine bP (vs:=[.agg #[.q ag ah h_.Words,.i h_.ar,.i h_.aA,.i h_.aO,.i h_.aM,.q aI aQ h_.ay,.i h_.Next],.i ck,.i dl,.bool e1]) wn rfl Tryz.call22 ⟨(I.g rfl),(I.g rfl),(I.g rfl),(I.g rfl),trivial⟩ (aiJ ((hc.into 0).pick ⟨⟨2,rfl⟩,⟨3,rfl⟩,trivial⟩) Ut) I rfl rfl ?_
     rintro _ w ⟨qC,qU,EK,FI,rfl,af⟩;refine ⟨_,rfl,fun a I=>?_⟩;have hm:=hc.back 0 af;clear af hc;refine aP 4 [] [(48,.agg #[.q qC qU dk.1.Words,.i dk.1.ar,.i dk.1.aA,.i dk.1.aO,.i dk.1.aM,.q EK FI dk.1.ay,.i dk.1.Next]),(49,.i dk.2.1),(50,.bool dk.2.2)] I fun a I=>cy (cs:=[.slice none 0 0,.i 0,.i 0,.i 0,.i 0,.slice none 0 0,.i 0]) wn (eJ Tryz.zeroValue24 rfl rfl) I hm rfl rfl fun a akT w _ I hm=>?_
     refine cx (vs:=[.q qC qU dk.1.Words,.i dk.1.ar,.i dk.1.aA,.i dk.1.aO,.i dk.1.aM,.q EK FI dk.1.ay,.i dk.1.Next]) 0 hm rfl wn rfl Tryz.sizeOf24 rfl rfl rfl rfl (I.g rfl) (I.g rfl) rfl fun w hm=>aP 2 [] [(18,.i dk.2.1),(19,.bool dk.2.2)] I fun a I=>wpList_nil (cO _ _ ?_);refine bc [] [(51,.bool dk.2.2)] I fun a I=>bi (I.g rfl) h (fun ara h=>?_) (fun ara h=>?_)
     · refine aY <| bf 2 [0,0] [(52,.agg #[.q qC qU dk.1.Words,.i dk.1.ar,.i dk.1.aA,.i dk.1.aO,.i dk.1.aM,.q EK FI dk.1.ay,.i dk.1.Next]),(53,.i dk.2.1)] [akT,0] (aw (aZ (hm.e 0 rfl)) ax) I fun a I=>cx (vs:=[.q qC qU dk.1.Words,.i dk.1.ar,.i dk.1.aA,.i dk.1.aO,.i dk.1.aM,.q EK FI dk.1.ay,.i dk.1.Next]) 1 hm rfl wn rfl Tryz.sizeOf24 rfl rfl rfl rfl (I.g rfl) (I.g rfl) rfl fun w hm=>aP 1 [] [(16,.i dk.2.1)] I fun a I=>wpList_nil ?_
       exact dL _ _ ⟨qC,qU,dk.1.Words,dk.1.ar,dk.1.aA,dk.1.aO,dk.1.aM,EK,FI,dk.1.ay,dk.1.Next,sL,dk.2.1,I.cut,(hm.kr [1,2,3,4,5,6] rfl rfl),(os h)⟩
     refine ch [] [(14,.i 8)] I fun a I=>?_;have hm:=hm.more (y:=al.of (aH (aj .i64)) [.slice none 0 0] ([]:eK)) (i_ _ _ _);have hm:=hm.more (y:=al.of (aH (aj .i64)) [.slice none 0 0] ([]:eK)) (i_ _ _ _);exact dL _ _ ⟨none,0,[],0,0,0,0,none,0,[],0,8,0,I.cut,hm.aW [1,2,3,4,5,6] [0,0,4,5,6,7,8,9,10,11,12],(os h)⟩
   refine wp_skip ?_;have hm:=hm.more (y:=al.of (aH (aj .i64)) [.slice none 0 0] ([]:eK)) (i_ _ _ _);have hm:=hm.more (y:=al.of (aH (aj .i64)) [.slice none 0 0] ([]:eK)) (i_ _ _ _);exact dL _ _ ⟨none,0,[],0,0,0,0,none,0,[],0,sL,0,I.cut,hm.ec [0,0,2,3,4,5,6,7,8,9,10],(os h)⟩
 rintro a w ⟨qy,qQ,uM,h4,kI,yw,yx,qA,qS,uP,yy,AH,AI,I,hm,bb⟩;subst aeL;have h:=Tz;clear Tz;dsimp only at h;refine wp_seq_k fun K da=>aY ?_;obtain ⟨M',aBa,h⟩:=J.aF h;have hc:=hm;refine bP (vs:=[]) wn rfl Tryz.call23 trivial (aiB ((hc.into 0).pick trivial) aBa) I rfl rfl ?_;rintro _ w ⟨rfl,af⟩;refine ⟨_,rfl,fun a I=>?_⟩;have hm:=hc.back 0 af;clear af hc;refine aP 6 [0,0,0,0] [(60,.bool (M' && (decide (b7.2.1 =AI))))] I fun a I=>?_;rcases Bool.eq_false_or_eq_true (M' && (decide (b7.2.1 =AI))) with zY | zY
 · have h:=J.di zY h;have I:=I.b5 60 rfl zY;refine bf 4 [1,0,0,1,1,1,1,0] [(61,.agg #[.q dm dJ b7.1.Words,.i b7.1.ar,.i b7.1.aA,.i b7.1.aO,.i b7.1.aM,.q kQ kV b7.1.ay,.i b7.1.Next]),(62,.i b7.2.2),(63,.i AH),(64,.agg #[.q qy qQ uM,.i h4,.i kI,.i yw,.i yx,.q qA qS uP,.i yy])] [zG,0,FX,0] (aw (aZ (hm.e 1 rfl)) (aw (aZ (hm.e 0 rfl)) ax)) I fun a I=>?_;obtain ⟨XJ,aBb,h⟩:=J.aF h;have hc:=hm;have az:=hc.freeze 2 2 rfl rfl;have az:=az.freeze 2 4 rfl rfl
   refine bP (vs:=[.agg #[.q dm dJ b7.1.Words,.i b7.1.ar,.i b7.1.aA,.i b7.1.aO,.i b7.1.aM,.q kQ kV b7.1.ay,.i b7.1.Next],.i b7.2.2,.i AH,.agg #[.q qy qQ uM,.i h4,.i kI,.i yw,.i yx,.q qA qS uP,.i yy]]) (c1 I rfl rfl rfl rfl) rfl Tryz.call15 ⟨(I.g rfl),(I.g rfl),(I.g rfl),(I.g rfl),trivial⟩ (aiC (want_:=(⟨uM,h4,kI,yw,yx,uP,yy⟩:J.bs)) ((az.into 0).pick ⟨⟨1,rfl⟩,⟨0,rfl⟩,⟨2,rfl⟩,⟨3,rfl⟩,trivial⟩) aBb) I rfl rfl ?_;rintro _ w ⟨rfl,af⟩;refine ⟨_,rfl,fun a I=>?_⟩;have ad:a' [] _ w:=af.ev;have hm:=hc.gl 0 (by exact trivial) af
   clear af hc az;clear ad;refine eo 2 [1] [(10,.bool XJ)] I fun a I=>wpList_nil (da _ _ ?_);refine wp_ret ?_;obtain rfl:=aB h;refine bn Tryz.results6 I rfl ?_;exact ⟨rfl,hm.aW [] []⟩
 have h:=J.dh zY h;have I:=I.b5 60 rfl zY;refine eo 7 [1,1,1,1,1,1] [(10,.bool false)] I fun a I=>wpList_nil (da _ _ ?_);refine wp_ret ?_;obtain rfl:=aB h;refine bn Tryz.results6 I rfl ?_;exact ⟨rfl,hm.aW [] []⟩
end Go.Proofs.YtpkhpagplommoaaGreat
namespace J
theorem dy {n:Int} (bE: -9223372036854775808 <=n) (aC:n<= 9223372036854775807):ap n=n:=by unfold ap;omega
theorem gS {i n:Nat} (hi:i <n) (af:n<= 140737488355328):ap ((i:Int)+ 1)=((i+ 1 :Nat):Int):=by
 rw [dy (by omega) (by omega)];omega
theorem cd {α:Type} {l:List α} {i:Nat} {x:α} (h:l[i]? =some x):idx l (i:Int)=some x:=by
 unfold idx;rw [if_pos (by omega)];simpa using h
theorem cK {i n:Nat} (h:i <n):decide ((i:Int) <(n:Int))=true:=decide_eq_true (by omega)
theorem cJ (n:Nat):decide ((n:Int) <(n:Int))=false:=decide_eq_false (by omega)
def dE {ρ:Type}:Option ρ->Way ρ Unit
 | some r=>.out r
 | none=>.go ()
def hJ {ρ:Type} (o:Option ρ) (y:Option (Way ρ Unit)):Option (Way ρ Unit):=match o with
 | some r=>some (.out r)
 | none=>y
theorem each {α ρ:Type} {l:List α} {L:Nat->Int->Option (Way ρ Unit)} (g:α->Option ρ) (az:l.length<= 140737488355328)
 (a5:∀ k (i:Nat) x,l[i]? =some x->L (k+ 1) (i:Int)=hJ (g x) (L k (ap ((i:Int)+ 1))))
 (he:∀ k,L (k+ 1) (l.length:Int)=some (.go ())) {F:Nat} (bV:l.length <F):L F 0 =some (dE (l.findSome? g)):=by
 have key:∀ (d i k:Nat),i+d=l.length->d <k->L k (i:Int)=some (dE ((l.drop i).findSome? g)):=by
  intro d
  induction d with
  | zero=>
    intro i k h bh
    obtain ⟨k,rfl⟩:∃ k',k=k'+ 1 :=⟨k - 1,by omega⟩
    have hi:i=l.length:=by omega
    subst hi
    rw [he];simp [dE]
  | succ d cv=>
    intro i k h bh
    obtain ⟨k,rfl⟩:∃ k',k=k'+ 1 :=⟨k - 1,by omega⟩
    have hi:i <l.length:=by omega
    rw [a5 k i l[i] (List.getElem?_eq_getElem hi),List.drop_eq_getElem_cons hi,List.findSome?_cons]
    cases dd:g l[i] with
    | some r=>rfl
    | none=>
      simp only [hJ]
      rw [gS hi az]
      exact cv (i+ 1) k (by omega) (by omega)
 have:=key l.length 0 F (by omega) bV
 simpa using this
theorem kz {ρ:Type} {n:Nat} {L:Nat->Int->Option (Way ρ Unit)} (g:Nat->Option ρ) (az:n<= 140737488355328)
 (a5:∀ k (i:Nat),i <n->L (k+ 1) (i:Int)=hJ (g i) (L k (ap ((i:Int)+ 1))))
 (he:∀ k,L (k+ 1) (n:Int)=some (.go ())) {F:Nat} (bV:n <F):L F 0 =some (dE ((List.range n).findSome? g)):=by
 have h:=each (l:=List.range n) (L:=L) g (by simpa using az) (fun k i x ai=>by
  have hi:i <n:=by have:=(List.getElem?_eq_some_iff.1 ai).1;simpa using this
  rw [List.getElem?_range hi] at ai
  simp only [Option.some.injEq] at ai
  subst ai
  exact a5 k i hi) (fun k=>by simpa using he k) (F:=F) (by simpa using bV)
 exact h
theorem My {rU:Type} {n:Nat} (T:Nat->Nat->Option rU) (fin:rU) (a5:∀ k i,i <n->T (k+ 1) i=T k (i+ 1)) (he:∀ k,T (k+ 1) n=some fin) {F:Nat} (bV:n <F):T F 0 =some fin:=by
 have key:∀ (d i k:Nat),i+d=n->d <k->T k i=some fin:=by
  intro d
  induction d with
  | zero=>
    intro i k h bh
    obtain ⟨k,rfl⟩:∃ k',k=k'+ 1 :=⟨k - 1,by omega⟩
    have hi:i=n:=by omega
    subst hi
    exact he k
  | succ d cv=>
    intro i k h bh
    obtain ⟨k,rfl⟩:∃ k',k=k'+ 1 :=⟨k - 1,by omega⟩
    rw [a5 k i (by omega)]
    exact cv (i+ 1) k (by omega) (by omega)
 exact key n 0 F (by omega) bV
abbrev Small (F n:Nat):Prop:=n<= 140737488355328 /\n <F
end J
namespace J
def sf (b:UInt8):Bool:=((((decide (97 <=(b.toNat:Int))) && (decide ((b.toNat:Int)<= 122))) || ((decide (65 <=(b.toNat:Int))) && (decide ((b.toNat:Int)<= 90)))) || ((decide (48 <=(b.toNat:Int))) && (decide ((b.toNat:Int)<= 57)))) || (decide ((b.toNat:Int)= 95))
def hH (s:List UInt8):Bool:=(s.findSome? fun b=>if sf b then none else some ()).isNone && decide (s≠ []) && decide (s.length<= 20)
theorem zk {F:Nat} {s:List UInt8} (h:Small F s.length):n7 F s=some (hH s):=by
 unfold n7
 have l1:=each (l:=s) (L:=qH s) (fun b=>if sf b then none else some false) h.1 (fun k i x ai=>by
  rw [qH,cK (List.getElem?_eq_some_iff.1 ai).1,cond_true,cd ai,Option.bind_some]
  show cond (!sf x) _ _=_
  cases sf x <;> rfl) (fun k=>by rw [qH,cJ];rfl) h.2
 rw [l1]
 unfold hH
 have e:∀ s:List UInt8,s.findSome? (fun b=>if sf b then none else some false)=(s.findSome? (fun b=>if sf b then none else some ())).map (fun _=>false):=by
  intro s
  induction s with
  | nil=>rfl
  | cons b r cv=>simp only [List.findSome?_cons];cases sf b <;> simp [cv]
 rw [e]
 cases s.findSome? (fun b=>if sf b then none else some ()) with
 | some _=>rfl
 | none=>
   simp only [Option.map_none,dE,qh,Option.isNone_none,Bool.true_and]
   congr 1
   rw [Bool.eq_iff_iff]
   cases s <;> first | (simp;done) | (simp;omega)
theorem C3 {F:Nat} {s:List UInt8} (h:Small F s.length):nA F s=some (hH s):=by
 rw [<-zk h]
 unfold nA n7 bytesOf
 rw [if_pos h.1,Option.bind_some]
 have e:∀ k n,Aw s k n=qH s k n:=by
  intro k
  induction k with
  | zero=>intro n;rfl
  | succ k cv=>
    intro n
    rw [Aw,qH]
    simp only [cv]
    congr 1
    congr 1
    funext b
    have hc:(((((decide ((b.toNat:Int) < 97)) || (decide (122 <(b.toNat:Int)))) && ((decide ((b.toNat:Int) < 65)) || (decide (90 <(b.toNat:Int))))) && ((decide ((b.toNat:Int) < 48)) || (decide (57 <(b.toNat:Int))))) && (!decide ((b.toNat:Int)= 95)))= !sf b:=by
     unfold sf
     rw [Bool.eq_iff_iff]
     first | (simp;done) | (simp;omega)
    rw [hc];rfl
 rw [e]
 cases qH s F 0 with
 | none=>rfl
 | some w=>
   cases w with
   | out r=>rfl
   | go u=>
     simp only [qh]
     congr 1
     rw [Bool.eq_iff_iff]
     cases s <;> first | (simp;done) | (simp;omega)
def kindOk (k:Kind):Bool:=if k.Kind= 3 \/k.Kind= 4 then hH k.aN else (decide (k.Kind= 1) || decide (k.Kind= 2)) && decide (k.aN= [])
theorem UM {F:Nat} {k:Kind} (h:Small F k.aN.length):uy F k=some (kindOk k):=by
 unfold uy LY kindOk
 simp only [Option.bind_some,C3 h]
 by_cases bS:k.Kind= 3 \/k.Kind= 4
 · rw [if_pos bS]
   rcases bS with e | e <;> simp [e]
 · rw [if_neg bS]
   have eu: ¬ k.Kind= 3 :=fun e=>bS (.inl e)
   have g8: ¬ k.Kind= 4 :=fun e=>bS (.inr e)
   simp [eu,g8]
theorem PX {F:Nat} {k:Kind} (h:Small F k.aN.length):tn F k=some (kindOk k):=by
 unfold tn kindOk
 simp only [zk h,Option.bind_some]
 by_cases bS:k.Kind= 3 \/k.Kind= 4
 · rw [if_pos bS]
   rcases bS with e | e <;> simp [e]
 · rw [if_neg bS]
   have eu: ¬ k.Kind= 3 :=fun e=>bS (.inl e)
   have g8: ¬ k.Kind= 4 :=fun e=>bS (.inr e)
   by_cases aC:k.Kind= 1
   · simp [aC]
   · by_cases aU:k.Kind= 2
     · simp [aU]
     · simp [eu,g8,aC,aU]
def h' (n a b:Int):Bool:=decide (a<=n) && decide (n<=b)
def sl (h:Handler):Option Int:=if hH h.aN then (if h' h.From 0 200 && h' h.To 0 200 && h' h.gX 0 200 then none else some 3) else some 1
def uA (k:Kind):Option Int:=if kindOk k then none else some 7
def AF (m:Method):Int:=
 if hH m.Name then
  if 4 <m.bD.length\/ 200 <m.Code.length\/ 4 <m.bH.length then 2
  else if h' m.cT 0 10 && h' m.cS 0 10 then
   match m.bD.findSome? uA with
   | some e=>e
   | none=>if m.Returns=⟨0,[]⟩\/kindOk m.Returns=true then (m.bH.findSome? sl).getD 0 else 7
  else 3
 else 1
structure Method.Fits (F:Nat) (m:Method):Prop where
 name:Small F m.Name.length
 args:Small F m.bD.length
 arg:∀ k ∈ m.bD,Small F k.aN.length
 ret:Small F m.Returns.aN.length
 xJ:Small F m.bH.length
 hand:∀ h ∈ m.bH,Small F h.aN.length
structure aN.Fits (F:Nat) (c:aN):Prop where
 name:Small F c.Name.length
 super:Small F c.bW.length
 fields:Small F c.Fields.length
 field:∀ f ∈ c.Fields,Small F f.Name.length/\Small F f.Kind.aN.length
 methods:Small F c.aR.length
 method:∀ m ∈ c.aR,m.Fits F
def Fits (F:Nat) (l:List aN):Prop:=Small F l.length/\ ∀ c ∈ l,c.Fits F
theorem agj {F:Nat} (o:Option Int) (d:Int):dw (α:=Unit) (some (dE o)) (fun _=>some d)=some (o.getD d):=by cases o <;> rfl
theorem agk {o:Option Int} {k:Option Int}:dw (α:=Unit) (some (dE o)) (fun _=>k)=(match o with | some e=>some e | none=>k):=by cases o <;> rfl
theorem aEA {F:Nat} {m:Method} (h:m.Fits F):Ax F m=some (AF m):=by
 have l1:x8 F m F 0 =some (dE (m.bD.findSome? uA)):=each uA h.args.1 (fun k i x ai=>by
  rw [x8,cK (List.getElem?_eq_some_iff.1 ai).1,cond_true,cd ai,Option.bind_some,UM (h.arg x (List.mem_of_getElem? ai)),Option.bind_some]
  unfold uA
  show cond (!kindOk x) _ _=_
  cases kindOk x <;> rfl) (fun k=>by rw [x8,cJ];rfl) h.args.2
 have az:∀ {x:Handler} (_:x ∈ m.bH) (Y:Option (Way Int Unit)),((nA F x.aN).bind fun Im=>
  cond (!Im) (some (.out 1)) ((mL x.From 0 200).bind fun kq=>
  cond (!kq) (some (.out 3)) ((mL x.To 0 200).bind fun Dv=>
  cond (!Dv) (some (.out 3)) ((mL x.gX 0 200).bind fun Io=>
  cond (!Io) (some (.out 3)) Y))))=hJ (sl x) Y:=by
  intro x ai Y
  rw [C3 (h.hand x ai)]
  unfold sl mL
  simp only [Option.bind_some]
  show cond (!hH x.aN) _ (cond (!h' x.From 0 200) _ (cond (!h' x.To 0 200) _ (cond (!h' x.gX 0 200) _ _)))=_
  cases hH x.aN <;> cases h' x.From 0 200 <;> cases h' x.To 0 200 <;> cases h' x.gX 0 200 <;> rfl
 have gf:x9 F m F 0 =some (dE (m.bH.findSome? sl)):=each sl h.xJ.1 (fun k i x ai=>by
  rw [x9,cK (List.getElem?_eq_some_iff.1 ai).1,cond_true,cd ai,Option.bind_some]
  exact az (List.mem_of_getElem? ai) _) (fun k=>by rw [x9,cJ];rfl) h.xJ.2
 have oM:x' F m F 0 =some (dE (m.bH.findSome? sl)):=each sl h.xJ.1 (fun k i x ai=>by
  rw [x',cK (List.getElem?_eq_some_iff.1 ai).1,cond_true,cd ai,Option.bind_some]
  exact az (List.mem_of_getElem? ai) _) (fun k=>by rw [x',cJ];rfl) h.xJ.2
 unfold Ax mL AF
 rw [C3 h.name,l1,gf,oM]
 have bh:=UM (F:=F) (k:=(⟨m.Returns.Kind,m.Returns.aN⟩:Kind)) h.ret
 simp only [Option.bind_some,bh,agj (F:=F),agk]
 cases hH m.Name with
 | false=>rfl
 | true=>
   simp only [Bool.not_true,cond_false,if_true]
   by_cases hm:4 <m.bD.length\/ 200 <m.Code.length\/ 4 <m.bH.length
   · rw [if_pos hm]
     have:((decide (4 <(m.bD.length:Int))) || (decide (200 <(m.Code.length:Int))) || (decide (4 <(m.bH.length:Int))))=true:=by
      simp;omega
     rw [this];rfl
   · rw [if_neg hm]
     have:((decide (4 <(m.bD.length:Int))) || (decide (200 <(m.Code.length:Int))) || (decide (4 <(m.bH.length:Int))))=false:=by
      simp;omega
     rw [this]
     show cond (!h' m.cT 0 10) _ (cond (!h' m.cS 0 10) _ _)=_
     cases h' m.cT 0 10 <;> cases h' m.cS 0 10 <;> try rfl
     simp only [Bool.not_true,cond_false,Bool.and_self,if_true]
     cases m.bD.findSome? uA with
     | some e=>rfl
     | none=>
       simp only
       by_cases bU:m.Returns=⟨0,[]⟩
       · rw [if_pos (.inl bU),show (decide ((⟨m.Returns.Kind,m.Returns.aN⟩:Kind)=⟨0,[]⟩))=true from decide_eq_true bU]
         rfl
       · rw [show (decide ((⟨m.Returns.Kind,m.Returns.aN⟩:Kind)=⟨0,[]⟩))=false from decide_eq_false bU]
         simp only [Bool.not_false,cond_true]
         show cond (!kindOk m.Returns) _ _=_
         cases ayz:kindOk m.Returns with
         | true=>rw [if_pos (.inr rfl)];rfl
         | false=>rw [if_neg (by simp [bU])];rfl
theorem ahH {F:Nat} {m:Method} (h:m.Fits F):zj F m=some (AF m):=by
 have l1:wI F m F 0 =some (dE (m.bD.findSome? uA)):=each uA h.args.1 (fun k i x ai=>by
  rw [wI,cK (List.getElem?_eq_some_iff.1 ai).1,cond_true,cd ai,Option.bind_some,PX (h.arg x (List.mem_of_getElem? ai)),Option.bind_some]
  unfold uA
  cases kindOk x <;> rfl) (fun k=>by rw [wI,cJ];rfl) h.args.2
 have gf:wJ F m F 0 =some (dE (m.bH.findSome? sl)):=each sl h.xJ.1 (fun k i x ai=>by
  rw [wJ,cK (List.getElem?_eq_some_iff.1 ai).1,cond_true,cd ai,Option.bind_some,zk (h.hand x (List.mem_of_getElem? ai))]
  unfold sl gY
  simp only [Option.bind_some]
  show cond (!hH x.aN) _ (cond (!h' x.From 0 200) _ (cond (!h' x.To 0 200) _ (cond (!h' x.gX 0 200) _ _)))=_
  cases hH x.aN <;> cases h' x.From 0 200 <;> cases h' x.To 0 200 <;> cases h' x.gX 0 200 <;> rfl) (fun k=>by rw [wJ,cJ];rfl) h.xJ.2
 unfold zj gY AF
 rw [zk h.name,l1,gf]
 have bh:=PX (F:=F) (k:=(⟨m.Returns.Kind,m.Returns.aN⟩:Kind)) h.ret
 simp only [Option.bind_some,bh,agj (F:=F),agk]
 cases hH m.Name with
 | false=>rfl
 | true=>
   simp only [Bool.not_true,cond_false,if_true]
   by_cases hm:4 <m.bD.length\/ 200 <m.Code.length\/ 4 <m.bH.length
   · rw [if_pos hm]
     have:((decide (4 <(m.bD.length:Int))) || (decide (200 <(m.Code.length:Int))) || (decide (4 <(m.bH.length:Int))))=true:=by
      simp;omega
     rw [this];rfl
   · rw [if_neg hm]
     have:((decide (4 <(m.bD.length:Int))) || (decide (200 <(m.Code.length:Int))) || (decide (4 <(m.bH.length:Int))))=false:=by
      simp;omega
     rw [this]
     show cond (!h' m.cT 0 10) _ (cond (!h' m.cS 0 10) _ _)=_
     cases h' m.cT 0 10 <;> cases h' m.cS 0 10 <;> try rfl
     simp only [Bool.not_true,cond_false,Bool.and_self,if_true]
     cases m.bD.findSome? uA with
     | some e=>rfl
     | none=>
       simp only
       show cond ((!kindOk m.Returns) && _) _ _=_
       by_cases bU:m.Returns=⟨0,[]⟩
       · rw [if_pos (.inl bU),bU]
         simp
       · have e6:((!decide (m.Returns.Kind= 0)) || (!decide (m.Returns.aN= [])))=true:=by
          rcases h0:m.Returns with ⟨a,b⟩
          rw [h0] at bU
          by_cases bK:a= 0
          · by_cases a1:b= []
            · subst bK;subst a1;exact absurd rfl bU
            · simp [a1]
          · simp [bK]
         rw [e6]
         cases ayz:kindOk m.Returns with
         | true=>rw [if_pos (.inr rfl)];rfl
         | false=>rw [if_neg (by simp [bU])];rfl
end J
namespace J
def iz (f:Field):Option Int:=if hH f.Name then (if kindOk f.Kind then none else some 7) else some 1
def i' (e:Int):Option Int:=if e= 0 then none else some e
def jK (m:Method):Option Int:=i' (AF m)
def Cv (c:aN):Int:=
 if hH c.Name && (decide (c.bW= []) || hH c.bW) then
  if 6 <c.Fields.length\/ 8 <c.aR.length then 2
  else (c.Fields.findSome? iz).getD ((c.aR.findSome? jK).getD 0)
 else 1
def qX (c:aN):Option Int:=i' (Cv c)
def sd (l:List aN):Int:=if 10 <l.length then 2 else (l.findSome? qX).getD 0
def o4 {ρ:Type} (o:Option ρ) (y:Option ρ):Option ρ:=match o with
 | some e=>some e
 | none=>y
theorem WM {e:Int} {Y:Option (Way Int Unit)}:cond (!decide (e= 0)) (some (.out e)) Y=hJ (i' e) Y:=by
 unfold i' hJ
 by_cases h:e= 0
 · rw [if_pos h,decide_eq_true h];rfl
 · rw [if_neg h,decide_eq_false h];rfl
theorem ab0 {a b:Nat} (x y:Nat):((decide ((x:Int) <(a:Int))) || (decide ((y:Int) <(b:Int))))=decide (x <a\/y <b):=by
 rw [Bool.eq_iff_iff];simp
theorem nP {o:Option Int} {k:Unit->Option (Way Int Unit)}:ed (α:=Unit) (some (dE o)) k=hJ o (k ()):=by cases o <;> rfl
theorem jT {ρ:Type} {o:Option ρ} {k:Unit->Option ρ}:dw (α:=Unit) (some (dE o)) k=o4 o (k ()):=by cases o <;> rfl
theorem qi {o:Option Int} {Y:Option (Way Int Unit)} {k:Unit->Option (Way Int Unit)}:ed (α:=Unit) (hJ o Y) k=hJ o (ed (α:=Unit) Y k):=by cases o <;> rfl
section
variable {F:Nat}
theorem aEz {c:aN} (h:c.Fits F):HT F c=some (Cv c):=by
 have I:∀ {x:Field} (_:x ∈ c.Fields) (Y:Option (Way Int Unit)),((nA F x.Name).bind fun AR=>
  cond (!AR) (some (.out 1)) ((uy F (⟨x.Kind.Kind,x.Kind.aN⟩:Kind)).bind fun kp=>
  cond (!kp) (some (.out 7)) Y))=hJ (iz x) Y:=by
  intro x ai Y
  rw [C3 (h.field x ai).1,UM (k:=(⟨x.Kind.Kind,x.Kind.aN⟩:Kind)) (h.field x ai).2]
  unfold iz
  simp only [Option.bind_some]
  show cond (!hH x.Name) _ (cond (!kindOk x.Kind) _ _)=_
  cases hH x.Name <;> cases kindOk x.Kind <;> rfl
 have hm:∀ {x:Method} (_:x ∈ c.aR) (Y:Option (Way Int Unit)),((Ax F (⟨x.Name,x.Static,x.bD,(⟨x.Returns.Kind,x.Returns.aN⟩:Kind),x.cT,x.cS,x.Code,x.bH⟩:Method)).bind fun kq=>
  cond (!decide (kq= 0)) (some (.out kq)) Y)=hJ (jK x) Y:=by
  intro x ai Y
  have:=aEA (F:=F) (m:=(⟨x.Name,x.Static,x.bD,(⟨x.Returns.Kind,x.Returns.aN⟩:Kind),x.cT,x.cS,x.Code,x.bH⟩:Method)) (h.method x ai)
  rw [this,Option.bind_some]
  exact WM
 have l1:x4 F c F 0 =some (dE (c.Fields.findSome? iz)):=each iz h.fields.1 (fun k i x ai=>by
  rw [x4,cK (List.getElem?_eq_some_iff.1 ai).1,cond_true,cd ai,Option.bind_some];exact I (List.mem_of_getElem? ai) _) (fun k=>by rw [x4,cJ];rfl) h.fields.2
 have oM:x6 F c F 0 =some (dE (c.Fields.findSome? iz)):=each iz h.fields.1 (fun k i x ai=>by
  rw [x6,cK (List.getElem?_eq_some_iff.1 ai).1,cond_true,cd ai,Option.bind_some];exact I (List.mem_of_getElem? ai) _) (fun k=>by rw [x6,cJ];rfl) h.fields.2
 have gf:x5 F c F 0 =some (dE (c.aR.findSome? jK)):=each jK h.methods.1 (fun k i x ai=>by
  rw [x5,cK (List.getElem?_eq_some_iff.1 ai).1,cond_true,cd ai,Option.bind_some];exact hm (List.mem_of_getElem? ai) _) (fun k=>by rw [x5,cJ];rfl) h.methods.2
 have AD:x7 F c F 0 =some (dE (c.aR.findSome? jK)):=each jK h.methods.1 (fun k i x ai=>by
  rw [x7,cK (List.getElem?_eq_some_iff.1 ai).1,cond_true,cd ai,Option.bind_some];exact hm (List.mem_of_getElem? ai) _) (fun k=>by rw [x7,cJ];rfl) h.methods.2
 unfold HT Cv
 rw [C3 h.name,C3 h.super,l1,gf,oM,AD]
 simp only [Option.bind_some,jT,show (6 :Int)=((6 :Nat):Int) from rfl,show (8 :Int)=((8 :Nat):Int) from rfl,ab0]
 cases hH c.Name with
 | false=>rfl
 | true=>
   simp only [Bool.not_true,cond_false,Bool.true_and]
   have As:∀ p:Bool,p=decide (6 <c.Fields.length\/ 8 <c.aR.length)->cond p (some (2 :Int)) (o4 (c.Fields.findSome? iz) (o4 (c.aR.findSome? jK) (some 0))) =
    some (if 6 <c.Fields.length\/ 8 <c.aR.length then 2 else (c.Fields.findSome? iz).getD ((c.aR.findSome? jK).getD 0)):=by
    intro p b3
    subst b3
    by_cases h0:6 <c.Fields.length\/ 8 <c.aR.length
    · rw [if_pos h0,decide_eq_true h0];rfl
    · rw [if_neg h0,decide_eq_false h0]
      cases c.Fields.findSome? iz with
      | some e=>rfl
      | none=>cases c.aR.findSome? jK <;> rfl
   by_cases a5:c.bW= []
   · rw [decide_eq_true a5]
     simp only [Bool.not_true,cond_false,Bool.true_or,if_true]
     exact As _ rfl
   · rw [decide_eq_false a5]
     simp only [Bool.not_false,cond_true,Bool.false_or]
     cases hH c.bW with
     | false=>rfl
     | true=>
       simp only [Bool.not_true,cond_false,if_true]
       exact As _ rfl
theorem aEy {l:List aN} (h:Fits F l):HS F l=some (sd l):=by
 have l1:x3 F l F 0 =some (dE (l.findSome? qX)):=each qX h.1.1 (fun k i x ai=>by
  rw [x3,cK (List.getElem?_eq_some_iff.1 ai).1,cond_true,cd ai,Option.bind_some,aEz (c:=(⟨x.Name,x.bW,x.Fields,x.aR⟩:aN)) (h.2 x (List.mem_of_getElem? ai)),Option.bind_some]
  exact WM) (fun k=>by rw [x3,cJ];rfl) h.1.2
 unfold HS sd
 rw [l1,jT]
 by_cases az:10 <l.length
 · rw [if_pos az,decide_eq_true (show (10 :Int) <(l.length:Int) by omega)];rfl
 · rw [if_neg az,decide_eq_false (show ¬ (10 :Int) <(l.length:Int) by omega)]
   cases l.findSome? qX <;> rfl
theorem ahG {l:List aN} (h:Fits F l):EW F l=some (sd l):=by
 have body:∀ {c:aN} (_:c.Fits F),wi F c F 0 =some (dE (c.Fields.findSome? iz))/\wk F c F 0 =some (dE (c.Fields.findSome? iz))/\wj F c F 0 =some (dE (c.aR.findSome? jK))/\wl F c F 0 =some (dE (c.aR.findSome? jK)):=by
  intro c hc
  have I:∀ {x:Field} (_:x ∈ c.Fields) (i:Int) (_:idx c.Fields i=some x) (Y:Option (Way Int Unit)),((n7 F x.Name).bind fun AR=>
   cond (!AR) (some (.out 1)) ((idx c.Fields i).bind fun x=>(tn F (⟨x.Kind.Kind,x.Kind.aN⟩:Kind)).bind fun kp=>
   cond (!kp) (some (.out 7)) Y))=hJ (iz x) Y:=by
   intro x ai i hi Y
   rw [zk (hc.field x ai).1,hi]
   unfold iz
   simp only [Option.bind_some]
   rw [PX (k:=(⟨x.Kind.Kind,x.Kind.aN⟩:Kind)) (hc.field x ai).2,Option.bind_some]
   show cond (!hH x.Name) _ (cond (!kindOk x.Kind) _ _)=_
   cases hH x.Name <;> cases kindOk x.Kind <;> rfl
  have hm:∀ {x:Method} (_:x ∈ c.aR) (Y:Option (Way Int Unit)),((zj F x).bind fun kq=>
   cond (!decide (kq= 0)) (some (.out kq)) Y)=hJ (jK x) Y:=by
   intro x ai Y
   rw [ahH (hc.method x ai),Option.bind_some]
   exact WM
  refine ⟨each iz hc.fields.1 (fun k i x ai=>?_) (fun k=>by rw [wi,cJ];rfl) hc.fields.2,each iz hc.fields.1 (fun k i x ai=>?_) (fun k=>by rw [wk,cJ];rfl) hc.fields.2,
   each jK hc.methods.1 (fun k i x ai=>?_) (fun k=>by rw [wj,cJ];rfl) hc.methods.2,each jK hc.methods.1 (fun k i x ai=>?_) (fun k=>by rw [wl,cJ];rfl) hc.methods.2⟩
  · rw [wi,cK (List.getElem?_eq_some_iff.1 ai).1,cond_true,cd ai,Option.bind_some];rw [<-cd ai];exact I (List.mem_of_getElem? ai) _ (cd ai) _
  · rw [wk,cK (List.getElem?_eq_some_iff.1 ai).1,cond_true,cd ai,Option.bind_some];rw [<-cd ai];exact I (List.mem_of_getElem? ai) _ (cd ai) _
  · rw [wj,cK (List.getElem?_eq_some_iff.1 ai).1,cond_true,cd ai,Option.bind_some];exact hm (List.mem_of_getElem? ai) _
  · rw [wl,cK (List.getElem?_eq_some_iff.1 ai).1,cond_true,cd ai,Option.bind_some];exact hm (List.mem_of_getElem? ai) _
 have l1:wh F l F 0 =some (dE (l.findSome? qX)):=each qX h.1.1 (fun k i c ai=>by
  have hc:=h.2 c (List.mem_of_getElem? ai)
  obtain ⟨E2,E4,E3,ahL⟩:=body hc
  rw [wh,cK (List.getElem?_eq_some_iff.1 ai).1,cond_true,cd ai,Option.bind_some,zk hc.name,zk hc.super,E2,E3,E4,ahL]
  simp only [Option.bind_some,nP,show (6 :Int)=((6 :Nat):Int) from rfl,show (8 :Int)=((8 :Nat):Int) from rfl,ab0]
  unfold qX Cv
  cases hH c.Name with
  | false=>rfl
  | true=>
    simp only [Bool.not_true,cond_false,Bool.true_and]
    have As:∀ (p:Bool) (Y:Option (Way Int Unit)),p=decide (6 <c.Fields.length\/ 8 <c.aR.length)->ed (α:=Unit) (cond p (some (.out (2 :Int))) (hJ (c.Fields.findSome? iz) (hJ (c.aR.findSome? jK) (some (.go ()))))) (fun _=>Y) =
     hJ (i' (if 6 <c.Fields.length\/ 8 <c.aR.length then 2 else (c.Fields.findSome? iz).getD ((c.aR.findSome? jK).getD 0))) Y:=by
     intro p Y b3
     subst b3
     by_cases h0:6 <c.Fields.length\/ 8 <c.aR.length
     · rw [if_pos h0,decide_eq_true h0];rfl
     · rw [if_neg h0,decide_eq_false h0,cond_false]
       have avS:∀ e,c.Fields.findSome? iz=some e->i' e=some e:=by
        intro e he
        obtain ⟨x,_,ai⟩:=List.exists_of_findSome?_eq_some he
        unfold iz at ai
        split at ai
        · split at ai
          · cases ai
          · injection ai with ai;subst ai;rfl
        · injection ai with ai;subst ai;rfl
       have T7:∀ e,c.aR.findSome? jK=some e->i' e=some e:=by
        intro e he
        obtain ⟨x,_,ai⟩:=List.exists_of_findSome?_eq_some he
        unfold jK at ai
        unfold i' at ai ⊢
        split at ai
        · cases ai
        · rename_i af;injection ai with ai;subst ai;rw [if_neg af]
       cases I:c.Fields.findSome? iz with
       | some e=>simp only [Option.getD_some,avS e I];rfl
       | none=>
         cases hm:c.aR.findSome? jK with
         | some e=>simp only [Option.getD_some,Option.getD_none,T7 e hm];rfl
         | none=>rfl
    by_cases a5:c.bW= []
    · rw [decide_eq_true a5]
      simp only [Bool.not_true,cond_false,Bool.true_or,if_true]
      exact As _ _ rfl
    · rw [decide_eq_false a5]
      simp only [Bool.not_false,cond_true,Bool.false_or]
      cases hH c.bW with
      | false=>rfl
      | true=>
        simp only [Bool.not_true,cond_false,if_true]
        exact As _ _ rfl) (fun k=>by rw [wh,cJ];rfl) h.1.2
 unfold EW sd
 rw [l1,jT]
 by_cases az:10 <l.length
 · rw [if_pos az,decide_eq_true (show (10 :Int) <(l.length:Int) by omega)];rfl
 · rw [if_neg az,decide_eq_false (show ¬ (10 :Int) <(l.length:Int) by omega)]
   cases l.findSome? qX <;> rfl
end
structure Right (l:List aN):Prop where
 len:l.length<= 10
 name:∀ c ∈ l,hH c.Name=true
 fields:∀ c ∈ l,c.Fields.length<= 6
 methods:∀ c ∈ l,c.aR.length<= 8
 method:∀ c ∈ l,∀ m ∈ c.aR,m.bD.length<= 4 /\m.bH.length<= 4
theorem aFa {m:Method} (h:AF m= 0):m.bD.length<= 4 /\m.bH.length<= 4 :=by
 unfold AF at h
 split at h
 · split at h
   · exact absurd h (by decide)
   · rename_i aC;exact ⟨by omega,by omega⟩
 · exact absurd h (by decide)
theorem aFy {e:Int} (h:i' e=none):e= 0 :=by
 unfold i' at h
 split at h
 · assumption
 · cases h
theorem aFz {e x:Int} (h:i' e=some x):x≠ 0 :=by
 unfold i' at h
 split at h
 · cases h
 · rename_i c0;injection h with h;subst h;exact c0
theorem aEM {s:List UInt8} (h:hH s=true):s≠ []:=by
 unfold hH at h
 simp only [Bool.and_eq_true,decide_eq_true_eq] at h
 exact h.1.2
theorem ajG {l:List aN} (h:sd l= 0):Right l:=by
 unfold sd at h
 by_cases az:10 <l.length
 · rw [if_pos az] at h;exact absurd h (by decide)
 · rw [if_neg az] at h
   have af:∀ c ∈ l,Cv c= 0 :=by
    intro c hc
    cases I:l.findSome? qX with
    | some e=>
      rw [I] at h
      simp only [Option.getD_some] at h
      subst h
      obtain ⟨x,_,ai⟩:=List.exists_of_findSome?_eq_some I
      unfold qX i' at ai
      split at ai
      · cases ai
      · rename_i c0;injection ai with ai;exact absurd ai c0
    | none=>
      have:=List.findSome?_eq_none_iff.1 I c hc
      unfold qX i' at this
      split at this
      · assumption
      · cases this
   have key:∀ c ∈ l,hH c.Name=true/\c.Fields.length<= 6 /\c.aR.length<= 8 /\ ∀ m ∈ c.aR,m.bD.length<= 4 /\m.bH.length<= 4 :=by
    intro c hc
    have bE:=af c hc
    unfold Cv at bE
    split at bE
    · rename_i aC
      simp only [Bool.and_eq_true] at aC
      split at bE
      · exact absurd bE (by decide)
      · rename_i aU
        refine ⟨aC.1,by omega,by omega,fun m hm=>?_⟩
        cases I:c.Fields.findSome? iz with
        | some e=>
          rw [I] at bE
          simp only [Option.getD_some] at bE
          subst bE
          obtain ⟨x,_,ai⟩:=List.exists_of_findSome?_eq_some I
          unfold iz at ai
          split at ai
          · split at ai
            · cases ai
            · injection ai with ai;exact absurd ai (by decide)
          · injection ai with ai;exact absurd ai (by decide)
        | none=>
          rw [I] at bE
          simp only [Option.getD_none] at bE
          cases gB:c.aR.findSome? jK with
          | some e=>
            rw [gB] at bE
            simp only [Option.getD_some] at bE
            subst bE
            obtain ⟨x,_,ai⟩:=List.exists_of_findSome?_eq_some gB
            exact absurd rfl (aFz ai)
          | none=>exact aFa (aFy (List.findSome?_eq_none_iff.1 gB m hm))
    · exact absurd bE (by decide)
   exact ⟨by omega,fun c hc=>(key c hc).1,fun c hc=>(key c hc).2.1,fun c hc=>(key c hc).2.2.1,fun c hc=>(key c hc).2.2.2⟩
end J
namespace J
def fq {α:Type} (p:α->Bool):List α->Option Nat
 | []=>none
 | x::r=>if p x then some 0 else (fq p r).map (· + 1)
theorem Ig {α:Type} {p:α->Bool}:∀ {l:List α} {i:Nat},fq p l=some i-> ∃ x,l[i]? =some x/\p x=true/\ ∀ j y,j <i->l[j]? =some y->p y=false
 | [],i,h=>by simp [fq] at h
 | x::r,i,h=>by
   simp only [fq] at h
   split at h
   · rename_i b3
     injection h with h
     subst h
     exact ⟨x,rfl,b3,fun j y bb=>absurd bb (by omega)⟩
   · rename_i b3
     cases bU:fq p r with
     | none=>rw [bU] at h;cases h
     | some k=>
       rw [bU] at h
       simp only [Option.map_some,Option.some.injEq] at h
       subst h
       obtain ⟨y,aC,aU,bS⟩:=Ig bU
       refine ⟨y,by simpa using aC,aU,fun j z bb c0=>?_⟩
       cases j with
       | zero=>
         simp only [List.getElem?_cons_zero,Option.some.injEq] at c0
         subst c0
         simpa using b3
       | succ j=>exact bS j z (by omega) (by simpa using c0)
theorem WZ {α:Type} {p:α->Bool}:∀ {l:List α},fq p l=none-> ∀ x ∈ l,p x=false
 | [],_,x,ai=>by cases ai
 | y::r,h,x,ai=>by
   simp only [fq] at h
   split at h
   · cases h
   · rename_i b3
     have bU:fq p r=none:=by simpa using h
     rcases List.mem_cons.1 ai with rfl | e
     · simpa using b3
     · exact WZ bU x e
theorem aFR {α:Type} {p:α->Bool} {l:List α} {i:Nat} {x:α} (hi:l[i]? =some x) (b3:p x=true) (a1:∀ j y,j <i->l[j]? =some y->p y=false):fq p l=some i:=by
 cases h:fq p l with
 | none=>have:=WZ h x (List.mem_of_getElem? hi);rw [b3] at this;cases this
 | some j=>
   obtain ⟨y,aC,aU,bS⟩:=Ig h
   rcases Nat.lt_trichotomy i j with e | e | e
   · have:=bS i x e hi;rw [b3] at this;cases this
   · rw [e]
   · have:=a1 j y e aC;rw [aU] at this;cases this
theorem WY {α:Type} {p:α->Bool} {l:List α} {i:Nat} (h:fq p l=some i):i <l.length:=by
 obtain ⟨x,aC,_⟩:=Ig h
 exact (List.getElem?_eq_some_iff.1 aC).1
theorem QR {α ρ:Type} {l:List α} {L:Nat->Int->Option (Way ρ Unit)} (p:α->Bool) (f:Nat->ρ) (az:l.length<= 140737488355328)
 (a5:∀ k (i:Nat) x,l[i]? =some x->L (k+ 1) (i:Int)=cond (p x) (some (.out (f i))) (L k (ap ((i:Int)+ 1))))
 (he:∀ k,L (k+ 1) (l.length:Int)=some (.go ())) {F:Nat} (bV:l.length <F):L F 0 =some (dE ((fq p l).map f)):=by
 have key:∀ (d i k:Nat),i+d=l.length->d <k->L k (i:Int)=some (dE ((fq p (l.drop i)).map fun j=>f (i+j))):=by
  intro d
  induction d with
  | zero=>
    intro i k h bh
    obtain ⟨k,rfl⟩:∃ k',k=k'+ 1 :=⟨k - 1,by omega⟩
    have hi:i=l.length:=by omega
    subst hi
    rw [he];simp [dE,fq]
  | succ d cv=>
    intro i k h bh
    obtain ⟨k,rfl⟩:∃ k',k=k'+ 1 :=⟨k - 1,by omega⟩
    have hi:i <l.length:=by omega
    rw [a5 k i l[i] (List.getElem?_eq_getElem hi),List.drop_eq_getElem_cons hi,fq]
    cases dd:p l[i] with
    | true=>simp [dE]
    | false=>
      simp only [cond_false,Bool.false_eq_true,if_false]
      rw [gS hi az,cv (i+ 1) k (by omega) (by omega)]
      congr 2
      rw [Option.map_map]
      congr 1
      funext j
      simp only [Function.comp]
      congr 1
      omega
 have:=key l.length 0 F (by omega) bV
 simpa using this
def jD (nm:List UInt8) (c:aN):Bool:=decide (c.Name=nm)
def dS (l:List aN) (nm:List UInt8):Int:=((fq (jD nm) l).map fun n:Nat=>(n:Int)).getD (-1)
theorem wL {F:Nat} {l:List aN} (h:Small F l.length) (nm:List UInt8):n6 F l nm=some (dS l nm):=by
 unfold n6 dS
 have l1:wK l nm F 0 =some (dE ((fq (jD nm) l).map fun n:Nat=>(n:Int))):=QR (jD nm) _ h.1 (fun k i x ai=>by
  rw [wK,cK (List.getElem?_eq_some_iff.1 ai).1,cond_true,cd ai,Option.bind_some];rfl) (fun k=>by rw [wK,cJ];rfl) h.2
 rw [l1,jT]
 cases fq (jD nm) l <;> rfl
theorem QF {l:List aN} {nm:List UInt8}:dS l nm <l.length:=by
 unfold dS
 cases h:fq (jD nm) l with
 | none=>simp only [Option.map_none,Option.getD_none];omega
 | some i=>have:=WY h;simp only [Option.map_some,Option.getD_some];omega
theorem ajH {l:List aN} {nm:List UInt8}:dS l nm < 0 ↔ fq (jD nm) l=none:=by
 unfold dS
 cases h:fq (jD nm) l with
 | none=>simp
 | some i=>simp only [Option.map_some,Option.getD_some];constructor <;> intro h <;> first | omega | cases h
theorem aGT {α:Type} {l:List α} {i:Nat} {x:α} (h:l[i]? =some x):l.set i x=l:=by
 obtain ⟨az,e⟩:=List.getElem?_eq_some_iff.1 h
 rw [<-e,List.set_getElem_self]
theorem K1 {α:Type} {b:Nat} {l:List α} (h:l.length*b<= 140737488355328):(ej b ([]:List α) l).bind (fun l=>some l)=some l:=by
 unfold ej
 rw [if_pos (by simpa using h)]
 simp
theorem aFH {F:Nat} {l:List aN} (bV:100 <F) (h:Right l):H5 F l=some l:=by
 have eg:∀ (fJ:List Method),fJ.length<= 8 ->(∀ m ∈ fJ,m.bD.length<= 4 /\m.bH.length<= 4)->ru F fJ (fJ.length:Int) 0 =some fJ:=by
  intro fJ aJ_ hm
  refine My (n:=fJ.length) (fun k i=>ru k fJ (fJ.length:Int) (i:Int)) fJ (fun k i hi=>?_) (fun k=>?_) (F:=F) (by omega)
  · obtain ⟨x,ai⟩:∃ x,fJ[i]? =some x:=⟨fJ[i],List.getElem?_eq_getElem hi⟩
    have a1:=hm x (List.mem_of_getElem? ai)
    show ru (k+ 1) fJ (fJ.length:Int) (i:Int)=_
    rw [ru,cK hi,cond_true,cd ai,Option.bind_some]
    unfold Np Nn
    rw [K1 (by omega),Option.bind_some,K1 (by omega),Option.bind_some,Option.bind_some,Option.bind_some]
    have bO:fJ.set (i:Int).toNat (⟨x.Name,x.Static,x.bD,(⟨x.Returns.Kind,x.Returns.aN⟩:Kind),x.cT,x.cS,x.Code,x.bH⟩:Method)=fJ:=aGT (i:=i) ai
    simp only [bO,cd ai,Option.bind_some]
    rw [gS hi (by omega)]
  · show ru (k+ 1) fJ (fJ.length:Int) (fJ.length:Int)=_
    rw [ru,cJ];rfl
 unfold H5
 have eb:rs F l F [] 0 =some l:=by
  refine My (n:=l.length) (fun k i=>rs F l k (l.take i) (i:Int)) l (fun k i hi=>?_) (fun k=>?_) (F:=F) (by have:=h.len;omega)
  · obtain ⟨x,ai⟩:∃ x,l[i]? =some x:=⟨l[i],List.getElem?_eq_getElem hi⟩
    have um:=List.mem_of_getElem? ai
    have I:=h.fields x um
    have hm:=h.methods x um
    have hlen:=h.len
    show rs F l (k+ 1) (l.take i) (i:Int)=_
    rw [rs,cK hi,cond_true,cd ai,Option.bind_some]
    unfold Nm Nq
    rw [K1 (by omega),Option.bind_some,K1 (by omega),Option.bind_some,eg x.aR hm (h.method x um),Option.bind_some]
    unfold ej
    rw [if_pos (by simp only [List.length_take,List.length_cons,List.length_nil];omega)]
    simp only [Option.bind_some]
    rw [gS hi (by omega)]
    have e:l.take i++[(⟨x.Name,x.bW,x.Fields,x.aR⟩:aN)]=l.take (i+ 1):=by
     rw [List.take_add_one,ai];rfl
    rw [e]
  · show rs F l (k+ 1) (l.take l.length) (l.length:Int)=_
    rw [rs,cJ,List.take_length];rfl
 rw [eb];rfl
def fL:Nat->List aN->List (List UInt8 × Int)
 | _,[]=>[]
 | k,c::r=>(c.Name,(k:Int))::fL (k+ 1) r
theorem Dq (nm:List UInt8):∀ (l:List aN) (k:Nat),dv (fL k l) nm=(fq (jD nm) l).map fun n:Nat=>((n+k:Nat):Int)
 | [],k=>rfl
 | c::r,k=>by
   simp only [fL,dv,fq,jD]
   by_cases h:c.Name=nm
   · simp [h]
   · simp only [h,if_false,decide_false,Bool.false_eq_true]
     rw [Dq nm r (k+ 1),Option.map_map]
     congr 1
     funext j
     simp only [Function.comp]
     congr 1
     omega
theorem afm (c:aN):∀ (l:List aN) (k:Nat),fL k (l++[c])=fL k l++[(c.Name,((k+l.length:Nat):Int))]
 | [],k=>by simp [fL]
 | d::r,k=>by
   simp only [List.cons_append,fL,List.length_cons]
   rw [afm c r (k+ 1)]
   congr 4
   omega
theorem WK {κ β:Type} [DecidableEq κ] {k:κ} {v:β}:∀ {m:List (κ × β)},dv m k=none->hI m k v=m++[(k,v)]
 | [],_=>rfl
 | p::r,h=>by
   simp only [dv] at h
   split at h
   · cases h
   · rename_i e6
     simp only [hI,if_neg e6,List.cons_append]
     rw [WK h]
def zh (l:List aN):Prop:=∀ (i j:Nat) (x y:aN),l[i]? =some x->l[j]? =some y->x.Name=y.Name->i=j
theorem aFC {l:List aN} (h:zh l) {i:Nat} {x:aN} (hi:l[i]? =some x):dS l x.Name=(i:Int):=by
 unfold dS
 rw [aFR (i:=i) hi (by simp [jD]) (fun j y bb hy=>by
  simp only [jD,decide_eq_false_iff_not]
  intro e
  have:=h j i y x hy hi e
  omega)]
 rfl
theorem aFr {F:Nat} {l:List aN} (bV:100 <F) (h:Right l) :
 (zh l/\rr ⟨l,[],[]⟩ F [] 0 =some (.go (fL 0 l))/\r7 F l F 0 =some (.go ())) \/
 (¬ zh l/\(∃ m,rr ⟨l,[],[]⟩ F [] 0 =some (.out (6,m)))/\r7 F l F 0 =some (.out 6)):=by
 have hlen:=h.len
 have il:r7 F l F 0 =some (dE ((List.range l.length).findSome? fun i:Nat=>(l[i]?).bind fun x:aN=>if dS l x.Name=(i:Int) then none else some 6)):=kz _ (by omega) (fun k i hi=>by
  obtain ⟨x,ai⟩:∃ x,l[i]? =some x:=⟨l[i],List.getElem?_eq_getElem hi⟩
  rw [r7,cK hi,cond_true,cd ai,Option.bind_some,wL ⟨by omega,by omega⟩,Option.bind_some,ai,Option.bind_some]
  by_cases e:dS l x.Name=(i:Int)
  · rw [if_pos e,decide_eq_true e];rfl
  · rw [if_neg e,decide_eq_false e];rfl) (fun k=>by rw [r7,cJ];rfl) (by omega)
 have key:∀ (d i k:Nat),i+d=l.length->d <k->zh (l.take i) ->
  (zh l/\rr ⟨l,[],[]⟩ k (fL 0 (l.take i)) i=some (.go (fL 0 l)))\/(¬ zh l/\ ∃ m,rr ⟨l,[],[]⟩ k (fL 0 (l.take i)) i=some (.out (6,m))):=by
  intro d
  induction d with
  | zero=>
    intro i k hi bh br
    obtain ⟨k,rfl⟩:∃ k',k=k'+ 1 :=⟨k - 1,by omega⟩
    have e:i=l.length:=by omega
    subst e
    rw [List.take_length] at br ⊢
    left
    refine ⟨br,?_⟩
    rw [rr,cJ];rfl
  | succ d cv=>
    intro i k hi bh br
    obtain ⟨k,rfl⟩:∃ k',k=k'+ 1 :=⟨k - 1,by omega⟩
    have gb:i <l.length:=by omega
    obtain ⟨x,ai⟩:∃ x,l[i]? =some x:=⟨l[i],List.getElem?_eq_getElem gb⟩
    rw [rr,cK gb,cond_true,cd ai,Option.bind_some,Dq]
    cases b3:fq (jD x.Name) (l.take i) with
    | some j=>
      right
      obtain ⟨y,aC,aU,_⟩:=Ig b3
      refine ⟨fun mA=>?_,_,rfl⟩
      have iR:j <i:=by have:=(List.getElem?_eq_some_iff.1 aC).1;simp only [List.length_take] at this;omega
      have hy:l[j]? =some y:=by rw [List.getElem?_take] at aC;rw [if_pos iR] at aC;exact aC
      have:=mA j i y x hy ai (by simpa [jD] using aU)
      omega
    | none=>
      simp only [Option.map_none,Option.isSome_none,cond_false]
      have azt:dv (fL 0 (l.take i)) x.Name=none:=by rw [Dq,b3];rfl
      rw [WK azt,gS gb (by omega)]
      have bO:l.take (i+ 1)=l.take i++[x]:=by rw [List.take_add_one,ai];rfl
      have b4:fL 0 (l.take i)++[(x.Name,(i:Int))]=fL 0 (l.take (i+ 1)):=by
       rw [bO,afm]
       congr 4
       simp only [List.length_take];omega
      rw [b4]
      refine cv (i+ 1) k (by omega) (by omega) ?_
      intro a b u v bK a1 Uy
      rw [List.getElem?_take] at bK a1
      split at bK
      · split at a1
        · rename_i aJ6 iD
          have azz:=WZ b3
          have pn:∀ (q:Nat) (z:aN),q <i->l[q]? =some z->z.Name≠x.Name:=fun q z en c0 e=>by
           have:=azz z (List.mem_of_getElem? (i:=q) (by rw [List.getElem?_take,if_pos en];exact c0))
           simp [jD,e] at this
          by_cases aoE:a=i
          · by_cases acS:b=i
            · omega
            · subst aoE
              rw [ai] at bK;injection bK with bK;subst bK
              exact absurd Uy.symm (pn b v (by omega) a1)
          · by_cases acS:b=i
            · subst acS
              rw [ai] at a1;injection a1 with a1;subst a1
              exact absurd Uy (pn a u (by omega) bK)
            · exact br a b u v (by rw [List.getElem?_take,if_pos (by omega)];exact bK) (by rw [List.getElem?_take,if_pos (by omega)];exact a1) Uy
        · cases a1
      · cases bK
 have bE:=key l.length 0 F (by omega) (by omega) (fun i j x y hi=>by simp at hi)
 have iy:fL 0 (l.take 0)= []:=by simp [fL]
 rw [iy] at bE
 rcases bE with ⟨mA,aC⟩ | ⟨mA,aC⟩
 · left
   refine ⟨mA,aC,?_⟩
   rw [il]
   have:((List.range l.length).findSome? fun i:Nat=>(l[i]?).bind fun x:aN=>if dS l x.Name=(i:Int) then none else some (6 :Int))=none:=by
    rw [List.findSome?_eq_none_iff]
    intro i hi
    obtain ⟨x,ai⟩:∃ x,l[i]? =some x:=⟨l[i]'(by simpa using hi),List.getElem?_eq_getElem _⟩
    rw [ai,Option.bind_some,if_pos (aFC mA ai)]
   rw [this];rfl
 · right
   refine ⟨mA,aC,?_⟩
   rw [il]
   cases I:((List.range l.length).findSome? fun i:Nat=>(l[i]?).bind fun x:aN=>if dS l x.Name=(i:Int) then none else some (6 :Int)) with
   | some e=>
     obtain ⟨i,_,hi⟩:=List.exists_of_findSome?_eq_some I
     cases ai:l[i]? with
     | none=>rw [ai] at hi;cases hi
     | some x=>
       rw [ai,Option.bind_some] at hi
       split at hi
       · cases hi
       · injection hi with hi;subst hi;rfl
   | none=>
     exfalso
     apply mA
     have oB:∀ (i:Nat) (x:aN),l[i]? =some x->dS l x.Name=(i:Int):=by
      intro i x ai
      have:=List.findSome?_eq_none_iff.1 I i (by have:=(List.getElem?_eq_some_iff.1 ai).1;simpa using this)
      rw [ai,Option.bind_some] at this
      split at this
      · assumption
      · cases this
     intro i j x y ai hy e
     have aC:=oB i x ai
     have aU:=oB j y hy
     rw [e] at aC
     omega
end J
namespace J
def A4 {ρ rU:Type} (o:Option ρ) (a:rU):Way ρ rU:=match o with
 | some r=>.out r
 | none=>.go a
def agl {ρ rU:Type} (o:Option ρ) (y:Option (Way ρ rU)):Option (Way ρ rU):=match o with
 | some r=>some (.out r)
 | none=>y
theorem P1 {ρ rU:Type} {n:Nat} (T:Nat->Nat->Option (Way ρ rU)) (g:Nat->Option ρ) (fin:rU) (a5:∀ k i,i <n->T (k+ 1) i=agl (g i) (T k (i+ 1))) (he:∀ k,T (k+ 1) n=some (.go fin)) {F:Nat} (bV:n <F) :
 T F 0 =some (A4 ((List.range n).findSome? g) fin):=by
 have key:∀ (d i k:Nat),i+d=n->d <k->T k i=some (A4 (((List.range n).drop i).findSome? g) fin):=by
  intro d
  induction d with
  | zero=>
    intro i k h bh
    obtain ⟨k,rfl⟩:∃ k',k=k'+ 1 :=⟨k - 1,by omega⟩
    have hi:i=n:=by omega
    subst hi
    rw [he,List.drop_of_length_le (by simp)];rfl
  | succ d cv=>
    intro i k h bh
    obtain ⟨k,rfl⟩:∃ k',k=k'+ 1 :=⟨k - 1,by omega⟩
    have hi:i <n:=by omega
    rw [a5 k i hi,List.drop_eq_getElem_cons (by simpa using hi),List.findSome?_cons]
    simp only [List.getElem_range]
    cases dd:g i with
    | some r=>rfl
    | none=>
      simp only [agl]
      exact cv (i+ 1) k (by omega) (by omega)
 have:=key n 0 F (by omega) bV
 simpa using this
theorem La {α β YH:Type} (g:α->Option β) (f:β->YH):∀ l:List α,l.findSome? (fun c=>(g c).map f)=(l.findSome? g).map f
 | []=>rfl
 | c::r=>by
   simp only [List.findSome?_cons]
   cases g c with
   | some e=>rfl
   | none=>simp only [Option.map_none];exact La g f r
def eA (l:List aN):List Int:=l.map fun c=>dS l c.bW
theorem X8 {l:List aN} {i:Nat} {x:aN} (h:l[i]? =some x):(eA l)[i]? =some (dS l x.bW):=by simp [eA,h]
def sT (c:aN):Option Int:=if (decide (c.Name= [79,98,106,101,99,116])) == (decide (c.bW= [])) then none else some 4
def pX (l:List aN) (c:aN):Option Int:=if c.bW= []\/ 0 <=dS l c.bW then none else some 5
section
variable {F:Nat} {l:List aN}
theorem aG8 (bV:100 <F) (h:Right l):wC l F 0 =some (dE (l.findSome? sT)):=each sT (by have:=h.len;omega) (fun k i x ai=>by
 rw [wC,cK (List.getElem?_eq_some_iff.1 ai).1,cond_true,cd ai,Option.bind_some,Option.bind_some]
 unfold sT
 cases (decide (x.Name= [79,98,106,101,99,116])) == (decide (x.bW= [])) <;> rfl) (fun k=>by rw [wC,cJ];rfl) (by have:=h.len;omega)
theorem aG7 (bV:100 <F) (h:Right l) (m:List (List UInt8 × Int)) (s:List Int):u' ⟨l,m,s⟩ F 0 =some (dE ((l.findSome? sT).map fun e=>(e,(⟨l,m,s⟩:df)))):=by
 have:=each (l:=l) (L:=u' ⟨l,m,s⟩) (fun c=>(sT c).map fun e=>(e,(⟨l,m,s⟩:df))) (by have:=h.len;omega) (fun k i x ai=>by
  rw [u']
  show cond (decide ((i:Int) <(l.length:Int))) ((idx l (i:Int)).bind _) _=_
  rw [cK (List.getElem?_eq_some_iff.1 ai).1,cond_true,cd ai,Option.bind_some]
  unfold sT
  cases (decide (x.Name= [79,98,106,101,99,116])) == (decide (x.bW= [])) <;> rfl) (fun k=>by
   rw [u']
   show cond (decide ((l.length:Int) <(l.length:Int))) _ _=_
   rw [cJ];rfl) (F:=F) (by have:=h.len;omega)
 rw [this,La]
theorem aFl (bV:100 <F) (h:Right l):tj F l F 0 =some (dE (l.findSome? (pX l))):=each (pX l) (by have:=h.len;omega) (fun k i x ai=>by
 have hlen:=h.len
 rw [tj,cK (List.getElem?_eq_some_iff.1 ai).1,cond_true,cd ai,Option.bind_some,Option.bind_some,wL ⟨by omega,by omega⟩,Option.bind_some]
 unfold pX
 by_cases a5:x.bW= []
 · rw [if_pos (.inl a5),decide_eq_true a5];rfl
 · rw [decide_eq_false a5]
   by_cases hc:0 <=dS l x.bW
   · rw [if_pos (.inr hc),decide_eq_false (show ¬ dS l x.bW < 0 by omega)];rfl
   · rw [if_neg (by simp [a5,hc]),decide_eq_true (show dS l x.bW < 0 by omega)];rfl) (fun k=>by rw [tj,cJ];rfl) (by have:=h.len;omega)
theorem ajI (h:Right l):dS l []= -1 :=by
 unfold dS
 cases b3:fq (jD []) l with
 | none=>rfl
 | some i=>
   obtain ⟨x,aC,aU,_⟩:=Ig b3
   have:=aEM (h.name x (List.mem_of_getElem? aC))
   simp [jD] at aU
   exact absurd aU this
theorem aFk (bV:100 <F) (h:Right l):∃ o:Option (Int × df),o.map (·.1)=l.findSome? (pX l)/\oO ⟨l,fL 0 l,[]⟩ F [] 0 =some (A4 o (eA l)):=by
 have hlen:=h.len
 refine ⟨(List.range l.length).findSome? fun i=>((l[i]?).bind (pX l)).map fun e=>(e,(⟨l,fL 0 l,(eA l).take i⟩:df)),?_,?_⟩
 · have bO:∀ (n:Nat),n<=l.length->((List.range' (l.length - n) n).findSome? fun i=>((l[i]?).bind (pX l)).map fun e=>(e,(⟨l,fL 0 l,(eA l).take i⟩:df))).map (·.1)=(l.drop (l.length - n)).findSome? (pX l):=by
    intro n
    induction n with
    | zero=>intro _;simp
    | succ n cv=>
      intro af
      have hi:l.length - (n+ 1) <l.length:=by omega
      rw [List.range'_succ,List.findSome?_cons,List.drop_eq_getElem_cons hi,List.findSome?_cons,List.getElem?_eq_getElem hi,Option.bind_some]
      cases pX l l[l.length - (n+ 1)] with
      | some e=>rfl
      | none=>
        simp only [Option.map_none]
        rw [show l.length - (n+ 1)+ 1 =l.length - n by omega]
        exact cv (by omega)
   have:=bO l.length (Nat.le_refl _)
   simpa [List.range_eq_range'] using this
 · refine P1 (n:=l.length) (fun k i=>oO ⟨l,fL 0 l,[]⟩ k ((eA l).take i) (i:Int)) _ (eA l) (fun k i hi=>?_) (fun k=>?_) (F:=F) (by omega)
   · obtain ⟨x,ai⟩:∃ x,l[i]? =some x:=⟨l[i],List.getElem?_eq_getElem hi⟩
     show oO ⟨l,fL 0 l,[]⟩ (k+ 1) ((eA l).take i) (i:Int)=_
     rw [oO]
     show cond (decide ((i:Int) <(l.length:Int))) (ed (α:=List Int) ((idx l (i:Int)).bind _) _) _=_
     rw [cK hi,cond_true,cd ai,Option.bind_some,ai,Option.bind_some]
     have adp:dv (fL 0 l) x.bW=(fq (jD x.bW) l).map fun n:Nat=>((n+ 0 :Nat):Int):=Dq x.bW l 0
     have eu:(eA l).take (i+ 1)=(eA l).take i++[dS l x.bW]:=by rw [List.take_add_one,X8 ai];rfl
     have Rn:ej 8 ((eA l).take i) [dS l x.bW]=some ((eA l).take (i+ 1)):=by
      unfold ej
      rw [if_pos (by simp only [List.length_take,List.length_cons,List.length_nil];omega),eu]
     have fin:∀ n:Int,n=dS l x.bW->ed (α:=List Int) (ed (α:=Int) (ρ:=Int × df) (some (.go n)) fun (rv:Int)=>(ej 8 ((eA l).take i) [rv]).bind fun C_=>some (.go C_)) (fun (rm:List Int)=>oO ⟨l,fL 0 l,[]⟩ k rm (ap ((i:Int)+ 1)))=oO ⟨l,fL 0 l,[]⟩ k ((eA l).take (i+ 1)) ((i+ 1 :Nat):Int):=by
      intro n af
      subst af
      rw [nN,Rn,Option.bind_some,nN,gS hi (by omega)]
     unfold pX
     by_cases a5:x.bW= []
     · rw [if_pos (.inl a5),decide_eq_true a5,cond_true]
       exact fin (-1) (by rw [a5,ajI h])
     · rw [decide_eq_false a5,cond_false]
       cases b3:fq (jD x.bW) l with
       | none=>
         have Hz:dS l x.bW < 0 :=ajH.2 b3
         rw [if_neg (by simp [a5];omega),adp,b3]
         rfl
       | some j=>
         have pt:dS l x.bW=(j:Int):=by unfold dS;rw [b3];rfl
         rw [if_pos (.inr (by omega)),adp,b3]
         exact fin _ (by rw [pt];simp)
   · show oO ⟨l,fL 0 l,[]⟩ (k+ 1) ((eA l).take l.length) (l.length:Int)=_
     rw [oO]
     show cond (decide ((l.length:Int) <(l.length:Int))) _ _=_
     rw [cJ,cond_false,List.take_of_length_le (by simp [eA])]
def eD (S:List Int):Nat->Int->Option (List Int)
 | 0,n=>if n < 0 then some [] else none
 | k+ 1,n=>if n < 0 then some [] else (idx S n).bind fun m=>(eD S k m).map (n:: ·)
theorem agd {S:List Int}:∀ {k:Nat} {n:Int} {c:List Int},eD S k n=some c->eD S (k+ 1) n=some c
 | 0,n,c,h=>by
   simp only [eD] at h ⊢
   split at h
   · rename_i af;rw [if_pos af];exact h
   · cases h
 | k+ 1,n,c,h=>by
   rw [eD] at h ⊢
   split at h
   · rename_i af;rw [if_pos af];exact h
   · rename_i af
     rw [if_neg af]
     cases hi:idx S n with
     | none=>rw [hi] at h;cases h
     | some m=>
       rw [hi,Option.bind_some] at h
       rw [Option.bind_some]
       cases hu:eD S k m with
       | none=>rw [hu] at h;cases h
       | some dR=>rw [hu] at h;rw [agd hu];exact h
theorem NC {S:List Int} {k k':Nat} {n:Int} {c:List Int} (h:eD S k n=some c) (bh:k<=k'):eD S k' n=some c:=by
 obtain ⟨d,rfl⟩:∃ d,k'=k+d:=⟨k' - k,by omega⟩
 clear bh
 induction d with
 | zero=>exact h
 | succ d cv=>exact agd cv
theorem aHl {S:List Int} {k k':Nat} {n:Int} {c dR:List Int} (h:eD S k n=some c) (dP:eD S k' n=some dR):c=dR:=by
 have aC:=NC h (Nat.le_max_left k k')
 have aU:=NC dP (Nat.le_max_right k k')
 rw [aC] at aU
 exact Option.some.inj aU
theorem agc {S:List Int}:∀ {k:Nat} {n:Int} {c:List Int},eD S k n=some c->c.length<=k/\eD S c.length n=some c
 | 0,n,c,h=>by
   simp only [eD] at h
   split at h
   · rename_i af
     injection h with h
     subst h
     simp [eD,af]
   · cases h
 | k+ 1,n,c,h=>by
   have bE:=h
   rw [eD] at h
   split at h
   · rename_i af
     injection h with h
     subst h
     simp [eD,af]
   · rename_i af
     cases hi:idx S n with
     | none=>rw [hi] at h;cases h
     | some m=>
       rw [hi,Option.bind_some] at h
       cases hu:eD S k m with
       | none=>rw [hu] at h;cases h
       | some dR=>
         rw [hu] at h
         simp only [Option.map_some,Option.some.injEq] at h
         subst h
         obtain ⟨aC,aU⟩:=agc hu
         refine ⟨by simpa using aC,?_⟩
         rw [List.length_cons,eD,if_neg af,hi,Option.bind_some,aU];rfl
theorem ND {S:List Int}:∀ {k:Nat} {n:Int} {c:List Int},eD S k n=some c-> ∀ x ∈ c,(0 <=x/\x <S.length)/\ ∃ k' dR,eD S k' x=some dR/\dR.length<=c.length/\dR≠ []
 | 0,n,c,h,x,ai=>by
   simp only [eD] at h
   split at h
   · injection h with h;subst h;cases ai
   · cases h
 | k+ 1,n,c,h,x,ai=>by
   have bE:=h
   rw [eD] at h
   split at h
   · injection h with h;subst h;cases ai
   · rename_i af
     cases hi:idx S n with
     | none=>rw [hi] at h;cases h
     | some m=>
       rw [hi,Option.bind_some] at h
       cases hu:eD S k m with
       | none=>rw [hu] at h;cases h
       | some dR=>
         rw [hu] at h
         simp only [Option.map_some,Option.some.injEq] at h
         subst h
         obtain ⟨aJI,j8,_⟩:=ux hi
         rcases List.mem_cons.1 ai with rfl | e
         · exact ⟨⟨by omega,by omega⟩,k+ 1,_,bE,Nat.le_refl _,by simp⟩
         · obtain ⟨aC,k',eg,aU,bS,ew⟩:=ND hu x e
           exact ⟨aC,k',eg,aU,by simp only [List.length_cons];omega,ew⟩
theorem agb {S:List Int}:∀ {k:Nat} {n:Int} {c:List Int},eD S k n=some c->c.Nodup
 | 0,n,c,h=>by
   simp only [eD] at h
   split at h
   · injection h with h;subst h;simp
   · cases h
 | k+ 1,n,c,h=>by
   have bE:=h
   rw [eD] at h
   split at h
   · injection h with h;subst h;simp
   · cases hi:idx S n with
     | none=>rw [hi] at h;cases h
     | some m=>
       rw [hi,Option.bind_some] at h
       cases hu:eD S k m with
       | none=>rw [hu] at h;cases h
       | some dR=>
         rw [hu] at h
         simp only [Option.map_some,Option.some.injEq] at h
         subst h
         refine List.nodup_cons.2 ⟨fun pn=>?_,agb hu⟩
         obtain ⟨_,k',eg,aU,bS,_⟩:=ND hu n pn
         have:=aHl bE aU
         subst this
         simp only [List.length_cons] at bS
         omega
theorem WW:∀ (n:Nat) (c:List Nat),c.Nodup->(∀ x ∈ c,x <n)->c.length<=n
 | 0,c,_,h=>by
   cases c with
   | nil=>simp
   | cons x r=>exact absurd (h x (by simp)) (by omega)
 | n+ 1,c,bT,h=>by
   by_cases af:n ∈ c
   · have aC:=WW n (c.erase n) (bT.erase n) (fun x ai=>by
      have aU:=(bT.mem_erase_iff).1 ai
      have:=h x aU.2
      omega)
     rw [List.length_erase_of_mem af] at aC
     omega
   · have:=WW n c bT (fun x ai=>by
      have aC:=h x ai
      have:x≠n:=fun e=>af (e ▸ ai)
      omega)
     omega
theorem aga {S:List Int} {k:Nat} {n:Int} {c:List Int} (h:eD S k n=some c):c.length<=S.length:=by
 have b3:=ND h
 have bT:=agb h
 have:=WW S.length (c.map Int.toNat) (by
  rw [List.Nodup,List.pairwise_map]
  refine List.Pairwise.imp_of_mem ?_ bT
  intro a b bK a1 Lq e
  have aC:=(b3 a bK).1
  have aU:=(b3 b a1).1
  exact Lq (by omega)) (fun x ai=>by
  obtain ⟨y,hy,rfl⟩:=List.mem_map.1 ai
  have aC:=(b3 y hy).1
  omega)
 simpa using this
theorem aHk {S:List Int} {k:Nat} {n:Int} (bh:S.length<=k):eD S k n=eD S S.length n:=by
 cases h:eD S k n with
 | some c=>
   obtain ⟨_,aU⟩:=agc h
   exact (NC aU (aga h)).symm
 | none=>
   cases dP:eD S S.length n with
   | none=>rfl
   | some c=>rw [NC dP bh] at h;cases h
theorem ajC {m:List (List UInt8 × Int)} {S:List Int} {k:Nat} {n:Int} {c:List Int} (h:eD S k n=some c) (hc:c.length<= 1000) (bV:1001 <F):vb F ⟨l,m,S⟩ n=some c:=by
 have key:∀ (k:Nat) (n:Int) (c acc:List Int) (f:Nat),eD S k n=some c->c.length <f->acc.length+c.length<= 1000 ->vd ⟨l,m,S⟩ f acc n=some (acc++c):=by
  intro k
  induction k with
  | zero=>
    intro n c acc f h I _
    obtain ⟨f,rfl⟩:∃ e4,f=e4+ 1 :=⟨f - 1,by omega⟩
    simp only [eD] at h
    split at h
    · injection h with h
      subst h
      rw [vd,decide_eq_false (by omega)]
      simp
    · cases h
  | succ k cv=>
    intro n c acc f h I az
    obtain ⟨f,rfl⟩:∃ e4,f=e4+ 1 :=⟨f - 1,by omega⟩
    rw [eD] at h
    split at h
    · injection h with h
      subst h
      rw [vd,decide_eq_false (by omega)]
      simp
    · rename_i af
      cases hi:idx S n with
      | none=>rw [hi] at h;cases h
      | some x=>
        rw [hi,Option.bind_some] at h
        cases hu:eD S k x with
        | none=>rw [hu] at h;cases h
        | some dR=>
          rw [hu] at h
          simp only [Option.map_some,Option.some.injEq] at h
          subst h
          simp only [List.length_cons] at I az
          rw [vd,decide_eq_true (by omega),cond_true]
          unfold ej
          rw [if_pos (by simp only [List.length_cons,List.length_nil];omega)]
          show ((some (acc++[n])).bind fun HW=>(idx S n).bind fun gT=>_)=_
          rw [Option.bind_some,hi,Option.bind_some,cv x dR (acc++[n]) f hu (by omega) (by simp only [List.length_append,List.length_cons,List.length_nil];omega)]
          simp
 unfold vb
 rw [key k n c [] F h (by omega) (by simp;omega)]
 rfl
end
end J
namespace J
section
variable {F:Nat} {l:List aN}
theorem DJ:(eA l).length=l.length:=by simp [eA]
theorem vy {n:Int} (bE:0 <=n) (aC:n <l.length):∃ x,idx l n=some x/\idx (eA l) n=some (dS l x.bW):=by
 obtain ⟨x,ai⟩:∃ x,l[n.toNat]? =some x:=⟨l[n.toNat]'(by omega),List.getElem?_eq_getElem _⟩
 refine ⟨x,?_,?_⟩
 · unfold idx;rw [if_pos bE,ai]
 · unfold idx;rw [if_pos bE,X8 ai]
def Yc (o:Option (List Int)) (acc:List Int):Way (List Int) (List Int):=match o with
 | some c=>.go (c.reverse++acc)
 | none=>.out []
def eH (l:List aN) (n:Int):List Int:=(eD (eA l) l.length n).getD []
theorem NB (bV:1100 <F) (h:Right l) {n:Int} (aC:n <l.length):w2 F l n=some (eH l n).reverse:=by
 have hlen:=h.len
 have key:∀ (d:Nat) (acc:List Int) (n:Int) (f:Nat),acc.length+d=l.length+ 1 ->d+ 1 <f->n <l.length->w3 F l f n acc=some (Yc (eD (eA l) d n) acc):=by
  intro d
  induction d with
  | zero=>
    intro acc n f bK I af
    obtain ⟨f,rfl⟩:∃ e4,f=e4+ 1 :=⟨f - 1,by omega⟩
    rw [w3,eD]
    by_cases bE:n < 0
    · rw [if_pos bE,decide_eq_false (by omega)];rfl
    · rw [if_neg bE,decide_eq_true (by omega),cond_true,decide_eq_true (by omega)];rfl
  | succ d cv=>
    intro acc n f bK I af
    obtain ⟨f,rfl⟩:∃ e4,f=e4+ 1 :=⟨f - 1,by omega⟩
    rw [w3,eD]
    by_cases bE:n < 0
    · rw [if_pos bE,decide_eq_false (by omega)];rfl
    · obtain ⟨x,ai,a5⟩:=vy (l:=l) (n:=n) (by omega) af
      rw [if_neg bE,decide_eq_true (by omega),cond_true,decide_eq_false (by omega),cond_false]
      unfold ej
      rw [if_pos (by simp only [List.length_cons,List.length_nil];omega)]
      show ((some ([n]++acc)).bind fun HX=>(idx l n).bind fun A7=>_)=_
      rw [Option.bind_some,ai,Option.bind_some,wL ⟨by omega,by omega⟩,Option.bind_some,a5,Option.bind_some,cv ([n]++acc) _ f (by simp only [List.length_append,List.length_cons,List.length_nil];omega) (by omega) QF]
      cases eD (eA l) d (dS l x.bW) with
      | none=>rfl
      | some c=>simp [Yc]
 unfold w2
 rw [key (l.length+ 1) [] n F (by simp) (by omega) aC,aHk (k:=l.length+ 1) (by rw [DJ];omega),DJ]
 unfold eH
 cases eD (eA l) l.length n with
 | none=>rfl
 | some c=>simp [Yc,dw]
def tO (l:List aN) (i:Nat):Option Int:=if (eD (eA l) l.length (i:Int)).isSome then none else some 4
theorem Yb {S:List Int} {k:Nat} {n:Int} {c:List Int} (h:eD S k n=some c) (bE:0 <=n):∃ r,c=n::r:=by
 cases k with
 | zero=>simp only [eD] at h;rw [if_neg (by omega)] at h;cases h
 | succ k=>
   rw [eD,if_neg (by omega)] at h
   cases hi:idx S n with
   | none=>rw [hi] at h;cases h
   | some m=>
     rw [hi,Option.bind_some] at h
     cases hu:eD S k m with
     | none=>rw [hu] at h;cases h
     | some dR=>rw [hu] at h;simp only [Option.map_some,Option.some.injEq] at h;exact ⟨dR,h.symm⟩
theorem aj1 (bV:1100 <F) (h:Right l):wD F l F 0 =some (dE ((List.range l.length).findSome? (tO l))):=kz _ (by have:=h.len;omega) (fun k i hi=>by
 rw [wD,cK hi,cond_true,NB bV h (by omega),Option.bind_some]
 unfold tO eH
 cases hu:eD (eA l) l.length (i:Int) with
 | none=>rfl
 | some c=>
   obtain ⟨r,rfl⟩:=Yb hu (by omega)
   rw [decide_eq_false (by simp;omega)]
   rfl) (fun k=>by rw [wD,cJ];rfl) (by have:=h.len;omega)
theorem abZ (h:Right l) (m:List (List UInt8 × Int)) (s:List Int):∀ (d i f:Nat) (n:Int),i+d=l.length->d <f-> 0 <=n->n <l.length-> ∃ r,yf ⟨l,m,s⟩ (eA l) f n i=some r/\(r < 0 ↔ (eD (eA l) d n).isSome=true)
 | 0,i,f,n,hi,I,bE,af=>by
   obtain ⟨f,rfl⟩:∃ e4,f=e4+ 1 :=⟨f - 1,by omega⟩
   have:i=l.length:=by omega
   subst this
   refine ⟨n,?_,?_⟩
   · rw [yf]
     show cond (decide ((l.length:Int) <(l.length:Int))) _ _=_
     rw [cJ];rfl
   · rw [eD,if_neg (by omega)];simp;omega
 | d+ 1,i,f,n,hi,I,bE,af=>by
   obtain ⟨f,rfl⟩:∃ e4,f=e4+ 1 :=⟨f - 1,by omega⟩
   obtain ⟨x,ai,a5⟩:=vy (l:=l) (n:=n) bE af
   have hlen:=h.len
   rw [yf]
   have hc:decide ((i:Int) <((⟨l,m,s⟩:df).l.length:Int))=true:=cK (n:=l.length) (by omega)
   rw [hc,cond_true,a5,Option.bind_some,eD,if_neg (by omega),a5,Option.bind_some]
   by_cases Hz:dS l x.bW < 0
   · rw [decide_eq_true Hz,cond_true]
     refine ⟨_,rfl,?_⟩
     have:eD (eA l) d (dS l x.bW)=some []:=by cases d <;> simp [eD,Hz]
     rw [this];simp [Hz]
   · rw [decide_eq_false Hz,cond_false,gS (n:=l.length) (by omega) (by omega)]
     obtain ⟨r,aC,aU⟩:=abZ h m s d (i+ 1) f (dS l x.bW) (by omega) (by omega) (by omega) QF
     refine ⟨r,aC,aU.trans ?_⟩
     simp
theorem aj0 (bV:1100 <F) (h:Right l) (m:List (List UInt8 × Int)) (s:List Int):va F ⟨l,m,s⟩ (eA l) F 0 =some (dE (((List.range l.length).findSome? (tO l)).map fun e=>(e,(⟨l,m,eA l⟩:df)))):=by
 have hlen:=h.len
 have:=kz (n:=l.length) (L:=va F ⟨l,m,s⟩ (eA l)) (fun i=>(tO l i).map fun e=>(e,(⟨l,m,eA l⟩:df))) (by omega) (fun k i hi=>by
  rw [va]
  have hc:decide ((i:Int) <((⟨l,m,s⟩:df).l.length:Int))=true:=cK (n:=l.length) hi
  obtain ⟨r,aC,aU⟩:=abZ h m s l.length 0 F (i:Int) (by omega) (by omega) (by omega) (by omega)
  rw [hc,cond_true,show (0 :Int)=((0 :Nat):Int) from rfl,aC]
  simp only [Option.bind_some]
  unfold tO
  cases hu:(eD (eA l) l.length (i:Int)).isSome with
  | true=>rw [if_pos rfl,decide_eq_false (show ¬ ((0 :Nat):Int)<=r from fun bU=>by have:=aU.2 hu;omega)];rfl
  | false=>rw [if_neg (by simp),decide_eq_true (show ((0 :Nat):Int)<=r from by
   rcases Int.lt_or_le r 0 with bU | bU
   · have:=aU.1 bU;rw [hu] at this;cases this
   · exact bU)];rfl) (fun k=>by
    rw [va]
    show cond (decide ((l.length:Int) <(l.length:Int))) _ _=_
    rw [cJ];rfl) (F:=F) (by omega)
 rw [this,La]
structure ic (l:List aN):Prop where
 right:Right l
 aKh:zh l
 aKg:∀ c ∈ l,c.bW= []\/ 0 <=dS l c.bW
 up:∀ i,i <l.length-> ∃ c,eD (eA l) l.length (i:Int)=some c
 top:∀ c ∈ l,sT c=none
 obj:0 <=dS l [79,98,106,101,99,116]
theorem ic.chain (h:ic l) {n:Int} (bE:0 <=n) (aC:n <l.length):eD (eA l) l.length n=some (eH l n)/\(eH l n).length<= 10 /\(∀ x ∈ eH l n,0 <=x/\x <l.length):=by
 obtain ⟨c,hc⟩:=h.up n.toNat (by omega)
 rw [show ((n.toNat:Nat):Int)=n by omega] at hc
 have e:eH l n=c:=by unfold eH;rw [hc];rfl
 rw [e]
 refine ⟨hc,?_,fun x ai=>?_⟩
 · have:=aga hc;rw [DJ] at this;have:=h.right.len;omega
 · have:=(ND hc x ai).1;rw [DJ] at this;exact this
theorem ic.WC (h:ic l) (bV:1100 <F) (m:List (List UInt8 × Int)) {n:Int} (bE:0 <=n) (aC:n <l.length):vb F ⟨l,m,eA l⟩ n=some (eH l n):=by
 obtain ⟨hc,az,_⟩:=h.chain bE aC
 exact ajC (l:=l) hc (by omega) (by omega)
def np (l:List aN) (i:Int):List Field:=((idx l i).map (·.Fields)).getD []
def gn (l:List aN) (n:Int):List Field:=(eH l n).reverse.flatMap (np l)
theorem QS (h:Right l) (i:Int):(np l i).length<= 6 :=by
 unfold np
 cases ai:idx l i with
 | none=>simp
 | some x=>
   obtain ⟨_,_,aU⟩:=ux ai
   exact h.fields x (List.mem_of_getElem? aU)
theorem QT (h:Right l):∀ r:List Int,(r.flatMap (np l)).length<= 6 *r.length
 | []=>by simp
 | x::r=>by
   have aC:=QS h x
   have aU:=QT h r
   simp only [List.flatMap_cons,List.length_append,List.length_cons]
   omega
theorem ack (h:Right l) (m:List (List UInt8 × Int)) (s:List Int):∀ (rem:List Int) (acc:List Field),(∀ x ∈ rem,0 <=x/\x <l.length)->acc.length+ 6 *rem.length<= 1000 ->yh ⟨l,m,s⟩ rem acc=some (acc++rem.flatMap (np l))
 | [],acc,_,_=>by simp [yh]
 | x::rem,acc,ai,az=>by
   obtain ⟨c,hc,_⟩:=vy (l:=l) (ai x (by simp)).1 (ai x (by simp)).2
   have I:np l x=c.Fields:=by unfold np;rw [hc];rfl
   have aC:=QS h x
   rw [I] at aC
   simp only [List.length_cons] at az
   rw [yh]
   show ((idx l x).bind fun y0=>_)=_
   rw [hc,Option.bind_some]
   unfold ej
   rw [if_pos (by omega),Option.bind_some,ack h m s rem _ (fun y hy=>ai y (by simp [hy])) (by simp only [List.length_append];omega),List.flatMap_cons,I]
   simp
theorem ic.WD (h:ic l) (bV:1100 <F) (m:List (List UInt8 × Int)) {n:Int} (bE:0 <=n) (aC:n <l.length):yg F ⟨l,m,eA l⟩ n=some (gn l n):=by
 obtain ⟨_,az,hm⟩:=h.chain bE aC
 unfold yg
 have:=h.WC bV m bE aC
 simp only at this ⊢
 rw [this,Option.bind_some]
 unfold Iv
 rw [Option.bind_some,ack h.right m (eA l) _ [] (fun x ai=>hm x (by simpa using ai)) (by simp;omega)]
 simp [gn]
theorem ic.XV (h:ic l) (bV:1100 <F) {n:Int} (bE:0 <=n) (aC:n <l.length):zi F l n=some (gn l n):=by
 obtain ⟨_,az,hm⟩:=h.chain bE aC
 unfold zi
 rw [NB bV h.right aC,Option.bind_some]
 have:qG l (eH l n).reverse F [] 0 =some (gn l n):=by
  refine My (n:=(eH l n).reverse.length) (fun k i=>qG l (eH l n).reverse k (((eH l n).reverse.take i).flatMap (np l)) (i:Int)) (gn l n) (fun k i hi=>?_) (fun k=>?_) (F:=F) (by simp;omega)
  · obtain ⟨x,ai⟩:∃ x,(eH l n).reverse[i]? =some x:=⟨(eH l n).reverse[i],List.getElem?_eq_getElem hi⟩
    have a1:=hm x (by simpa using List.mem_of_getElem? ai)
    obtain ⟨c,hc,_⟩:=vy (l:=l) a1.1 a1.2
    have I:np l x=c.Fields:=by unfold np;rw [hc];rfl
    have aU:=QS h.right x
    rw [I] at aU
    have bS:=QT h.right ((eH l n).reverse.take i)
    simp only [List.length_take,List.length_reverse] at bS hi
    show qG l (eH l n).reverse (k+ 1) (((eH l n).reverse.take i).flatMap (np l)) (i:Int)=_
    rw [qG,cK (by simpa using hi),cond_true,cd ai,Option.bind_some,hc,Option.bind_some]
    unfold ej
    rw [if_pos (by omega),Option.bind_some,gS (n:=(eH l n).length) hi (by omega),List.take_add_one,ai,List.flatMap_append]
    simp [I]
  · show qG l (eH l n).reverse (k+ 1) (((eH l n).reverse.take (eH l n).reverse.length).flatMap (np l)) ((eH l n).reverse.length:Int)=_
    rw [qG,cJ,List.take_length];rfl
 rw [this];rfl
end
end J
namespace J
section
variable {F:Nat} {l:List aN}
abbrev n9:=List (List UInt8) × List Target
def oJ (nm:List UInt8) (x:List UInt8):Bool:=decide (nm=x)
def tu (p:n9) (nm:List UInt8) (t:Target):n9:=match fq (oJ nm) p.1 with
 | some k=>(p.1,p.2.set k t)
 | none=>(p.1 ++[nm],p.2 ++[t])
def qL (ci:Int):List Method->Nat->n9->n9
 | [],_,p=>p
 | m::r,k,p=>qL ci r (k+ 1) (tu p m.Name ⟨ci,k⟩)
def fJ (l:List aN) (i:Int):List Method:=((idx l i).map (·.aR)).getD []
def w6 (l:List aN):List Int->n9->n9
 | [],p=>p
 | ci::r,p=>w6 l r (qL ci (fJ l ci) 0 p)
def tab (l:List aN) (n:Int):n9:=w6 l (eH l n).reverse ([],[])
theorem P3 {p:n9} {nm:List UInt8} {t:Target} (h:p.1.length=p.2.length):(tu p nm t).1.length=(tu p nm t).2.length/\(tu p nm t).1.length<=p.1.length+ 1 :=by
 unfold tu
 cases fq (oJ nm) p.1 with
 | some k=>simp [h]
 | none=>simp [h]
theorem P2 {ci:Int}:∀ {r:List Method} {k:Nat} {p:n9},p.1.length=p.2.length->(qL ci r k p).1.length=(qL ci r k p).2.length/\(qL ci r k p).1.length<=p.1.length+r.length
 | [],_,p,h=>⟨h,Nat.le_refl _⟩
 | m::r,k,p,h=>by
   obtain ⟨aC,aU⟩:=P3 (nm:=m.Name) (t:=⟨ci,k⟩) h
   obtain ⟨bS,ew⟩:=P2 (ci:=ci) (r:=r) (k:=k+ 1) aC
   exact ⟨bS,by simp only [qL,List.length_cons];omega⟩
theorem aED {e7:List (List UInt8)} (h:Small F e7.length) (nm:List UInt8):IG F e7 nm=some (((fq (oJ nm) e7).map fun n:Nat=>(n:Int)).getD (-1)):=by
 unfold IG
 have l1:yS e7 nm F 0 =some (dE ((fq (oJ nm) e7).map fun n:Nat=>(n:Int))):=QR (oJ nm) _ h.1 (fun k i x ai=>by
  rw [yS,cK (List.getElem?_eq_some_iff.1 ai).1,cond_true,cd ai,Option.bind_some];rfl) (fun k=>by rw [yS,cJ];rfl) h.2
 rw [l1,jT]
 cases fq (oJ nm) e7 <;> rfl
theorem af6 (bV:1100 <F) (ci:Int) (c:aN) (hc:c.aR.length<= 8):∀ (d i f:Nat) (p:n9),i+d=c.aR.length->d <f->p.1.length=p.2.length->p.1.length+d<= 1000 ->
 yn F ci c f p.1 p.2 (i:Int)=some (qL ci (c.aR.drop i) i p)
 | 0,i,f,p,hi,I,b3,_=>by
   obtain ⟨f,rfl⟩:∃ e4,f=e4+ 1 :=⟨f - 1,by omega⟩
   have:i=c.aR.length:=by omega
   subst this
   rw [yn,cJ,List.drop_of_length_le (Nat.le_refl _)];rfl
 | d+ 1,i,f,p,hi,I,b3,az=>by
   obtain ⟨f,rfl⟩:∃ e4,f=e4+ 1 :=⟨f - 1,by omega⟩
   have gb:i <c.aR.length:=by omega
   obtain ⟨aC,aU⟩:=P3 (nm:=c.aR[i].Name) (t:=⟨ci,i⟩) b3
   have next:=af6 bV ci c hc d (i+ 1) f (tu p c.aR[i].Name ⟨ci,i⟩) (by omega) (by omega) aC (by omega)
   rw [yn,cK gb,cond_true,cd (List.getElem?_eq_getElem gb),Option.bind_some,aED ⟨by omega,by omega⟩,Option.bind_some,List.drop_eq_getElem_cons gb,qL,<-next]
   unfold tu
   cases Ub:fq (oJ c.aR[i].Name) p.1 with
   | some k=>
     have bh:=WY Ub
     simp only [Option.map_some,Option.getD_some]
     rw [decide_eq_true (show (0 :Int)<=(k:Int) by omega),cond_true,cd (List.getElem?_eq_getElem (show k <p.2.length by omega)),Option.bind_some,Option.bind_some,Option.bind_some,gS gb (by omega)]
     simp
   | none=>
     simp only [Option.map_none,Option.getD_none]
     rw [decide_eq_false (show ¬ (0 :Int)<= -1 by decide),cond_false]
     unfold ej
     rw [if_pos (by simp only [List.length_cons,List.length_nil];omega),Option.bind_some,if_pos (by simp only [List.length_cons,List.length_nil];omega),Option.bind_some,Option.bind_some,gS gb (by omega)]
theorem afj (h:Right l) (i:Int):(fJ l i).length<= 8 :=by
 unfold fJ
 cases ai:idx l i with
 | none=>simp
 | some x=>
   obtain ⟨_,_,aU⟩:=ux ai
   exact h.methods x (List.mem_of_getElem? aU)
theorem af5 (bV:1100 <F) (h:Right l) (m:List (List UInt8 × Int)) (s:List Int):∀ (rem:List Int) (p:n9),(∀ x ∈ rem,0 <=x/\x <l.length)->p.1.length=p.2.length->p.1.length+ 8 *rem.length<= 900 ->
 ym F ⟨l,m,s⟩ rem p.1 p.2 =some (w6 l rem p)
 | [],p,_,_,_=>by simp [ym,w6]
 | x::rem,p,ai,b3,az=>by
   obtain ⟨c,hc,_⟩:=vy (l:=l) (ai x (by simp)).1 (ai x (by simp)).2
   have hm:fJ l x=c.aR:=by unfold fJ;rw [hc];rfl
   have sk:=afj h x
   have F3:=sk
   rw [hm] at F3
   simp only [List.length_cons] at az
   obtain ⟨j8,kX⟩:=P2 (ci:=x) (r:=fJ l x) (k:=0) b3
   rw [ym]
   show (Option.bind (α:=(List (List UInt8)) × (List Target)) ((idx l x).bind fun gG=>_) _)=_
   rw [hc,Option.bind_some]
   have:=af6 bV x c F3 c.aR.length 0 F p (by omega) (by omega) b3 (by omega)
   rw [show ((0 :Nat):Int)= 0 from rfl] at this
   rw [this,List.drop_zero,Option.bind_some,Option.bind_some,w6,<-hm]
   exact af5 bV h m s rem _ (fun y hy=>ai y (by simp [hy])) j8 (by omega)
theorem ic.aE7 (h:ic l) (bV:1100 <F) (m:List (List UInt8 × Int)) {n:Int} (bE:0 <=n) (aC:n <l.length):H3 F ⟨l,m,eA l⟩ n=some (tab l n):=by
 obtain ⟨_,az,hm⟩:=h.chain bE aC
 unfold H3
 have:=h.WC bV m bE aC
 simp only at this ⊢
 rw [this,Option.bind_some]
 unfold Iv
 rw [Option.bind_some,af5 bV h.right m (eA l) _ ([],[]) (fun x ai=>hm x (by simpa using ai)) rfl (by simp;omega)]
 rfl
theorem aG3 (e7:List (List UInt8)) (m:Method) (h:Small F e7.length):tq e7 m F 0 =some (((fq (oJ m.Name) e7).getD e7.length:Nat):Int):=by
 have key:∀ (d i f:Nat),i+d=e7.length->d <f->tq e7 m f (i:Int)=some ((i+(fq (oJ m.Name) (e7.drop i)).getD d:Nat):Int):=by
  intro d
  induction d with
  | zero=>
    intro i f hi I
    obtain ⟨f,rfl⟩:∃ e4,f=e4+ 1 :=⟨f - 1,by omega⟩
    have:i=e7.length:=by omega
    subst this
    rw [tq,cJ,List.drop_of_length_le (Nat.le_refl _)];rfl
  | succ d cv=>
    intro i f hi I
    obtain ⟨f,rfl⟩:∃ e4,f=e4+ 1 :=⟨f - 1,by omega⟩
    have gb:i <e7.length:=by omega
    rw [tq,cK gb,cond_true,cd (List.getElem?_eq_getElem gb),Option.bind_some,List.drop_eq_getElem_cons gb,fq]
    by_cases e:e7[i]=m.Name
    · rw [decide_eq_true e,if_pos (by simp [oJ,e])];simp
    · rw [decide_eq_false e,if_neg (by simp [oJ];exact fun h=>e h.symm)]
      simp only [Bool.not_false,cond_true]
      rw [gS gb h.1,cv (i+ 1) f (by omega) (by omega)]
      congr 2
      cases fq (oJ m.Name) (e7.drop (i+ 1)) with
      | none=>simp;omega
      | some k=>simp;omega
 have:=key e7.length 0 F (by omega) h.2
 simpa using this
theorem af9 (bV:1100 <F) (m5:List Int) (n:Nat) (ci:Int) (c:aN) (bU:m5[n]? =some ci) (pj:idx l ci=some c) (hc:c.aR.length<= 8):∀ (d i f:Nat) (p:n9),i+d=c.aR.length->d <f->p.1.length=p.2.length->p.1.length+d<= 1000 ->
 w0 F l m5 (n:Int) f p.2 p.1 (i:Int)=some ((qL ci (c.aR.drop i) i p).2,(qL ci (c.aR.drop i) i p).1)
 | 0,i,f,p,hi,I,b3,_=>by
   obtain ⟨f,rfl⟩:∃ e4,f=e4+ 1 :=⟨f - 1,by omega⟩
   have:i=c.aR.length:=by omega
   subst this
   rw [w0,cd bU,Option.bind_some,pj,Option.bind_some,cJ,List.drop_of_length_le (Nat.le_refl _)];rfl
 | d+ 1,i,f,p,hi,I,b3,az=>by
   obtain ⟨f,rfl⟩:∃ e4,f=e4+ 1 :=⟨f - 1,by omega⟩
   have gb:i <c.aR.length:=by omega
   obtain ⟨aC,aU⟩:=P3 (nm:=c.aR[i].Name) (t:=⟨ci,i⟩) b3
   have next:=af9 bV m5 n ci c bU pj hc d (i+ 1) f (tu p c.aR[i].Name ⟨ci,i⟩) (by omega) (by omega) aC (by omega)
   rw [w0,cd bU,Option.bind_some,pj,Option.bind_some,cK gb,cond_true,Option.bind_some,pj,Option.bind_some,cd (List.getElem?_eq_getElem gb),Option.bind_some,aG3 p.1 _ ⟨by omega,by omega⟩,Option.bind_some,List.drop_eq_getElem_cons gb,qL,<-next]
   unfold tu
   cases Ub:fq (oJ c.aR[i].Name) p.1 with
   | some k=>
     have bh:=WY Ub
     simp only [Option.getD_some]
     rw [decide_eq_false (show ¬ ((k:Nat):Int)=(p.1.length:Int) by omega),cond_false,Option.bind_some]
     simp only [cd bU,Option.bind_some]
     rw [cd (List.getElem?_eq_getElem (show k <p.2.length by omega)),Option.bind_some,Option.bind_some,gS gb (by omega)]
     simp
   | none=>
     simp only [Option.getD_none,decide_true,cond_true]
     unfold ej
     rw [if_pos (by simp only [List.length_cons,List.length_nil];omega),Option.bind_some,if_pos (by simp only [List.length_cons,List.length_nil];omega),Option.bind_some,Option.bind_some]
     simp only [cd bU,Option.bind_some]
     rw [cd (i:=p.1.length) (x:=(⟨0,0⟩:Target)) (by rw [b3];simp),Option.bind_some,Option.bind_some,gS gb (by omega)]
     simp [b3,List.set_append]
theorem ic.aGt (h:ic l) (bV:1100 <F) {n:Int} (bE:0 <=n) (aC:n <l.length):EZ F l n=some (tab l n):=by
 obtain ⟨_,az,hm⟩:=h.chain bE aC
 unfold EZ
 rw [NB bV h.right aC,Option.bind_some]
 have key:∀ (d i f:Nat) (p:n9),i+d=(eH l n).reverse.length->d <f->p.1.length=p.2.length->p.1.length+ 8 *d<= 900 ->wZ F l (eH l n).reverse f p.2 p.1 (i:Int)=some ((w6 l ((eH l n).reverse.drop i) p).2,(w6 l ((eH l n).reverse.drop i) p).1):=by
  intro d
  induction d with
  | zero=>
    intro i f p hi I _ _
    obtain ⟨f,rfl⟩:∃ e4,f=e4+ 1 :=⟨f - 1,by omega⟩
    have:i=(eH l n).reverse.length:=by omega
    subst this
    rw [wZ,cJ,List.drop_of_length_le (Nat.le_refl _)];rfl
  | succ d cv=>
    intro i f p hi I b3 aKb
    obtain ⟨f,rfl⟩:∃ e4,f=e4+ 1 :=⟨f - 1,by omega⟩
    have gb:i <(eH l n).reverse.length:=by omega
    obtain ⟨ci,pj⟩:∃ x,(eH l n).reverse[i]? =some x:=⟨(eH l n).reverse[i],List.getElem?_eq_getElem gb⟩
    have a1:=hm ci (by simpa using List.mem_of_getElem? pj)
    obtain ⟨c,hc,_⟩:=vy (l:=l) a1.1 a1.2
    have Aj:fJ l ci=c.aR:=by unfold fJ;rw [hc];rfl
    have sk:=afj h.right ci
    have F3:=sk
    rw [Aj] at F3
    obtain ⟨j8,kX⟩:=P2 (ci:=ci) (r:=fJ l ci) (k:=0) b3
    have t2:=af9 (l:=l) bV (eH l n).reverse i ci c pj hc F3 c.aR.length 0 F p (by omega) (by omega) b3 (by omega)
    rw [show ((0 :Nat):Int)= 0 from rfl] at t2
    have Lv:(eH l n).reverse[i]=ci:=by
     have:=List.getElem?_eq_getElem gb
     rw [pj] at this;exact (Option.some.inj this).symm
    rw [wZ,cK gb,cond_true,t2,List.drop_zero,Option.bind_some,Option.bind_some,gS (n:=(eH l n).length) (by simpa using gb) (by omega),List.drop_eq_getElem_cons gb,Lv,w6,Aj]
    rw [Aj] at j8 kX
    exact cv (i+ 1) f _ (by omega) (by omega) j8 (by omega)
 have:=key (eH l n).reverse.length 0 F ([],[]) (by omega) (by simp;omega) rfl (by simp;omega)
 rw [show ((0 :Nat):Int)= 0 from rfl,List.drop_zero] at this
 simp only at this
 rw [this];rfl
end
end J
namespace J
theorem tt {α β:Type} {l:List α} (T:Nat->List β->Nat->Option (List β)) (g:α->List β) (B M:Nat) (ik:∀ x ∈ l,(g x).length<=B)
 (a5:∀ k (i:Nat) x acc,l[i]? =some x->acc.length+B<=M->T (k+ 1) acc i=T k (acc++g x) (i+ 1)) (he:∀ k acc,T (k+ 1) acc l.length=some acc) {F:Nat} (bV:l.length <F) {acc:List β} (fr:acc.length+B*l.length<=M) :
 T F acc 0 =some (acc++l.flatMap g):=by
 have key:∀ (d i k:Nat) (acc:List β),i+d=l.length->d <k->acc.length+B*d<=M->T k acc i=some (acc++(l.drop i).flatMap g):=by
  intro d
  induction d with
  | zero=>
    intro i k acc h bh _
    obtain ⟨k,rfl⟩:∃ k',k=k'+ 1 :=⟨k - 1,by omega⟩
    have hi:i=l.length:=by omega
    subst hi
    rw [he,List.drop_of_length_le (Nat.le_refl _)];simp
  | succ d cv=>
    intro i k acc h bh hm
    obtain ⟨k,rfl⟩:∃ k',k=k'+ 1 :=⟨k - 1,by omega⟩
    have hi:i <l.length:=by omega
    have a1:=ik l[i] (List.getElem_mem hi)
    rw [Nat.mul_succ] at hm
    rw [a5 k i l[i] acc (List.getElem?_eq_getElem hi) (by omega),cv (i+ 1) k _ (by omega) (by omega) (by simp only [List.length_append];omega),List.drop_eq_getElem_cons hi,List.flatMap_cons,List.append_assoc]
 have:=key l.length 0 F acc (by omega) bV fr
 simpa using this
theorem afq {α β:Type} {g:α->Option β} {a:α}:[a].findSome? g=g a:=by rw [List.findSome?_cons];cases g a <;> rfl
theorem FV {α β YH:Type} (f:α->List β) (g:β->Option YH):∀ l:List α,(l.flatMap f).findSome? g=l.findSome? fun x=>(f x).findSome? g
 | []=>rfl
 | x::r=>by
   rw [List.flatMap_cons,List.findSome?_append,List.findSome?_cons,FV f g r]
   cases (f x).findSome? g <;> rfl
theorem xD {α β:Type} {g:α->List β} {B:Nat}:∀ {l:List α},(∀ x ∈ l,(g x).length<=B)->(l.flatMap g).length<=B*l.length
 | [],_=>by simp
 | x::r,h=>by
   have aC:=h x (by simp)
   have aU:=xD (l:=r) (fun y hy=>h y (by simp [hy]))
   simp only [List.flatMap_cons,List.length_append,List.length_cons,Nat.mul_succ]
   omega
def jF (k:Kind):List (List UInt8):=if k.aN= [] then [] else [k.aN]
def mt (m:Method):List (List UInt8):=m.bD.flatMap jF++jF m.Returns++m.bH.map (·.aN)
def xu (c:aN):List (List UInt8):=c.Fields.flatMap (fun f=>jF f.Kind)++c.aR.flatMap mt
def rK (l:List aN):List (List UInt8):=l.flatMap xu
def jU (l:List aN) (s:List UInt8):Option Int:=if 0 <=dS l s then none else some 5
theorem uB (k:Kind):(jF k).length<= 1 :=by unfold jF;split <;> simp
section
variable {F:Nat} {l:List aN}
theorem afk (h:Right l) {c:aN} (hc:c ∈ l) {m:Method} (hm:m ∈ c.aR):(mt m).length<= 9 :=by
 have aC:=h.method c hc m hm
 have aU:=xD (l:=m.bD) (g:=jF) (B:=1) (fun k _=>uB k)
 have bS:=uB m.Returns
 unfold mt
 simp only [List.length_append,List.length_map]
 omega
theorem abX (h:Right l) {c:aN} (hc:c ∈ l):(xu c).length<= 78 :=by
 have aC:=xD (l:=c.Fields) (g:=fun f=>jF f.Kind) (B:=1) (fun f _=>uB f.Kind)
 have aU:=xD (l:=c.aR) (g:=mt) (B:=9) (fun m hm=>afk h hc hm)
 have bS:=h.fields c hc
 have ew:=h.methods c hc
 unfold xu
 simp only [List.length_append]
 omega
theorem iv {b:Nat} {α:Type} {acc r:List α} (h:(acc.length+r.length)*b<= 140737488355328):ej b acc r=some (acc++r):=by unfold ej;rw [if_pos h]
theorem X' {acc:List (List UInt8)} (h:acc.length<= 5000) (k:Kind):AE k acc=some (acc++jF k):=by
 unfold AE jF
 by_cases e:k.aN= []
 · rw [decide_eq_true e,if_pos e];simp
 · rw [decide_eq_false e,if_neg e]
   simp only [Bool.not_false,cond_true]
   rw [iv (by simp only [List.length_cons,List.length_nil];omega)];rfl
theorem aG6 (bV:1100 <F) (h:Right l) (m:List (List UInt8 × Int)) (s:List Int):vi F ⟨l,m,s⟩ F [] 0 =some (rK l):=by
 have hlen:=h.len
 have:=tt (l:=l) (fun k acc i=>vi F ⟨l,m,s⟩ k acc (i:Int)) xu 78 2000 (fun c hc=>abX h hc) (fun k i c acc ai tY=>by
  have hc:=List.mem_of_getElem? ai
  have tR:=h.fields c hc
  have sk:=h.methods c hc
  have hi:=(List.getElem?_eq_some_iff.1 ai).1
  have gf:∀ acc:List (List UInt8),acc.length<= 2000 ->vj c F acc 0 =some (acc++c.Fields.flatMap fun f=>jF f.Kind):=fun acc bK=>
   tt (l:=c.Fields) (fun k acc i=>vj c k acc (i:Int)) (fun f=>jF f.Kind) 1 3000 (fun f _=>uB f.Kind) (fun k i f acc ai tY=>by
    have hi:=(List.getElem?_eq_some_iff.1 ai).1
    rw [vj,cK hi,cond_true,cd ai,Option.bind_some,X' (by omega),Option.bind_some,gS hi (by omega)]) (fun k acc=>by rw [vj,cJ];rfl) (by omega) (by omega)
  have oM:∀ acc:List (List UInt8),acc.length<= 2100 ->vk F c F acc 0 =some (acc++c.aR.flatMap mt):=fun acc bK=>
   tt (l:=c.aR) (fun k acc i=>vk F c k acc (i:Int)) mt 9 3000 (fun m hm=>afk h hc hm) (fun k i m acc ai tY=>by
    have hm:=List.mem_of_getElem? ai
    have hi:=(List.getElem?_eq_some_iff.1 ai).1
    obtain ⟨ew,lH⟩:=h.method c hc m hm
    have AD:vl m F acc 0 =some (acc++m.bD.flatMap jF):=tt (l:=m.bD) (fun k acc i=>vl m k acc (i:Int)) jF 1 3100 (fun k _=>uB k) (fun k i x acc ai tY=>by
     have hi:=(List.getElem?_eq_some_iff.1 ai).1
     rw [vl,cK hi,cond_true,cd ai,Option.bind_some,X' (by omega),Option.bind_some,gS hi (by omega)]) (fun k acc=>by rw [vl,cJ];rfl) (by omega) (by omega)
    have bh:=xD (l:=m.bD) (g:=jF) (B:=1) (fun k _=>uB k)
    have aJ9:=uB m.Returns
    have Wu:∀ acc:List (List UInt8),acc.length<= 3200 ->vm m F acc 0 =some (acc++m.bH.flatMap fun h=>[h.aN]):=fun acc bK=>
     tt (l:=m.bH) (fun k acc i=>vm m k acc (i:Int)) (fun h=>[h.aN]) 1 3300 (fun k _=>by simp) (fun k i x acc ai tY=>by
      have hi:=(List.getElem?_eq_some_iff.1 ai).1
      rw [vm,cK hi,cond_true,cd ai,Option.bind_some,iv (by simp only [List.length_cons,List.length_nil];omega),Option.bind_some,gS hi (by omega)]) (fun k acc=>by rw [vm,cJ];rfl) (by omega) (by omega)
    rw [vk,cK hi,cond_true,cd ai,Option.bind_some,AD,Option.bind_some,X' (k:=(⟨m.Returns.Kind,m.Returns.aN⟩:Kind)) (by simp only [List.length_append];omega),Option.bind_some,
     Wu _ (by simp only [List.length_append];have:(jF (⟨m.Returns.Kind,m.Returns.aN⟩:Kind)).length<= 1 :=uB _;omega),Option.bind_some,Option.bind_some,gS hi (by omega)]
    have e:(m.bH.flatMap fun h=>[h.aN])=m.bH.map (·.aN):=by
     induction m.bH with
     | nil=>rfl
     | cons x r cv=>rw [List.flatMap_cons,cv];rfl
    rw [e]
    unfold mt
    simp only [List.append_assoc]) (fun k acc=>by rw [vk,cJ];rfl) (by omega) (by omega)
  have bh:=xD (l:=c.Fields) (g:=fun f=>jF f.Kind) (B:=1) (fun f _=>uB f.Kind)
  rw [vi]
  have G6:decide ((i:Int) <((⟨l,m,s⟩:df).l.length:Int))=true:=cK (n:=l.length) hi
  rw [G6,cond_true]
  show (Option.bind (α:=List (List UInt8)) ((idx l (i:Int)).bind fun cN=>_) _)=_
  rw [cd ai,Option.bind_some,gf acc (by omega),Option.bind_some,oM _ (by simp only [List.length_append];omega),Option.bind_some,Option.bind_some,gS hi (by omega)]
  unfold xu
  simp only [List.append_assoc]) (fun k acc=>by
   rw [vi]
   show cond (decide ((l.length:Int) <(l.length:Int))) _ _=_
   rw [cJ];rfl) (F:=F) (by omega) (acc:=[]) (by simp;omega)
 simpa [rK] using this
theorem WL (s:List UInt8):(dv (fL 0 l) s).isSome=decide (0 <=dS l s):=by
 rw [Dq]
 unfold dS
 cases fq (jD s) l with
 | none=>simp
 | some i=>simp
theorem aG4 (bV:1100 <F) (h:Right l) (s:List Int):H4 F ⟨l,fL 0 l,s⟩=some (((rK l).findSome? (jU l)).getD 0):=by
 have hlen:=h.len
 unfold H4
 have bA:=aG6 bV h (fL 0 l) s
 have aKd:(rK l).length<= 780 :=by
  have:=xD (l:=l) (g:=xu) (B:=78) (fun c hc=>abX h hc)
  unfold rK;omega
 rw [bA,Option.bind_some]
 have HY:yo ⟨l,fL 0 l,s⟩ (rK l) F 0 =some (dE ((rK l).findSome? (jU l))):=each (jU l) (by omega) (fun k i x ai=>by
  rw [yo,cK (List.getElem?_eq_some_iff.1 ai).1,cond_true,cd ai,Option.bind_some]
  show cond (!(dv (fL 0 l) x).isSome) _ _=_
  rw [WL]
  unfold jU
  by_cases e:0 <=dS l x
  · rw [decide_eq_true e,if_pos e];rfl
  · rw [decide_eq_false e,if_neg e];rfl) (fun k=>by rw [yo,cJ];rfl) (by omega)
 rw [HY]
 cases (rK l).findSome? (jU l) <;> rfl
def nB (l:List aN) (k:Kind):Option Int:=(jF k).findSome? (jU l)
theorem af_ {s:List UInt8}:jU l s=none\/jU l s=some 5 :=by unfold jU;split <;> simp
theorem sh {α:Type} {g:α->Option Int} {e:Int} (dd:∀ x,g x=none\/g x=some e):∀ r:List α,r.findSome? g=none\/r.findSome? g=some e
 | []=>.inl rfl
 | x::r=>by
   rw [List.findSome?_cons]
   rcases dd x with h | h
   · rw [h];exact sh dd r
   · rw [h];exact .inr rfl
theorem aES (k:Kind):nB l k=if k.aN= []\/ 0 <=dS l k.aN then none else some 5 :=by
 unfold nB jF jU
 by_cases e:k.aN= []
 · simp [e]
 · by_cases b4:0 <=dS l k.aN <;> simp [e,b4]
theorem PZ (h:Small F l.length) {C8:List Kind} (bh:Small F C8.length):zm F l C8=some (C8.findSome? (nB l)).isNone:=by
 unfold zm
 have l1:=each (l:=C8) (L:=ts F C8 l) (fun k=>(nB l k).map fun _=>false) bh.1 (fun k i x ai=>by
  rw [ts,cK (List.getElem?_eq_some_iff.1 ai).1,cond_true,cd ai,Option.bind_some,Option.bind_some,wL h,Option.bind_some,aES]
  by_cases e:x.aN= []
  · rw [if_pos (.inl e),decide_eq_true e];rfl
  · rw [decide_eq_false e]
    by_cases b4:0 <=dS l x.aN
    · rw [if_pos (.inr b4),decide_eq_false (show ¬ dS l x.aN < 0 by omega)];rfl
    · rw [if_neg (by simp [e,b4]),decide_eq_true (show dS l x.aN < 0 by omega)];rfl) (fun k=>by rw [ts,cJ];rfl) bh.2
 rw [l1,La]
 cases C8.findSome? (nB l) <;> rfl
theorem UP {o:Option Int} (h:o=none\/o=some 5) (Y:Option (Way Int Unit)):cond (!o.isNone) (some (.out 5)) Y=hJ o Y:=by rcases h with h | h <;> rw [h] <;> rfl
theorem Wm (k:Kind):nB l k=none\/nB l k=some 5 :=sh (fun _=>af_) _
theorem IK {o lj:Option Int} {Y:Option (Way Int Unit)}:hJ o (hJ lj Y)=hJ (o.or lj) Y:=by cases o <;> rfl
theorem aG5 (bV:1100 <F) (h:Right l):tk F l F 0 =some (dE ((rK l).findSome? (jU l))):=by
 have hlen:=h.len
 have:=each (l:=l) (L:=tk F l) (fun c=>(xu c).findSome? (jU l)) (by omega) (fun k n c ai=>by
  have hc:=List.mem_of_getElem? ai
  have tR:=h.fields c hc
  have sk:=h.methods c hc
  have HY:wE F l (n:Int) F 0 =some (dE (c.Fields.findSome? fun f=>nB l f.Kind)):=each (l:=c.Fields) (fun f=>nB l f.Kind) (by omega) (fun k i f hy=>by
   rw [wE,cd ai,Option.bind_some,cK (List.getElem?_eq_some_iff.1 hy).1,cond_true,Option.bind_some,cd hy,Option.bind_some,PZ ⟨by omega,by omega⟩ ⟨by simp,by simp;omega⟩,Option.bind_some]
   have e:[(⟨f.Kind.Kind,f.Kind.aN⟩:Kind)].findSome? (nB l)=nB l f.Kind:=afq
   rw [e]
   exact UP (Wm _) _) (fun k=>by rw [wE,cd ai,Option.bind_some,cJ];rfl) (by omega)
  have Ww:wF F l (n:Int) F 0 =some (dE (c.aR.findSome? fun m=>(mt m).findSome? (jU l))):=each (l:=c.aR) (fun m=>(mt m).findSome? (jU l)) (by omega) (fun k i m hy=>by
   have hm:=List.mem_of_getElem? hy
   obtain ⟨ew,lH⟩:=h.method c hc m hm
   have Wx:wG F l m F 0 =some (dE (m.bH.findSome? fun x=>jU l x.aN)):=each (l:=m.bH) (fun x=>jU l x.aN) (by omega) (fun k i x c0=>by
    rw [wG,cK (List.getElem?_eq_some_iff.1 c0).1,cond_true,cd c0,Option.bind_some,wL ⟨by omega,by omega⟩,Option.bind_some]
    unfold jU
    by_cases b4:0 <=dS l x.aN
    · rw [if_pos b4,decide_eq_false (show ¬ dS l x.aN < 0 by omega)];rfl
    · rw [if_neg b4,decide_eq_true (show dS l x.aN < 0 by omega)];rfl) (fun k=>by rw [wG,cJ];rfl) (by omega)
   have e:[(⟨m.Returns.Kind,m.Returns.aN⟩:Kind)].findSome? (nB l)=nB l m.Returns:=afq
   rw [wF,cd ai,Option.bind_some,cK (List.getElem?_eq_some_iff.1 hy).1,cond_true,Option.bind_some,cd hy,Option.bind_some,PZ ⟨by omega,by omega⟩ ⟨by omega,by omega⟩,Option.bind_some,PZ ⟨by omega,by omega⟩ ⟨by simp,by simp;omega⟩,Option.bind_some,Wx,e,nP]
   rw [UP (Wm _),UP (sh (fun k=>Wm k) _),IK,IK,qi,nN]
   congr 1
   unfold mt
   rw [List.findSome?_append,List.findSome?_append,FV,List.findSome?_map]
   cases gL:m.bD.findSome? (nB l) with
   | some a=>
     have:(m.bD.findSome? fun x=>(jF x).findSome? (jU l))=some a:=gL
     rw [this];rfl
   | none=>
     have:(m.bD.findSome? fun x=>(jF x).findSome? (jU l))=none:=gL
     rw [this];rfl) (fun k=>by rw [wF,cd ai,Option.bind_some,cJ];rfl) (by omega)
  rw [tk,cK (List.getElem?_eq_some_iff.1 ai).1,cond_true,HY,Ww,nP,nP,IK,qi,nN]
  congr 1
  unfold xu
  rw [List.findSome?_append,FV,FV]
  rfl) (fun k=>by rw [tk,cJ];rfl) (F:=F) (by omega)
 rw [this,rK,FV]
end
end J
namespace J
theorem MB {κ β:Type} [DecidableEq κ] {k:κ} {v:β}:∀ m:List (κ × β),(hI m k v).length=if (dv m k).isSome then m.length else m.length+ 1
 | []=>rfl
 | p::r=>by
   simp only [hI,dv]
   by_cases h:p.1 =k
   · simp [h]
   · simp only [if_neg h,List.length_cons,MB r]
     split <;> rfl
theorem H9 {κ β:Type} [DecidableEq κ] {k s:κ} {v:β}:∀ m:List (κ × β),(dv (hI m k v) s).isSome=true ↔ s=k\/(dv m s).isSome=true
 | []=>by
   simp only [hI,dv]
   by_cases h:k=s
   · simp [h]
   · simp [h];exact fun e=>h e.symm
 | p::r=>by
   have cv:=H9 (k:=k) (s:=s) (v:=v) r
   simp only [hI]
   by_cases h:p.1 =k
   · rw [if_pos h]
     simp only [dv]
     by_cases e:k=s
     · simp [e]
     · have b4: ¬ p.1 =s:=fun x=>e (h.symm.trans x)
       rw [if_neg e,if_neg b4]
       constructor
       · exact fun x=>.inr x
       · rintro (x | x)
         · exact absurd x.symm e
         · exact x
   · rw [if_neg h]
     simp only [dv]
     by_cases e:p.1 =s
     · simp [e]
     · rw [if_neg e,if_neg e];exact cv
def tP (e7:List (List UInt8)):Option Int:=if e7.Nodup then none else some 6
section
variable {F:Nat} {l:List aN}
theorem af' (bV:1100 <F) {e7:List (List UInt8)} (af:e7.length<= 1000):Dc F e7=some (decide (¬ e7.Nodup)):=by
 have key:∀ (d i k:Nat) (m:List (List UInt8 × Bool)),i+d=e7.length->d <k->(∀ s,(dv m s).isSome=true ↔ s ∈ e7.take i)->m.length<=i->(m.length=i ↔ (e7.take i).Nodup) ->
  ∃ h2,yp e7 k m (i:Int)=some h2/\h2.length<=e7.length/\(h2.length=e7.length ↔ e7.Nodup):=by
  intro d
  induction d with
  | zero=>
    intro i k m hi bh aC aU bS
    obtain ⟨k,rfl⟩:∃ k',k=k'+ 1 :=⟨k - 1,by omega⟩
    have:i=e7.length:=by omega
    subst this
    rw [List.take_length] at bS
    exact ⟨m,by rw [yp,cJ];rfl,aU,bS⟩
  | succ d cv=>
    intro i k m hi bh aC aU bS
    obtain ⟨k,rfl⟩:∃ k',k=k'+ 1 :=⟨k - 1,by omega⟩
    have gb:i <e7.length:=by omega
    have bO:e7.take (i+ 1)=e7.take i++[e7[i]]:=by rw [List.take_add_one,List.getElem?_eq_getElem gb];rfl
    rw [yp,cK gb,cond_true,cd (List.getElem?_eq_getElem gb),Option.bind_some,gS gb (by omega)]
    refine cv (i+ 1) k _ (by omega) (by omega) (fun s=>?_) ?_ ?_
    · rw [H9,aC,bO,List.mem_append,List.mem_singleton]
      constructor
      · rintro (h | h)
        · exact .inr h
        · exact .inl h
      · rintro (h | h)
        · exact .inr h
        · exact .inl h
    · rw [MB];split <;> omega
    · rw [MB,bO,List.nodup_append]
      by_cases hm:(dv m e7[i]).isSome=true
      · rw [if_pos hm]
        have:=(aC e7[i]).1 hm
        constructor
        · intro h;omega
        · rintro ⟨_,_,h⟩;exact absurd rfl (h _ this _ (by simp))
      · rw [if_neg hm]
        have:e7[i] ∉ e7.take i:=fun h=>hm ((aC e7[i]).2 h)
        constructor
        · intro h
          exact ⟨bS.1 (by omega),by simp,fun a bK b a1 e=>by
           rw [List.mem_singleton] at a1;subst a1;exact this (e ▸ bK)⟩
        · rintro ⟨h,_,_⟩
          have:=bS.2 h
          omega
 obtain ⟨h2,aC,aU,bS⟩:=key e7.length 0 F [] (by omega) (by omega) (fun s=>by simp [dv]) (by simp) (by simp)
 unfold Dc
 rw [show (0 :Int)=((0 :Nat):Int) from rfl,aC,Option.bind_some]
 congr 1
 by_cases bT:e7.Nodup
 · have:=bS.2 bT
   rw [decide_eq_false (by omega),decide_eq_false (by simp [bT])]
 · have:h2.length≠e7.length:=fun e=>bT (bS.1 e)
   rw [decide_eq_true (by omega),decide_eq_true bT]
def QM {α:Type} (nm:α->List UInt8) (r:List α):Option Int:=(List.range r.length).findSome? fun k=>(List.range k).findSome? fun j=>if (r[j]?).map nm=(r[k]?).map nm then some 6 else none
theorem ab2 {α:Type} (nm:α->List UInt8) (r:List α):QM nm r=tP (r.map nm):=by
 have ad:QM nm r=none\/QM nm r=some 6 :=sh (fun k=>sh (fun j=>by split <;> simp) _) _
 unfold tP
 by_cases bT:(r.map nm).Nodup
 · rw [if_pos bT]
   rcases ad with h | h
   · exact h
   · exfalso
     obtain ⟨k,bh,aC⟩:=List.exists_of_findSome?_eq_some h
     obtain ⟨j,bb,aU⟩:=List.exists_of_findSome?_eq_some aC
     simp only [List.mem_range] at bh bb
     split at aU
     · rename_i e
       have:=List.pairwise_iff_getElem.1 bT j k (by simp;omega) (by simpa using bh) bb
       apply this
       rw [List.getElem?_eq_getElem (by omega),List.getElem?_eq_getElem bh] at e
       simpa using e
     · cases aU
 · rw [if_neg bT]
   rcases ad with h | h
   · exfalso
     apply bT
     refine List.pairwise_iff_getElem.2 fun j k bb bh Ai e=>?_
     have aC:=List.findSome?_eq_none_iff.1 h k (by simpa using bh)
     have aU:=List.findSome?_eq_none_iff.1 aC j (by simpa using Ai)
     simp only [List.length_map] at bb bh
     rw [List.getElem?_eq_getElem bb,List.getElem?_eq_getElem bh] at aU
     simp only [List.getElem_map] at e
     rw [if_pos (by simp [e])] at aU
     cases aU
   · exact h
theorem aj6 (bV:1100 <F) (r:List Field) (bU:r.length<= 1000):wv F r F 0 =some (dE (tP (r.map (·.Name)))):=by
 rw [<-ab2]
 exact kz _ (by omega) (fun k i hi=>by
  have Wn:ww r (i:Int) F 0 =some (dE ((List.range i).findSome? fun j=>if (r[j]?).map (·.Name)=(r[i]?).map (·.Name) then some 6 else none)):=kz _ (by omega) (fun k j bb=>by
   rw [ww,cK bb,cond_true,cd (List.getElem?_eq_getElem (show j <r.length by omega)),Option.bind_some,cd (List.getElem?_eq_getElem hi),Option.bind_some,List.getElem?_eq_getElem (show j <r.length by omega),List.getElem?_eq_getElem hi]
   simp only [Option.map_some,Option.some.injEq]
   by_cases e:r[j].Name=r[i].Name
   · rw [decide_eq_true e,if_pos e];rfl
   · rw [decide_eq_false e,if_neg e];rfl) (fun k=>by rw [ww,cJ];rfl) (by omega)
  rw [wv,cK hi,cond_true,Wn,nP,qi,nN]) (fun k=>by rw [wv,cJ];rfl) (by omega)
theorem aj7 (bV:1100 <F) (c:aN) (bU:c.aR.length<= 1000):wx F c F 0 =some (dE (tP (c.aR.map (·.Name)))):=by
 rw [<-ab2]
 exact kz _ (by omega) (fun k i hi=>by
  have Wn:wy c (i:Int) F 0 =some (dE ((List.range i).findSome? fun j=>if (c.aR[j]?).map (·.Name)=(c.aR[i]?).map (·.Name) then some 6 else none)):=kz _ (by omega) (fun k j bb=>by
   rw [wy,cK bb,cond_true,cd (List.getElem?_eq_getElem (show j <c.aR.length by omega)),Option.bind_some,cd (List.getElem?_eq_getElem hi),Option.bind_some,List.getElem?_eq_getElem (show j <c.aR.length by omega),List.getElem?_eq_getElem hi]
   simp only [Option.map_some,Option.some.injEq]
   by_cases e:c.aR[j].Name=c.aR[i].Name
   · rw [decide_eq_true e,if_pos e];rfl
   · rw [decide_eq_false e,if_neg e];rfl) (fun k=>by rw [wy,cJ];rfl) (by omega)
  rw [wx,cK hi,cond_true,Wn,nP,qi,nN]) (fun k=>by rw [wx,cJ];rfl) (by omega)
def yA (l:List aN) (i:Nat):Option Int:=(tP ((gn l i).map (·.Name))).or (tP ((fJ l i).map (·.Name)))
theorem aco (h:ic l) {n:Int} (bE:0 <=n) (aC:n <l.length):(gn l n).length<= 60 :=by
 obtain ⟨_,az,_⟩:=h.chain bE aC
 have:=QT h.right (eH l n).reverse
 unfold gn
 simp only [List.length_reverse] at this
 omega
theorem ab3 {e7:List (List UInt8)} {Y:Option (Way Int Unit)}:cond (decide (¬ e7.Nodup)) (some (.out 6)) Y=hJ (tP e7) Y:=by
 unfold tP
 by_cases h:e7.Nodup
 · rw [if_pos h,decide_eq_false (by simp [h])];rfl
 · rw [if_neg h,decide_eq_true h];rfl
theorem afi {i:Nat} {c:aN} (h:l[i]? =some c):fJ l (i:Int)=c.aR:=by unfold fJ;rw [cd h];rfl
theorem aFB (bV:1100 <F) (h:ic l):wH F l F 0 =some (dE ((List.range l.length).findSome? (yA l))):=by
 have hlen:=h.right.len
 exact kz _ (by omega) (fun k i hi=>by
  obtain ⟨c,ai⟩:∃ x,l[i]? =some x:=⟨l[i],List.getElem?_eq_getElem hi⟩
  have sk:=h.right.methods c (List.mem_of_getElem? ai)
  have adj:=aco h (n:=(i:Int)) (by omega) (by omega)
  rw [wH,cK hi,cond_true,h.XV bV (by omega) (by omega),Option.bind_some,aj6 bV _ (by omega),nP,cd ai,Option.bind_some,aj7 bV c (by omega),nP,IK,qi,nN]
  unfold yA
  rw [afi ai]) (fun k=>by rw [wH,cJ];rfl) (by omega)
theorem aFA (bV:1100 <F) (h:ic l) (m:List (List UInt8 × Int)):H2 F ⟨l,m,eA l⟩=some (((List.range l.length).findSome? (yA l)).getD 0):=by
 have hlen:=h.right.len
 have:=kz (n:=l.length) (L:=yl F ⟨l,m,eA l⟩) (yA l) (by omega) (fun k i hi=>by
  obtain ⟨c,ai⟩:∃ x,l[i]? =some x:=⟨l[i],List.getElem?_eq_getElem hi⟩
  have sk:=h.right.methods c (List.mem_of_getElem? ai)
  have adj:=aco h (n:=(i:Int)) (by omega) (by omega)
  have gf:vg (gn l i) F [] 0 =some ((gn l i).map (·.Name)):=by
   have:=tt (l:=gn l i) (fun k acc Av=>vg (gn l i) k acc (Av:Int)) (fun f=>[f.Name]) 1 3000 (fun f _=>by simp) (fun k j x acc ai tY=>by
    have bb:=(List.getElem?_eq_some_iff.1 ai).1
    rw [vg,cK bb,cond_true,cd ai,Option.bind_some,iv (by simp only [List.length_cons,List.length_nil];omega),Option.bind_some,gS bb (by omega)]) (fun k acc=>by rw [vg,cJ];rfl) (F:=F) (by omega) (acc:=[]) (by simp;omega)
   rw [show (0 :Int)=((0 :Nat):Int) from rfl,this]
   congr 1
   rw [List.nil_append]
   induction gn l i with
   | nil=>rfl
   | cons x r cv=>rw [List.flatMap_cons,cv];rfl
  have oM:vh c F [] 0 =some (c.aR.map (·.Name)):=by
   have:=tt (l:=c.aR) (fun k acc Av=>vh c k acc (Av:Int)) (fun f=>[f.Name]) 1 3000 (fun f _=>by simp) (fun k j x acc ai tY=>by
    have bb:=(List.getElem?_eq_some_iff.1 ai).1
    rw [vh,cK bb,cond_true,cd ai,Option.bind_some,iv (by simp only [List.length_cons,List.length_nil];omega),Option.bind_some,gS bb (by omega)]) (fun k acc=>by rw [vh,cJ];rfl) (F:=F) (by omega) (acc:=[]) (by simp;omega)
   rw [show (0 :Int)=((0 :Nat):Int) from rfl,this]
   congr 1
   rw [List.nil_append]
   induction c.aR with
   | nil=>rfl
   | cons x r cv=>rw [List.flatMap_cons,cv];rfl
  rw [yl]
  have G6:decide ((i:Int) <((⟨l,m,eA l⟩:df).l.length:Int))=true:=cK (n:=l.length) hi
  have avR:=h.WD bV m (n:=(i:Int)) (by omega) (by omega)
  rw [G6,cond_true]
  show ed (α:=Unit) ((idx l (i:Int)).bind fun fh=>(yg F ⟨l,m,eA l⟩ (i:Int)).bind fun io=>_) _=_
  rw [cd ai,Option.bind_some,avR,Option.bind_some,gf,Option.bind_some,oM,Option.bind_some,af' bV (by simp;omega),Option.bind_some,af' bV (by simp;omega),Option.bind_some,ab3,ab3,IK,qi,nN]
  unfold yA
  rw [afi ai]) (fun k=>by
   rw [yl]
   show cond (decide ((l.length:Int) <(l.length:Int))) _ _=_
   rw [cJ];rfl) (F:=F) (by omega)
 unfold H2
 rw [this]
 cases (List.range l.length).findSome? (yA l) <;> rfl
theorem afW {a b:List Kind} (bK:a.length<= 1000) (a1:b.length<= 1000) (bV:1100 <F):tp F a b=some (decide (a=b)):=by
 unfold tp
 by_cases az:a.length=b.length
 · rw [decide_eq_true (show (a.length:Int)=(b.length:Int) by omega)]
   simp only [Bool.not_true,cond_false]
   have l1:n8 a b F 0 =some (dE ((List.range a.length).findSome? fun i=>if a[i]? =b[i]? then none else some false)):=kz _ (by omega) (fun k i hi=>by
    rw [n8,cK hi,cond_true,cd (List.getElem?_eq_getElem hi),Option.bind_some,cd (List.getElem?_eq_getElem (show i <b.length by omega)),Option.bind_some,List.getElem?_eq_getElem hi,List.getElem?_eq_getElem (show i <b.length by omega)]
    simp only [Option.some.injEq]
    by_cases e:a[i]=b[i]
    · rw [decide_eq_true e,if_pos e];rfl
    · rw [decide_eq_false e,if_neg e];rfl) (fun k=>by rw [n8,cJ];rfl) (by omega)
   rw [l1,jT]
   cases I:(List.range a.length).findSome? fun i=>if a[i]? =b[i]? then none else some false with
   | some e=>
     obtain ⟨i,hi,aC⟩:=List.exists_of_findSome?_eq_some I
     split at aC
     · cases aC
     · rename_i e6
       injection aC with aC
       subst aC
       rw [decide_eq_false (fun e=>e6 (by rw [e]))];rfl
   | none=>
     rw [decide_eq_true];rfl
     apply List.ext_getElem?
     intro i
     by_cases hi:i <a.length
     · have:=List.findSome?_eq_none_iff.1 I i (by simpa using hi)
       split at this
       · assumption
       · cases this
     · rw [List.getElem?_eq_none (by omega),List.getElem?_eq_none (by omega)]
 · rw [decide_eq_false (show ¬ (a.length:Int)=(b.length:Int) by omega),decide_eq_false (fun e=>az (by rw [e]))];rfl
theorem ako {a b:List Kind} (bK:a.length<= 1000) (a1:b.length<= 1000) (bV:1100 <F):IB F a b=some (decide (a=b)):=by
 rw [<-afW bK a1 bV]
 unfold IB tp
 have e:∀ k n,AW a b k n=n8 a b k n:=by
  intro k
  induction k with
  | zero=>intro n;rfl
  | succ k cv=>intro n;rw [AW,n8];simp only [cv]
 rw [e]
def QG (a b:Method):Bool:=decide (a.Name=b.Name) && (a.Static || b.Static || !decide (a.bD=b.bD) || !decide (a.Returns=b.Returns))
def pf (a b:Method):Option Int:=if QG a b then some 4 else none
def tL (l:List aN) (c:aN) (u:Int):Option Int:=c.aR.findSome? fun a=>(fJ l u).findSome? (pf a)
def Df (l:List aN) (c:aN) (i:Nat):Option Int:=(eH l i).tail.findSome? (tL l c)
theorem ajJ (a b:Method):pf a b=none\/pf a b=some 4 :=by unfold pf;split <;> simp
theorem abM (c:aN) (u:Int):tL l c u=none\/tL l c u=some 4 :=sh (fun _=>sh (fun _=>ajJ _ _) _) _
theorem akE {α:Type} {g:α->Option Int} {e:Int} (dd:∀ x,g x=none\/g x=some e) (r:List α):r.reverse.findSome? g=r.findSome? g:=by
 rcases sh dd r with h | h
 · rw [h,List.findSome?_eq_none_iff]
   intro x ai
   exact List.findSome?_eq_none_iff.1 h x (by simpa using ai)
 · rw [h]
   rcases sh dd r.reverse with aU | aU
   · obtain ⟨x,ai,bS⟩:=List.exists_of_findSome?_eq_some h
     have:=List.findSome?_eq_none_iff.1 aU x (by simpa using ai)
     rw [bS] at this;cases this
   · exact aU
theorem aFi (bV:1100 <F) (h:ic l) (m:List (List UInt8 × Int)):H0 F ⟨l,m,eA l⟩=some (((List.range l.length).findSome? fun i=>(l[i]?).bind fun c=>Df l c i).getD 0):=by
 have hlen:=h.right.len
 have:=kz (n:=l.length) (L:=yi F ⟨l,m,eA l⟩) (fun i=>(l[i]?).bind fun c=>Df l c i) (by omega) (fun k i hi=>by
  obtain ⟨c,ai⟩:∃ x,l[i]? =some x:=⟨l[i],List.getElem?_eq_getElem hi⟩
  have mE:=List.mem_of_getElem? ai
  have sk:=h.right.methods c mE
  obtain ⟨RQ,nw,xL⟩:=h.chain (n:=(i:Int)) (by omega) (by omega)
  obtain ⟨r,bU⟩:=Yb RQ (by omega)
  have AD:∀ (a:Method),a ∈ c.aR-> ∀ (u:aN),u ∈ l->vf F a u F 0 =some (dE (u.aR.findSome? (pf a))):=fun a bK u hu=>each (pf a) (by have:=h.right.methods u hu;omega) (fun k j b a1=>by
   have RG:=List.mem_of_getElem? a1
   have aoD:=h.right.method c mE a bK
   have ap_:=h.right.method u hu b RG
   rw [vf,cK (List.getElem?_eq_some_iff.1 a1).1,cond_true,cd a1,Option.bind_some]
   unfold Mu
   simp only
   rw [ako (by omega) (by omega) bV]
   unfold pf QG
   show cond _ (Option.bind (cond _ (Option.bind _ fun r=>cond r (some (decide (a.Returns=b.Returns))) _) _) _) _=_
   by_cases af:a.Name=b.Name
   · rw [decide_eq_true af]
     simp only [Option.bind_some,cond_true,Bool.true_and]
     cases a.Static <;> cases b.Static <;> cases decide (a.bD=b.bD) <;> cases decide (a.Returns=b.Returns) <;> rfl
   · rw [decide_eq_false af];rfl) (fun k=>by rw [vf,cJ];rfl) (by have:=h.right.methods u hu;omega)
  have oM:∀ (x:Int),0 <=x->x <l.length->yk F ⟨l,m,eA l⟩ c x F 0 =some (dE (tL l c x)):=fun x bE aC=>each (fun a=>(fJ l x).findSome? (pf a)) (by omega) (fun k j a bK=>by
   obtain ⟨u,hu,_⟩:=vy (l:=l) bE aC
   have LU:u ∈ l:=by obtain ⟨_,_,aU⟩:=ux hu;exact List.mem_of_getElem? aU
   have hm:fJ l x=u.aR:=by unfold fJ;rw [hu];rfl
   rw [yk,cK (List.getElem?_eq_some_iff.1 bK).1,cond_true,cd bK,Option.bind_some]
   show ed (α:=Unit) ((idx l x).bind fun jX=>_) _=_
   rw [hu,Option.bind_some,AD a (List.mem_of_getElem? bK) u LU,nP,qi,nN,hm]) (fun k=>by rw [yk,cJ];rfl) (by omega)
  have gf:yj F ⟨l,m,eA l⟩ c (eH l i).tail F 0 =some (dE ((eH l i).tail.findSome? (tL l c))):=each (tL l c) (by simp;omega) (fun k j x UJ=>by
   have a1:=xL x (List.mem_of_mem_tail (List.mem_of_getElem? UJ))
   rw [yj,cK (List.getElem?_eq_some_iff.1 UJ).1,cond_true,cd UJ,Option.bind_some,oM x a1.1 a1.2,nP,qi,nN]) (fun k=>by rw [yj,cJ];rfl) (by simp;omega)
  rw [yi]
  have G6:decide ((i:Int) <((⟨l,m,eA l⟩:df).l.length:Int))=true:=cK (n:=l.length) hi
  have azk:=h.WC bV m (n:=(i:Int)) (by omega) (by omega)
  rw [G6,cond_true]
  show ed (α:=Unit) ((idx l (i:Int)).bind fun dr=>(vb F ⟨l,m,eA l⟩ (i:Int)).bind fun o5=>_) _=_
  have auh:cut (eH l i) 1 ((eH l i).length:Int)=some (eH l i).tail:=by
   unfold cut
   rw [if_pos (by rw [bU];simp only [List.length_cons];omega)]
   rw [bU];simp
  rw [cd ai,Option.bind_some,azk,Option.bind_some,auh,Option.bind_some,gf,nP,qi,nN,ai]
  rfl) (fun k=>by
   rw [yi]
   show cond (decide ((l.length:Int) <(l.length:Int))) _ _=_
   rw [cJ];rfl) (F:=F) (by omega)
 unfold H0
 rw [this]
 cases (List.range l.length).findSome? (fun i=>(l[i]?).bind fun c=>Df l c i) <;> rfl
theorem aFj (bV:1100 <F) (h:ic l):wz F l F 0 =some (dE ((List.range l.length).findSome? fun i=>(l[i]?).bind fun c=>Df l c i)):=by
 have hlen:=h.right.len
 exact kz _ (by omega) (fun k i hi=>by
  obtain ⟨c,ai⟩:∃ x,l[i]? =some x:=⟨l[i],List.getElem?_eq_getElem hi⟩
  have mE:=List.mem_of_getElem? ai
  have sk:=h.right.methods c mE
  obtain ⟨RQ,nw,xL⟩:=h.chain (n:=(i:Int)) (by omega) (by omega)
  obtain ⟨r,bU⟩:=Yb RQ (by omega)
  have aBr:(eH l i).reverse=(eH l i).tail.reverse++[(i:Int)]:=by rw [bU];simp
  have aEV:wA F l (i:Int) (eH l i).reverse F 0 =some (dE ((eH l i).tail.reverse.findSome? (tL l c))):=each (l:=(eH l i).tail.reverse) (tL l c) (by simp;omega) (fun k u x UL=>by
   have LU:=(List.getElem?_eq_some_iff.1 UL).1
   have a1:=xL x (List.mem_of_mem_tail (by simpa using List.mem_of_getElem? UL))
   obtain ⟨w,hw,_⟩:=vy (l:=l) a1.1 a1.2
   have adR:w ∈ l:=by obtain ⟨_,_,aU⟩:=ux hw;exact List.mem_of_getElem? aU
   have aKe:=h.right.methods w adR
   have hm:fJ l x=w.aR:=by unfold fJ;rw [hw];rfl
   have ad5:(eH l i).reverse[u]? =some x:=by rw [aBr,List.getElem?_append_left LU];exact UL
   have aEW:wB F l (i:Int) (eH l i).reverse (u:Int) F 0 =some (dE (tL l c x)):=each (l:=c.aR) (fun a=>(fJ l x).findSome? (pf a)) (by omega) (fun k j a bK=>by
    have aoG:=List.mem_of_getElem? bK
    have aEX:ti F l (i:Int) (eH l i).reverse (u:Int) (j:Int) F 0 =some (dE (w.aR.findSome? (pf a))):=each (l:=w.aR) (pf a) (by omega) (fun k q b a1=>by
     have RG:=List.mem_of_getElem? a1
     have aoD:=h.right.method c mE a aoG
     have ap_:=h.right.method w adR b RG
     rw [ti]
     simp only [cd ad5,Option.bind_some,hw,cK (List.getElem?_eq_some_iff.1 a1).1,cond_true,cd ai,cd bK,cd a1]
     rw [afW (by omega) (by omega) bV]
     unfold pf QG
     show cond _ (cond _ _ (Option.bind _ fun r=>cond (!r) _ (cond (!decide (a.Returns=b.Returns)) _ _))) _=_
     by_cases af:a.Name=b.Name
     · rw [decide_eq_true af]
       simp only [Option.bind_some,cond_true,Bool.true_and]
       cases a.Static <;> cases b.Static <;> cases decide (a.bD=b.bD) <;> cases decide (a.Returns=b.Returns) <;> rfl
     · rw [decide_eq_false af];rfl) (fun k=>by rw [ti];simp only [cd ad5,Option.bind_some,hw,cJ];rfl) (by omega)
    rw [wB,cd ai,Option.bind_some,cK (List.getElem?_eq_some_iff.1 bK).1,cond_true,aEX,nP,qi,nN,hm]) (fun k=>by rw [wB,cd ai,Option.bind_some,cJ];rfl) (by omega)
   have G5:decide ((u:Int) <ap (((eH l i).reverse.length:Int) - 1))=true:=by
    rw [dy (by omega) (by simp;omega)]
    simp only [List.length_reverse,List.length_tail] at LU
    exact decide_eq_true (by simp only [List.length_reverse];omega)
   rw [wA,G5,cond_true,aEW,nP,qi,nN]) (fun k=>by
    have G5:decide (((eH l i).tail.reverse.length:Int) <ap (((eH l i).reverse.length:Int) - 1))=false:=by
     rw [dy (by omega) (by simp;omega)]
     exact decide_eq_false (by rw [bU];simp)
    rw [wA,G5];rfl) (by simp;omega)
  rw [wz,cK hi,cond_true,NB bV h.right (by omega),Option.bind_some,aEV,nP,qi,nN,ai,akE (abM c)]
  rfl) (fun k=>by rw [wz,cJ];rfl) (by omega)
end
end J
namespace J
def wd (W:List Int) (i:Nat):Int:=(W[i]?).getD 0
def AZ (k:bw) (t:Int):List Field:=(k.Fields[(t - 3).toNat]?).getD []
def gC (k:bw) (t:Int):Bool:=decide (1 <=t) && decide (t<= 2 +k.aJ.length)
def isLen (k:bw) (t n:Int):Bool:=decide (0 <=n) && decide (n<= 500) && (decide (t < 3) || decide (n=(AZ k t).length))
def lQ (k:bw) (t:Int) (j:Nat):Bool:=decide (t= 2) || (decide (3 <=t) && ((AZ k t)[j]?.map fun f=>!decide (f.Kind.Kind= 1)).getD false)
structure hW (k:bw):Prop where
 QE:k.aJ.length<= 1000
 np:k.Fields.length=k.aJ.length
theorem lN {W:List Int} {i:Nat} (h:i <W.length):idx W (i:Int)=some (wd W i):=by
 rw [cd (List.getElem?_eq_getElem h)];unfold wd;rw [List.getElem?_eq_getElem h];rfl
theorem iE {W:List Int} {a:Int} {i:Nat} (e:a=(i:Int)) (h:i <W.length):idx W a=some (wd W i):=by rw [e];exact lN h
theorem aEO {k:bw} {t:Int}:gC k t=true ↔ 1 <=t/\t<= 2 +k.aJ.length:=by simp [gC]
theorem sw {k:bw} {t n:Int}:isLen k t n=true ↔ (0 <=n/\n<= 500)/\(t < 3 \/n=(AZ k t).length):=by simp [isLen]
section
variable {k:bw}
theorem X2 (h:hW k) (t:Int):q8 ⟨k⟩ t=some (gC k t):=by
 have hc:=h.QE
 unfold q8 nx gC
 have e:ap (ap (3 +(k.aJ.length:Int)) - 1)= 2 +k.aJ.length:=by rw [dy (n:=3 +(k.aJ.length:Int)) (by omega) (by omega),dy (by omega) (by omega)];omega
 simp only [e,Option.bind_some]
 by_cases aC:t= 1
 · subst aC;simp;omega
 by_cases aU:t= 2
 · subst aU;simp;omega
 rw [show ((decide (t= 1)) || (decide (t= 2)))=false by simp [aC,aU],cond_false,Option.some.injEq,Bool.eq_iff_iff]
 simp;omega
theorem Ny (h:hW k) {t:Int} (bA:gC k t=true) (bS: ¬ t < 3):idx k.Fields (ap (t - 3))=some (AZ k t):=by
 obtain ⟨aC,aU⟩:=aEO.1 bA
 have hc:=h.QE;have I:=h.np
 rw [dy (by omega) (by omega)]
 unfold idx AZ
 rw [if_pos (by omega)]
 have:(t - 3).toNat <k.Fields.length:=by omega
 rw [List.getElem?_eq_getElem this];rfl
theorem X3 (h:hW k) {t:Int} (bA:gC k t=true) (n:Int):q9 ⟨k⟩ t n=some (isLen k t n):=by
 unfold q9 nx isLen
 simp only [Option.bind_some]
 cases a1:(decide (0 <=n) && decide (n<= 500)) with
 | false=>simp
 | true=>
   by_cases bS:t < 3
   · simp [bS]
   · rw [Ny h bA bS];simp [bS]
theorem aGU (h:hW k) {t:Int} (bA:gC k t=true) {n:Int} (af:isLen k t n=true) {j:Nat} (bb:(j:Int) <n):xM ⟨k⟩ t (j:Int)=some (lQ k t j):=by
 unfold xM lQ
 obtain ⟨_,az⟩:=sw.1 af
 by_cases aU:t= 2
 · simp [aU]
 by_cases bS:t < 3
 · have: ¬ 3 <=t:=by omega
   simp [aU,this]
 · have az:=az.resolve_left bS
   have Q2:3 <=t:=by omega
   have Hc:j <(AZ k t).length:=by omega
   rw [Ny h bA bS,Option.bind_some,cd (List.getElem?_eq_getElem Hc),List.getElem?_eq_getElem Hc]
   simp [aU,Q2]
inductive gZ (k:bw) (W:List Int) (to:Nat):Nat->List Int->Prop
 | nil:gZ k W to to []
 | cons {q:Nat} {r:List Int}:gC k (wd W q)=true->isLen k (wd W q) (wd W (q+ 1))=true->q+ 3 +(wd W (q+ 1)).toNat<=to->gZ k W to (q+ 3 +(wd W (q+ 1)).toNat) r->gZ k W to q ((q:Int)::r)
theorem gZ.inv {W:List Int} {to q:Nat} {L:List Int} (h:gZ k W to q L) (en:q <to):∃ r,L=(q:Int)::r/\gC k (wd W q)=true/\isLen k (wd W q) (wd W (q+ 1))=true/\q+ 3 +(wd W (q+ 1)).toNat<=to/\gZ k W to (q+ 3 +(wd W (q+ 1)).toNat) r:=by
 cases h with
 | nil=>omega
 | cons aC aU bS ew=>exact ⟨_,rfl,aC,aU,bS,ew⟩
theorem aG2 (v:cm) (a5:hW v.S.K) {to:Nat} (At:to<=v.H.Words.length) (jl:v.H.Words.length<= 5000):∀ (f q:Nat) (acc:List Int) (m:List (Int × Bool)),q<=to->to - q <f->acc.length+(to - q)<= 5000 ->(∀ p ∈ m,p.1 <(q:Int)) ->
 (∃ L,gZ v.S.K v.H.Words to q L/\q_ (to:Int) v f acc m (q:Int)=some (.go (acc++L,m++L.map fun a=>(a,true)))) \/
 ((∀ L,¬ gZ v.S.K v.H.Words to q L)/\ ∃ h2,q_ (to:Int) v f acc m (q:Int)=some (.out ([],false,{ v with c9:=h2 }))):=by
 intro f
 induction f with
 | zero=>intro q acc m _ h;omega
 | succ f cv=>
   intro q acc m en I tY hm
   rw [q_]
   by_cases eh:q <to
   case neg=>
    have:q=to:=by omega
    subst this
    refine .inl ⟨[],.nil,?_⟩
    rw [cJ];simp
   rw [cK eh,cond_true,dy (n:=(q:Int)+ 3) (by omega) (by omega)]
   by_cases bS:(to:Int) <(q:Int)+ 3
   · rw [decide_eq_true bS]
     refine .inr ⟨fun L hz=>?_,m,rfl⟩
     obtain ⟨_,_,_,_,h,_⟩:=hz.inv eh
     omega
   rw [decide_eq_false bS,cond_false,lN (by omega),Option.bind_some,dy (n:=(q:Int)+ 1) (by omega) (by omega),iE (i:=q+ 1) (by omega) (by omega),Option.bind_some]
   have bO:q8 (⟨(⟨v.S.K.aJ,v.S.K.aG,v.S.K.Fields,v.S.K.Names,v.S.K.aE⟩:bw)⟩:dq) (wd v.H.Words q)=some (gC v.S.K (wd v.H.Words q)):=X2 a5 _
   rw [bO,Option.bind_some]
   cases bA:gC v.S.K (wd v.H.Words q) with
   | false=>
     refine .inr ⟨fun L hz=>?_,m,rfl⟩
     obtain ⟨_,_,h,_⟩:=hz.inv eh
     rw [bA] at h;cases h
   | true=>
     have b4:q9 (⟨(⟨v.S.K.aJ,v.S.K.aG,v.S.K.Fields,v.S.K.Names,v.S.K.aE⟩:bw)⟩:dq) (wd v.H.Words q) (wd v.H.Words (q+ 1))=some (isLen v.S.K (wd v.H.Words q) (wd v.H.Words (q+ 1))):=X3 a5 bA _
     rw [b4,Option.bind_some,Bool.not_true,cond_false]
     cases az:isLen v.S.K (wd v.H.Words q) (wd v.H.Words (q+ 1)) with
     | false=>
       refine .inr ⟨fun L hz=>?_,m,rfl⟩
       obtain ⟨_,_,_,h,_⟩:=hz.inv eh
       rw [az] at h;cases h
     | true=>
       obtain ⟨⟨yb,l1⟩,_⟩:=sw.1 az
       rw [Bool.not_true,Bool.false_or,dy (n:=(q:Int)+ 3 +wd v.H.Words (q+ 1)) (by omega) (by omega)]
       by_cases uj:(to:Int) <(q:Int)+ 3 +wd v.H.Words (q+ 1)
       · rw [decide_eq_true uj]
         refine .inr ⟨fun L hz=>?_,m,rfl⟩
         obtain ⟨_,_,_,_,h,_⟩:=hz.inv eh
         omega
       rw [decide_eq_false uj,cond_false,iv (by simp;omega),Option.bind_some,dy (n:=3 +wd v.H.Words (q+ 1)) (by omega) (by omega),dy (n:=(q:Int)+(3 +wd v.H.Words (q+ 1))) (by omega) (by omega)]
       have Al:dv m (q:Int)=none:=by
        clear cv bO b4
        induction m with
        | nil=>rfl
        | cons p r cv=>
          have b3:=hm p List.mem_cons_self
          rw [dv,if_neg (by omega)]
          exact cv (fun x ai=>hm x (List.mem_cons_of_mem _ ai))
       rw [WK Al,show (q:Int)+(3 +wd v.H.Words (q+ 1))=((q+ 3 +(wd v.H.Words (q+ 1)).toNat:Nat):Int) by omega]
       rcases cv (q+ 3 +(wd v.H.Words (q+ 1)).toNat) (acc++[(q:Int)]) (m++[((q:Int),true)]) (by omega) (by omega) (by simp;omega) (fun p b3=>by
        rcases List.mem_append.1 b3 with b3 | b3
        · have:=hm p b3;omega
        · simp at b3;subst b3;simp;omega) with ⟨L,hz,e⟩ | ⟨af,h2,e⟩
       · refine .inl ⟨(q:Int)::L,.cons bA az (by omega) hz,?_⟩
         rw [e];simp
       · refine .inr ⟨fun L hz=>?_,h2,e⟩
         obtain ⟨r,_,_,_,_,h⟩:=hz.inv eh
         exact af r h
theorem af8 {F:Nat} (bV:6000 <F) (v:cm) (a5:hW v.S.K) {q to:Nat} (en:q<=to) (At:to<=v.H.Words.length) (jl:v.H.Words.length<= 5000) (hm:∀ p ∈ v.c9,p.1 <(q:Int)) :
 (∃ L,gZ v.S.K v.H.Words to q L/\mF F v (q:Int) (to:Int)=some (L,true,{ v with c9:=v.c9++L.map fun a=>(a,true) })) \/
 ((∀ L,¬ gZ v.S.K v.H.Words to q L)/\ ∃ h2,mF F v (q:Int) (to:Int)=some ([],false,{ v with c9:=h2 })):=by
 unfold mF
 rcases aG2 v a5 At jl F q [] v.c9 en (by omega) (by simp;omega) hm with ⟨L,hz,e⟩ | ⟨af,h2,e⟩
 · exact .inl ⟨L,hz,by rw [e,qh];simp⟩
 · exact .inr ⟨af,h2,by rw [e,afY]⟩
end
end J
namespace J
def refs (k:bw) (W:List Int) (q:Nat):List Int:=(List.range (wd W (q+ 1)).toNat).flatMap fun j=>if lQ k (wd W q) j then [((q+ 3 +j:Nat):Int)] else []
theorem WH {k:bw} {W:List Int} {q:Nat} {x:Int}:x ∈ refs k W q ↔ ∃ j,j <(wd W (q+ 1)).toNat/\lQ k (wd W q) j=true/\x=((q+ 3 +j:Nat):Int):=by
 unfold refs
 rw [List.mem_flatMap]
 constructor
 · rintro ⟨j,bb,ai⟩
   split at ai
   · rename_i h;exact ⟨j,by simpa using bb,h,by simpa using ai⟩
   · cases ai
 · rintro ⟨j,bb,h,e⟩
   exact ⟨j,by simpa using bb,by rw [if_pos h,e];simp⟩
section
variable {F:Nat} {k:bw}
theorem aGv (bV:6000 <F) (v:cm) (a5:hW v.S.K) {q:Nat} (en:q+ 3 +(wd v.H.Words (q+ 1)).toNat<=v.H.Words.length) (jl:v.H.Words.length<= 5000) (bA:gC v.S.K (wd v.H.Words q)=true) (az:isLen v.S.K (wd v.H.Words q) (wd v.H.Words (q+ 1))=true) :
 pk F v (q:Int)=some (refs v.S.K v.H.Words q):=by
 obtain ⟨⟨yb,l1⟩,_⟩:=sw.1 az
 unfold pk
 rw [dy (n:=(q:Int)+ 1) (by omega) (by omega),iE (i:=q+ 1) (by omega) (by omega),Option.bind_some]
 generalize af:(wd v.H.Words (q+ 1)).toNat=n at en
 have FQ:wd v.H.Words (q+ 1)=(n:Int):=by omega
 have pr:=az
 rw [FQ] at pr ⊢
 have l1:=tt (l:=List.range n) (fun k acc i=>sq (q:Int) v (n:Int) k acc (i:Int)) (fun j=>if lQ v.S.K (wd v.H.Words q) j then [((q+ 3 +j:Nat):Int)] else []) 1 5000 (fun x _=>by split <;> simp) (fun f i x acc ai bK=>by
  have hi:i <n:=by have:=(List.getElem?_eq_some_iff.1 ai).1;simpa using this
  rw [List.getElem?_range hi] at ai
  simp only [Option.some.injEq] at ai
  subst ai
  rw [sq,cK hi,cond_true,lN (by omega),Option.bind_some]
  have bO:xM (⟨(⟨v.S.K.aJ,v.S.K.aG,v.S.K.Fields,v.S.K.Names,v.S.K.aE⟩:bw)⟩:dq) (wd v.H.Words q) (i:Int)=some (lQ v.S.K (wd v.H.Words q) i):=aGU a5 bA pr (by omega)
  rw [bO,Option.bind_some]
  show _=sq (q:Int) v (n:Int) f _ _
  cases lQ v.S.K (wd v.H.Words q) i with
  | true=>
    rw [cond_true,dy (n:=(q:Int)+ 3) (by omega) (by omega),dy (n:=(q:Int)+ 3 +i) (by omega) (by omega),iv (by simp;omega),Option.bind_some,Option.bind_some,gS hi (by omega),if_pos rfl]
    congr 2
  | false=>
    rw [cond_false,Option.bind_some,gS hi (by omega),if_neg (by decide),List.append_nil]) (fun f acc=>by
  rw [List.length_range,sq,cJ];rfl) (F:=F) (by simp;omega) (acc:=[]) (by simp;omega)
 have l1:sq (q:Int) v (n:Int) F [] 0 =_:=l1
 rw [l1,Option.bind_some,List.nil_append,refs,af]
theorem abO (bV:10000 <F) {gO:List (List Int)} (aC:gO.length<= 10) (aU:gO.flatten.length<= 10000):DI F gO=some gO.flatten:=by
 unfold DI
 have aET:∀ (d i f:Nat) (n:Int),i+d=gO.length->d <f-> 0 <=n->n+(gO.drop i).flatten.length<= 10000 ->vv gO f n (i:Int)=some (n+(gO.drop i).flatten.length):=by
  intro d
  induction d with
  | zero=>
    intro i f n h I af _
    obtain ⟨f,rfl⟩:∃ e4,f=e4+ 1 :=⟨f - 1,by omega⟩
    have:i=gO.length:=by omega
    subst this
    rw [vv,cJ];simp
  | succ d cv=>
    intro i f n h I af a1
    obtain ⟨f,rfl⟩:∃ e4,f=e4+ 1 :=⟨f - 1,by omega⟩
    have hi:i <gO.length:=by omega
    rw [List.drop_eq_getElem_cons hi] at a1
    simp only [List.flatten_cons,List.length_append] at a1
    rw [vv,cK hi,cond_true,cd (List.getElem?_eq_getElem hi),Option.bind_some,dy (n:=n+((gO[i]).length:Int)) (by omega) (by omega),show decide (n+((gO[i]).length:Int) < 0)=false from decide_eq_false (by omega),cond_false,Option.bind_some,gS hi (by omega),cv (i+ 1) f _ (by omega) (by omega) (by omega) (by omega),List.drop_eq_getElem_cons hi]
    simp only [List.flatten_cons,List.length_append]
    congr 1;omega
 have jo:=aET gO.length 0 F 0 (by omega) (by omega) (by omega) (by simp at aU ⊢;omega)
 have jo:vv gO F 0 0 =some (0 +((gO.drop 0).flatten.length:Int)):=jo
 rw [jo,Option.bind_some,List.drop_zero,Int.zero_add]
 have k7:IF (gO.flatten.length:Int)=some []:=by
  unfold IF
  rw [show decide ((gO.flatten.length:Int) < 0)=false from decide_eq_false (by omega),cond_false,Option.bind_some,dy (n:=(gO.flatten.length:Int) - 0) (by omega) (by omega),Int.sub_zero]
  by_cases bE:(0 :Int) <(gO.flatten.length:Int)
  · rw [decide_eq_true bE,cond_true]
    unfold E1
    rw [if_pos ⟨bE,by omega⟩];rfl
  · rw [decide_eq_false bE];rfl
 rw [k7,Option.bind_some]
 have aEU:∀ (d i f:Nat) (acc:List Int),i+d=gO.length->d <f->acc.length+(gO.drop i).flatten.length<= 10000 ->vw gO f acc (i:Int)=some (acc++(gO.drop i).flatten):=by
  intro d
  induction d with
  | zero=>
    intro i f n h I af
    obtain ⟨f,rfl⟩:∃ e4,f=e4+ 1 :=⟨f - 1,by omega⟩
    have:i=gO.length:=by omega
    subst this
    rw [vw,cJ];simp
  | succ d cv=>
    intro i f acc h I a1
    obtain ⟨f,rfl⟩:∃ e4,f=e4+ 1 :=⟨f - 1,by omega⟩
    have hi:i <gO.length:=by omega
    rw [List.drop_eq_getElem_cons hi] at a1
    simp only [List.flatten_cons,List.length_append] at a1
    rw [vw,cK hi,cond_true,cd (List.getElem?_eq_getElem hi),Option.bind_some,iv (by omega),Option.bind_some,gS hi (by omega),cv (i+ 1) f _ (by omega) (by omega) (by simp only [List.length_append];omega),List.drop_eq_getElem_cons hi,List.flatten_cons,List.append_assoc]
 have k7:=aEU gO.length 0 F [] (by omega) (by omega) (by simp at aU ⊢;omega)
 have k7:vw gO F [] 0 =some ([]++(gO.drop 0).flatten):=k7
 rw [k7];simp
theorem all_eq (bV:10000 <F) (v:cm) (h:v.ar.length+v.aA.length<= 10000):xN F v=some (v.ar++v.aA):=by
 unfold xN
 rw [abO bV (by simp) (by simp;omega)]
 simp
def a5 (W:List Int) (a:Int):Int:=wd W (a.toNat+ 2)
def yB (l:List Int) (m:List (Int × Bool)):List (Int × Bool):=l.foldl (fun m x=>hI m x true) m
theorem afv:∀ (l:List Int) (m:List (Int × Bool)),(yB l m).length<=m.length+l.length/\((yB l m).length=m.length+l.length ↔ l.Nodup/\ ∀ x ∈ l,(dv m x).isSome=false)
 | [],m=>by simp [yB]
 | x::r,m=>by
   have cv:=afv r (hI m x true)
   have e:yB (x::r) m=yB r (hI m x true):=rfl
   rw [e]
   have az:=MB (k:=x) (v:=true) m
   rw [List.length_cons]
   cases ai:(dv m x).isSome with
   | true=>
     rw [ai,if_pos rfl] at az
     rw [az] at cv
     refine ⟨by omega,⟨fun h=>by omega,fun h=>?_⟩⟩
     have:=h.2 x List.mem_cons_self
     rw [ai] at this;cases this
   | false=>
     rw [ai,if_neg (by decide)] at az
     rw [az] at cv
     refine ⟨by omega,?_⟩
     rw [show m.length+(r.length+ 1)=m.length+ 1 +r.length by omega,cv.2,List.nodup_cons]
     constructor
     · rintro ⟨aC,aU⟩
       refine ⟨⟨fun hm=>?_,aC⟩,fun y hy=>?_⟩
       · have:=aU x hm
         have bS:=(H9 (k:=x) (s:=x) (v:=true) m).2 (.inl rfl)
         rw [this] at bS;cases bS
       · rcases List.mem_cons.1 hy with rfl | hy
         · exact ai
         · cases c0:(dv m y).isSome with
           | false=>rfl
           | true=>
             have bS:=(H9 (k:=x) (s:=y) (v:=true) m).2 (.inr c0)
             rw [aU y hy] at bS;cases bS
     · rintro ⟨⟨aC,aU⟩,bS⟩
       refine ⟨aU,fun y hy=>?_⟩
       cases c0:(dv (hI m x true) y).isSome with
       | false=>rfl
       | true=>
         rcases (H9 (k:=x) (s:=y) (v:=true) m).1 c0 with e | e
         · subst e;exact absurd hy aC
         · rw [bS y (List.mem_cons_of_mem _ hy)] at e;cases e
def lK (v:cm) (a:Int):Bool:=decide (a5 v.H.Words a < 1) || decide (v.H.Next<=a5 v.H.Words a)
theorem aoJ (v:cm) (r:List Int) (bU:r.length<= 10000) (a1:∀ a ∈ r,0 <=a/\a.toNat+ 3 <=v.H.Words.length) (jl:v.H.Words.length<= 5000):∀ (d i f:Nat) (m:List (Int × Bool)),i+d=r.length->d <f ->
 ug v r f m (i:Int)=if (r.drop i).any (lK v) then some (.out 3) else some (.go (yB ((r.drop i).map (a5 v.H.Words)) m)):=by
 intro d
 induction d with
 | zero=>
   intro i f m h I
   obtain ⟨f,rfl⟩:∃ e4,f=e4+ 1 :=⟨f - 1,by omega⟩
   have:i=r.length:=by omega
   subst this
   rw [ug,cJ];simp [yB]
 | succ d cv=>
   intro i f m h I
   obtain ⟨f,rfl⟩:∃ e4,f=e4+ 1 :=⟨f - 1,by omega⟩
   have hi:i <r.length:=by omega
   obtain ⟨bE,aC⟩:=a1 r[i] (List.getElem_mem hi)
   rw [ug,cK hi,cond_true,cd (List.getElem?_eq_getElem hi),Option.bind_some,dy (n:=r[i]+ 2) (by omega) (by omega),iE (i:=(r[i]).toNat+ 2) (by omega) (by omega),Option.bind_some,List.drop_eq_getElem_cons hi,List.any_cons]
   show cond (lK v r[i]) _ _=_
   cases lK v r[i] with
   | true=>rfl
   | false=>
     rw [cond_false,gS hi (by omega),cv (i+ 1) f _ (by omega) (by omega),Bool.false_or]
     rfl
theorem aoI (bV:10000 <F) (v:cm) (h:v.ar.length+v.aA.length<= 5000) (a1:∀ a ∈ v.ar++v.aA,0 <=a/\a.toNat+ 3 <=v.H.Words.length) (jl:v.H.Words.length<= 5000) (ads:v.c9.length=(v.ar++v.aA).length) :
 CM F v=some (if (v.ar++v.aA).any (lK v) then 3 else if ((v.ar++v.aA).map (a5 v.H.Words)).Nodup then 0 else 6):=by
 unfold CM
 have e:xN F (⟨(⟨v.H.Words,v.H.ar,v.H.aA,v.H.aO,v.H.aM,v.H.ay,v.H.Next⟩:bs),(⟨(⟨v.S.K.aJ,v.S.K.aG,v.S.K.Fields,v.S.K.Names,v.S.K.aE⟩:bw)⟩:dq),v.ar,v.aA,v.c9⟩:cm)=some (v.ar++v.aA):=all_eq bV v (by omega)
 rw [e,Option.bind_some]
 have l1:=aoJ v (v.ar++v.aA) (by simp;omega) a1 jl (v.ar++v.aA).length 0 F [] (by omega) (by simp;omega)
 have l1:ug v (v.ar++v.aA) F [] 0 =_:=l1
 rw [l1,List.drop_zero]
 cases (v.ar++v.aA).any (lK v) with
 | true=>rfl
 | false=>
   rw [if_neg (by decide),if_neg (by decide),qh]
   obtain ⟨hl,l3⟩:=afv ((v.ar++v.aA).map (a5 v.H.Words)) []
   rw [List.length_map,List.length_nil,Nat.zero_add] at hl l3
   by_cases af:((v.ar++v.aA).map (a5 v.H.Words)).Nodup
   · rw [if_pos af]
     have:=l3.2 ⟨af,fun _ _=>rfl⟩
     rw [decide_eq_false (by rw [this,ads];omega)];rfl
   · rw [if_neg af]
     have:(yB ((v.ar++v.aA).map (a5 v.H.Words)) []).length≠(v.ar++v.aA).length:=fun e=>af (l3.1 e).1
     rw [decide_eq_true (by rw [ads];omega)];rfl
end
end J
namespace J
def zn (l:List Int):Prop:=∀ a b,a <b->b <l.length->wd l a <wd l b
theorem X6 {l:List Int} (h:∀ i,i+ 1 <l.length->wd l i <wd l (i+ 1)):zn l:=by
 intro a b Lq
 induction b with
 | zero=>omega
 | succ b cv=>
   intro a1
   by_cases e:a=b
   · subst e;exact h a a1
   · exact Int.lt_trans (cv (by omega) (by omega)) (h b a1)
theorem Yj {l:List Int} {i:Nat} (h:i <l.length):wd l i ∈ l:=by unfold wd;rw [List.getElem?_eq_getElem h];exact List.getElem_mem h
theorem rN {l:List Int} {i:Nat} {x:Int} (h:l[i]? =some x):wd l i=x:=by unfold wd;rw [h];rfl
theorem WI {l:List Int} {x:Int} (h:x ∈ l):∃ i,i <l.length/\wd l i=x:=by
 obtain ⟨i,hi,e⟩:=List.getElem_of_mem h
 exact ⟨i,hi,rN (by rw [List.getElem?_eq_getElem hi,e])⟩
theorem afu {α:Type} {p:α->Bool}:∀ {l:List α},(fq p l).isSome=l.any p
 | []=>rfl
 | x::r=>by
   rw [fq,List.any_cons]
   cases h:p x with
   | true=>rfl
   | false=>simp only [Bool.false_eq_true,if_false,Bool.false_or];rw [<-afu (l:=r)];cases fq p r <;> rfl
theorem acm {α:Type} {l:List α} {L:Nat->Int->Option (Way Int Unit)} (p:α->Bool) (az:l.length<= 140737488355328)
 (a5:∀ k (i:Nat) x,l[i]? =some x->L (k+ 1) (i:Int)=cond (p x) (some (.out (i:Int))) (L k (ap ((i:Int)+ 1))))
 (he:∀ k,L (k+ 1) (l.length:Int)=some (.go ())) {F:Nat} (bV:l.length <F):((dw (α:=Unit) (L F 0) fun (_:Unit)=>some (-1)).bind fun r=>some (decide ((0 :Int)<=r)))=some (l.any p):=by
 rw [QR p (fun n:Nat=>(n:Int)) az a5 he bV,<-afu]
 cases fq p l with
 | none=>rfl
 | some i=>
   show some (decide ((0 :Int)<=(i:Int)))=_
   rw [decide_eq_true (by omega)];rfl
section
variable {F:Nat}
theorem aGS {l:List Int} (az:l.length<= 10000) (t:Int):∀ (f i j:Nat),i<=j->j<=l.length->j - i <f->(∀ a,a <i->wd l a <t)->(∀ a,j<=a->a <l.length->t<=wd l a)->zn l ->
 ∃ p:Nat,sS t l f (i:Int) (j:Int)=some (p:Int)/\p<=l.length/\(∀ a,a <p->wd l a <t)/\(∀ a,p<=a->a <l.length->t<=wd l a):=by
 intro f
 induction f with
 | zero=>intro i j _ _ h;omega
 | succ f cv=>
   intro i j Lx bb I aC aU a5
   rw [sS]
   by_cases h:i <j
   case neg=>
    have:i=j:=by omega
    subst this
    rw [cJ]
    exact ⟨i,rfl,bb,aC,aU⟩
   have em:ap (nO (nT (ap ((i:Int)+(j:Int)))) 1)=(((i+j) / 2 :Nat):Int):=by
    rw [dy (n:=(i:Int)+j) (by omega) (by omega)]
    unfold nT nO
    rw [dy (by omega) (by omega)]
    omega
   have hm:(i+j) / 2 <j:=by omega
   have gB:i<=(i+j) / 2 :=by omega
   rw [cK h,cond_true,em,lN (by omega),Option.bind_some]
   unfold K2 FO
   rw [Option.bind_some,show (!decide (wd l ((i+j) / 2)=wd l ((i+j) / 2)))=false by simp,cond_false,Option.bind_some]
   by_cases hc:wd l ((i+j) / 2) <t
   · rw [decide_eq_true hc,cond_true,Option.bind_some]
     show ∃ p:Nat,sS t l f (ap ((((i+j) / 2 :Nat):Int)+ 1)) (j:Int)=_/\_
     rw [dy (n:=(((i+j) / 2 :Nat):Int)+ 1) (by omega) (by omega),show (((i+j) / 2 :Nat):Int)+ 1 =(((i+j) / 2 + 1 :Nat):Int) by omega]
     refine cv ((i+j) / 2 + 1) j (by omega) bb (by omega) (fun a bK=>?_) aU a5
     by_cases e:a=(i+j) / 2
     · subst e;exact hc
     · exact Int.lt_trans (a5 a ((i+j) / 2) (by omega) (by omega)) hc
   · rw [decide_eq_false hc,cond_false,Option.bind_some]
     show ∃ p:Nat,sS t l f (i:Int) (((i+j) / 2 :Nat):Int)=_/\_
     refine cv i ((i+j) / 2) (by omega) (by omega) (by omega) aC (fun a bK a1=>?_) a5
     by_cases e:a=(i+j) / 2
     · subst e;omega
     · have:=a5 ((i+j) / 2) a (by omega) a1
       omega
theorem aGR (bV:10000 <F) {l:List Int} (az:l.length<= 10000) (a5:zn l) (t:Int) :
 ∃ p:Nat,DH F l t=some ((p:Int),decide (t ∈ l))/\p<=l.length/\(∀ a,a <p->wd l a <t)/\(∀ a,p<=a->a <l.length->t<=wd l a):=by
 obtain ⟨p,e,b3,aC,aU⟩:=aGS az t F 0 l.length (by omega) (Nat.le_refl _) (by omega) (fun a bK=>by omega) (fun a bK a1=>by omega) a5
 refine ⟨p,?_,b3,aC,aU⟩
 unfold DH
 have e:sS t l F 0 (l.length:Int)=some (p:Int):=e
 rw [e,Option.bind_some]
 by_cases eh:p <l.length
 · rw [cK eh,cond_true,lN eh,Option.bind_some]
   by_cases bA:wd l p=t
   · rw [decide_eq_true bA,cond_true,decide_eq_true (bA ▸ Yj eh)]
   · have af: ¬ t ∈ l:=fun hm=>by
      obtain ⟨a,bK,ab7⟩:=WI hm
      by_cases Rm:a <p
      · have:=aC a Rm;omega
      · have bS:=aU p (Nat.le_refl _) eh
        by_cases e:a=p
        · subst e;exact bA ab7
        · have:=a5 p a (by omega) bK;omega
     rw [decide_eq_false bA,cond_false,Option.bind_some,decide_eq_false af]
     unfold IH
     rw [Option.bind_some,show (!decide (wd l p=wd l p))=false by simp,cond_false]
 · have:p=l.length:=by omega
   subst this
   have af: ¬ t ∈ l:=fun hm=>by
    obtain ⟨a,bK,ab7⟩:=WI hm
    have:=aC a bK;omega
   rw [cJ,cond_false,decide_eq_false af]
structure qK (v:cm) (a:Int):Prop where
 pos:0 <=a
 fit:a.toNat+ 3 +(wd v.H.Words (a.toNat+ 1)).toNat<=v.H.Words.length
 tag:gC v.S.K (wd v.H.Words a.toNat)=true
 len:isLen v.S.K (wd v.H.Words a.toNat) (wd v.H.Words (a.toNat+ 1))=true
structure n_ (v:cm):Prop where
 vu:hW v.S.K
 kt:v.H.Words.length<= 4900
 tM:v.ar.length+v.aA.length<= 5000
 rJ:∀ a ∈ v.ar++v.aA,qK v a
 c9:∀ x,(dv v.c9 x).getD false=decide (x ∈ v.ar++v.aA)
theorem qK.XX {v:cm} {a:Int} (ad:n_ v) (h:qK v a) (bV:6000 <F):pk F v a=some (refs v.S.K v.H.Words a.toNat):=by
 have:=aGv bV v ad.vu h.fit (by have:=ad.kt;omega) h.tag h.len
 rwa [show ((a.toNat:Nat):Int)=a by have:=h.pos;omega] at this
theorem qK.Nd {v:cm} {a w:Int} (h:qK v a) (hw:w ∈ refs v.S.K v.H.Words a.toNat):idx v.H.Words w=some (wd v.H.Words w.toNat):=by
 obtain ⟨j,bb,_,e⟩:=WH.1 hw
 have:=h.fit
 subst e
 exact lN (by omega)
theorem Nf {v:cm} {a:Int} (ad:n_ v) (h:qK v a):(refs v.S.K v.H.Words a.toNat).length<= 5000 :=by
 have:(refs v.S.K v.H.Words a.toNat).length<= 1 *(List.range (wd v.H.Words (a.toNat+ 1)).toNat).length:=xD fun x _=>by split <;> simp
 have aC:=h.fit;have aU:=ad.kt
 rw [List.length_range] at this
 omega
def sV (v:cm) (w:Int):Bool:=!decide (wd v.H.Words w.toNat= 0) && !decide (wd v.H.Words w.toNat ∈ v.ar++v.aA)
def nJ (v:cm) (a:Int):Bool:=(refs v.S.K v.H.Words a.toNat).any (sV v)
def free (h:bs):List Int:=h.Words.take 1 ++((h.Words.take (h.ar+ 1).toNat).drop h.aO.toNat++h.Words.drop h.aM.toNat)
theorem nq {α:Type} {p:α->Bool} {e:Int}:∀ l:List α,l.findSome? (fun x=>if p x then some e else none)=if l.any p then some e else none
 | []=>rfl
 | x::r=>by
   rw [List.findSome?_cons,List.any_cons]
   cases p x with
   | true=>rfl
   | false=>simp only [Bool.false_eq_true,if_false,Bool.false_or];exact nq r
theorem aHq (bV:10000 <F) {v:cm} (ad:n_ v) (bE:0 <=v.H.ar) (aC:0 <=v.H.aO/\v.H.aO<=v.H.ar+ 1 /\v.H.ar+ 1 <=v.H.Words.length) (aU:0 <=v.H.aM/\v.H.aM<=v.H.Words.length) :
 CO F v=some (if (v.ar++v.aA).any (nJ v) then 5 else if (free v.H).any (fun x=>!decide (x= 0)) then 1 else 0):=by
 have hc:=ad.tM;have hw:=ad.kt
 unfold CO
 have e:xN F (⟨(⟨v.H.Words,v.H.ar,v.H.aA,v.H.aO,v.H.aM,v.H.ay,v.H.Next⟩:bs),(⟨(⟨v.S.K.aJ,v.S.K.aG,v.S.K.Fields,v.S.K.Names,v.S.K.aE⟩:bw)⟩:dq),v.ar,v.aA,v.c9⟩:cm)=some (v.ar++v.aA):=all_eq bV v (by omega)
 rw [e,Option.bind_some]
 have l1:xO F v (v.ar++v.aA) F 0 =some (dE ((v.ar++v.aA).findSome? fun a=>if nJ v a then some 5 else none)):=each _ (by simp;omega) (fun f i a bK=>by
  have hm:=List.mem_of_getElem? bK
  have bA:=ad.rJ a hm
  rw [xO,cK (List.getElem?_eq_some_iff.1 bK).1,cond_true,cd bK,Option.bind_some]
  have b4:pk F (⟨(⟨v.H.Words,v.H.ar,v.H.aA,v.H.aO,v.H.aM,v.H.ay,v.H.Next⟩:bs),(⟨(⟨v.S.K.aJ,v.S.K.aG,v.S.K.Fields,v.S.K.Names,v.S.K.aE⟩:bw)⟩:dq),v.ar,v.aA,v.c9⟩:cm) a=some (refs v.S.K v.H.Words a.toNat):=bA.XX ad (by omega)
  have Uw:=Nf ad bA
  rw [b4,Option.bind_some]
  have gf:ui v (refs v.S.K v.H.Words a.toNat) F 0 =some (dE ((refs v.S.K v.H.Words a.toNat).findSome? fun w=>if sV v w then some 5 else none)):=each _ (by omega) (fun e4 Av w hg=>by
   have gB:=List.mem_of_getElem? hg
   rw [ui,cK (List.getElem?_eq_some_iff.1 hg).1,cond_true,cd hg,Option.bind_some,bA.Nd gB,Option.bind_some,ad.c9]
   unfold sV
   cases decide (wd v.H.Words w.toNat= 0) <;> cases decide (wd v.H.Words w.toNat ∈ v.ar++v.aA) <;> rfl) (fun e4=>by rw [ui,cJ];rfl) (by omega)
  rw [gf,nq]
  show _=hJ (if (refs v.S.K v.H.Words a.toNat).any (sV v) then some 5 else none) _
  cases (refs v.S.K v.H.Words a.toNat).any (sV v) <;> rfl) (fun f=>by rw [xO,cJ];rfl) (by simp;omega)
 rw [l1,nq]
 cases (v.ar++v.aA).any (nJ v) with
 | true=>rfl
 | false=>
   simp only [Bool.false_eq_true,if_false,dE,qh]
   have eb:cut v.H.Words 0 1 =some (v.H.Words.take 1):=by
    unfold cut;rw [if_pos ⟨by omega,by omega,by omega⟩];rfl
   have eg:cut v.H.Words v.H.aO (ap (v.H.ar+ 1))=some ((v.H.Words.take (v.H.ar+ 1).toNat).drop v.H.aO.toNat):=by
    rw [dy (by omega) (by omega)]
    unfold cut;rw [if_pos ⟨by omega,by omega,by omega⟩]
   have fH:cut v.H.Words v.H.aM (v.H.Words.length:Int)=some (v.H.Words.drop v.H.aM.toNat):=by
    unfold cut;rw [if_pos ⟨by omega,by omega,by omega⟩,Int.toNat_natCast,List.take_length]
   have adj:(free v.H).length<= 10000 :=by unfold free;simp;omega
   rw [eb,eg,fH,Option.bind_some,Option.bind_some,Option.bind_some,abO bV (by simp) (by simp;omega),Option.bind_some]
   have aka:[v.H.Words.take 1,(v.H.Words.take (v.H.ar+ 1).toNat).drop v.H.aO.toNat,v.H.Words.drop v.H.aM.toNat].flatten=free v.H:=by simp [free]
   rw [aka]
   unfold Ns Nu
   rw [acm (l:=free v.H) (L:=yR (free v.H)) (fun x=>!decide (x= 0)) (by omega) (fun f i x ai=>by
    rw [yR,cK (List.getElem?_eq_some_iff.1 ai).1,cond_true,cd ai,Option.bind_some]
    rfl) (fun f=>by rw [yR,cJ];rfl) (by omega),Option.bind_some]
   cases (free v.H).any (fun x=>!decide (x= 0)) <;> rfl
def kd (v:cm) (x:Int):Bool:=decide (0 <x) && decide (x<=v.H.ar)
def ry (v:cm) (x:Int):Bool:=!decide (x ∈ v.ar++v.aA) || kd v x || (refs v.S.K v.H.Words x.toNat).isEmpty
def jt (v:cm) (i:Nat):Bool:=(decide (0 <i) && decide (wd v.H.ay i<=wd v.H.ay (i - 1))) || ry v (wd v.H.ay i)
def pb (v:cm) (x:Int):Bool:=!decide (x ∈ v.H.ay) && (refs v.S.K v.H.Words x.toNat).any fun w=>kd v (wd v.H.Words w.toNat)
theorem aFx (bV:10000 <F) {v:cm} (ad:n_ v) (x:Int) (Y:Option (Way Int Unit)):(cond (!((dv v.c9 x).getD false)) (some (.out 4)) ((CL v x).bind fun Du=>
 cond (Du) (some (.out 4)) ((pk F v x).bind fun Il=>
 cond (decide ((Il.length:Int)= 0)) (some (.out 4)) Y)))=hJ (if ry v x then some 4 else none) Y:=by
 rw [ad.c9]
 unfold ry
 by_cases hm:x ∈ v.ar++v.aA
 · rw [decide_eq_true hm,(ad.rJ x hm).XX ad (by omega)]
   show cond (kd v x) _ ((some _).bind _)=_
   cases kd v x with
   | true=>rfl
   | false=>
     rw [cond_false,Option.bind_some]
     cases refs v.S.K v.H.Words x.toNat with
     | nil=>rfl
     | cons a r=>rw [decide_eq_false (by simp;omega)];rfl
 · rw [decide_eq_false hm];rfl
theorem aFw (bV:10000 <F) {v:cm} (ad:n_ v) (af:v.H.ay.length<= 140737488355328) (Ak:v.H.ay.length <F) (aBv:(∀ i,i <v.H.ay.length->jt v i=false)->v.H.ay.length<= 10000) :
 CN F v=some (if (List.range v.H.ay.length).any (jt v) || v.aA.any (pb v) then 4 else 0):=by
 have hc:=ad.tM;have hw:=ad.kt
 unfold CN
 have l1:sr F v F 0 =some (dE ((List.range v.H.ay.length).findSome? fun i=>if jt v i then some 4 else none)):=kz _ af (fun f i hi=>by
  have bU:=aFx bV ad (wd v.H.ay i) (sr F v f (ap ((i:Int)+ 1)))
  rw [sr,cK hi,cond_true,lN hi,Option.bind_some]
  unfold jt
  by_cases bE:0 <i
  · rw [show decide ((0 :Int) <(i:Int))=true from decide_eq_true (by omega),cond_true,dy (n:=(i:Int) - 1) (by omega) (by omega),iE (i:=i - 1) (by omega) (by omega),Option.bind_some,decide_eq_true bE,Bool.true_and]
    cases decide (wd v.H.ay i<=wd v.H.ay (i - 1)) with
    | true=>rfl
    | false=>exact bU
  · rw [show decide ((0 :Int) <(i:Int))=false from decide_eq_false (by omega),cond_false,decide_eq_false bE,Bool.false_and,Bool.false_or]
    exact bU) (fun f=>by rw [sr,cJ];rfl) Ak
 rw [l1,nq]
 cases a1:(List.range v.H.ay.length).any (jt v) with
 | true=>rfl
 | false=>
   have oB:∀ i,i <v.H.ay.length->jt v i=false:=fun i hi=>by
    rw [List.any_eq_false] at a1
    simpa using a1 i (by simpa using hi)
   have hlen:=aBv oB
   have aBx:zn v.H.ay:=X6 fun i hi=>by
    have:=oB (i+ 1) hi
    unfold jt at this
    simp only [Bool.or_eq_false_iff,Bool.and_eq_false_iff,decide_eq_false_iff_not,Nat.add_sub_cancel] at this
    rcases this.1 with h | h <;> omega
   simp only [Bool.false_eq_true,if_false,dE,qh,Bool.false_or]
   have gf:uh F v F 0 =some (dE (v.aA.findSome? fun x=>if pb v x then some 4 else none)):=each _ (by omega) (fun f i x ai=>by
    have hm:x ∈ v.ar++v.aA:=List.mem_append_right _ (List.mem_of_getElem? ai)
    have bA:=ad.rJ x hm
    obtain ⟨p,b3,_⟩:=aGR bV hlen aBx x
    rw [uh,cK (List.getElem?_eq_some_iff.1 ai).1,cond_true,cd ai,Option.bind_some,b3,Option.bind_some]
    unfold pb
    by_cases pn:x ∈ v.H.ay
    · rw [decide_eq_true pn];rfl
    · rw [decide_eq_false pn]
      have b4:pk F (⟨(⟨v.H.Words,v.H.ar,v.H.aA,v.H.aO,v.H.aM,v.H.ay,v.H.Next⟩:bs),(⟨(⟨v.S.K.aJ,v.S.K.aG,v.S.K.Fields,v.S.K.Names,v.S.K.aE⟩:bw)⟩:dq),v.ar,v.aA,v.c9⟩:cm) x=some (refs v.S.K v.H.Words x.toNat):=bA.XX ad (by omega)
      have Uw:=Nf ad bA
      simp only [Bool.not_false,cond_true,Bool.true_and]
      rw [b4,Option.bind_some]
      unfold Nr Nt
      rw [acm (l:=refs v.S.K v.H.Words x.toNat) (L:=yQ (refs v.S.K v.H.Words x.toNat) v) (fun w=>kd v (wd v.H.Words w.toNat)) (by omega) (fun e4 Av w hg=>by
       rw [yQ,cK (List.getElem?_eq_some_iff.1 hg).1,cond_true,cd hg,Option.bind_some]
       unfold Lt
       rw [bA.Nd (List.mem_of_getElem? hg)]
       rfl) (fun e4=>by rw [yQ,cJ];rfl) (by omega),Option.bind_some]
      cases (refs v.S.K v.H.Words x.toNat).any (fun w=>kd v (wd v.H.Words w.toNat)) <;> rfl) (fun f=>by rw [uh,cJ];rfl) (by omega)
   rw [gf,nq]
   cases v.aA.any (pb v) <;> rfl
end
end J
