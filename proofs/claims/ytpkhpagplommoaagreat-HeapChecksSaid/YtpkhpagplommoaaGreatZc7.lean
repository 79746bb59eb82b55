/- Part 7 of the proof that is ended in the last text: small logic, what the functions compute, walks, plain laws. -/
import Derived.Test.YtpkhpagplommoaaGreatZc6
namespace Go.Proofs.YtpkhpagplommoaaGreat
open Go Go.RowKit a5
set_option maxHeartbeats 4000000
set_option maxRecDepth 20000
theorem ag5 {W:World} {X:List Nat} {F:Nat} {h_:J.bO} {ag:J.bC} {r:Int} {ad:aU} {af:Nat} {ar:aU} {ax:Nat} {aS:aU} {aT:Nat} {br:aU} {bw:Nat} {bk:aU} {bm:Nat} {bI:aU} {bJ:Nat} {bG:aU} {bK:Nat} {M0:List Nat} (hm:aw W M0 X W [] [aa (aq .i64) ad af h_.Words,aa (aq .i64) ar ax h_.ay,aa J.bd aS aT ag.aO,aa (aq .i64) br bw ag.aK,aa (aN J.aX) bk bm ag.Fields,aa (aN bE) bI bJ ag.Names,aa (aN J.bW) bG bK ag.aL]) (h:J.BH F h_ ag=some r) :
 Calls Tryz.prog 50 [.agg #[.q ad af h_.Words,.i h_.aA,.i h_.aP,.i h_.aZ,.i h_.aY,.q ar ax h_.ay,.i h_.Next],.agg #[.q aS aT ag.aO,.q br bw ag.aK,.q bk bm ag.Fields,.q bI bJ ag.Names,.q bG bK ag.aL]].toArray W (fun e aJ=>e= .returned (.i r)/\aw W M0 X aJ [] []):=by
 refine enter Tryz.func50 rfl Tryz.ntmps50 rfl fun a I=>?_;rw [J.BH] at h;refine wp_seq_k fun K dq=>a7 <| cZ (cs:=[.q ad af h_.Words,.i h_.aA,.i h_.aP,.i h_.aZ,.i h_.aY,.q ar ax h_.ay,.i h_.Next]) wn (eV rfl rfl (I.g rfl)) I hm rfl rfl fun a a2 w _ I hm=>cZ (cs:=[.q aS aT ag.aO,.q br bw ag.aK,.q bk bm ag.Fields,.q bI bJ ag.Names,.q bG bK ag.aL]) wn (eV rfl rfl (I.g rfl)) I hm rfl rfl fun a bt w _ I hm=>?_
 refine aM 1 [] [(2,.U a2),(3,.U bt)] I fun a I=>wpList_nil (dq _ _ ?_);refine wp_seq_k fun K bT=>wp_seq_k fun K cw=>a7 <| bh 2 [0,1] [(2,.U a2),(3,.U bt),(21,.i h_.aA)] [a2,1] (aD (a' (hm.e 1 rfl)) aE) I fun a I=>?_;obtain ⟨cB,ly,h⟩:=J.aQ h;have hc:=hm;refine bU (vs:=[.i h_.aA,.i 3,.i 2000]) wn rfl Tryz.call41 ⟨(I.g rfl),(c' _ _),(c' _ _),trivial⟩ (pf ((hc.into 0).pick trivial) ly) I rfl rfl ?_;rintro _ w ⟨rfl,ai⟩;refine ⟨_,rfl,fun a I=>?_⟩;have ah:bg [] _ w:=ai.ev;have hm:=hc.back 0 ai
 clear ai hc;clear ah;refine aM 2 [] [(2,.U a2),(3,.U bt),(24,.bool (!cB))] I fun a I=>?_;rcases Bool.eq_false_or_eq_true (!cB) with mg | mg
 · have h:=J.dz mg h;have I:=I.cd 24 rfl mg;refine aM 5 [1,1,1,1,1] [(2,.U a2),(3,.U bt),(29,.bool true)] I fun a I=>wpList_nil (cw _ _ ?_);refine eZ (I.g rfl) rfl <| aG [] [(4,.i 3)] I fun a I=>wp_ret ?_;obtain rfl:=aH h;refine ao <| bq Tryz.results50 I rfl ?_;exact ⟨rfl,hm.a1 [] []⟩
 have h:=J.dy mg h;have I:=I.cd 24 rfl mg;refine bh 2 [1,1,0,2] [(2,.U a2),(3,.U bt),(24,.bool false),(26,.i h_.aP)] [a2,2] (aD (a' (hm.e 1 rfl)) aE) I fun a I=>?_;obtain ⟨l0,pD,h⟩:=J.aQ h;have hc:=hm;refine bU (vs:=[.i h_.aP,.i 3,.i 2000]) (db I rfl rfl rfl rfl) rfl Tryz.call41 ⟨(I.g rfl),(c' _ _),(c' _ _),trivial⟩ (pf ((hc.into 0).pick trivial) pD) I rfl rfl ?_;rintro _ w ⟨rfl,ai⟩;refine ⟨_,rfl,fun a I=>?_⟩;have hm:=hc.back 0 ai;clear ai hc
 refine aM 2 [1,1] [(2,.U a2),(3,.U bt),(29,.bool (!l0))] I fun a I=>wpList_nil (cw _ _ ?_);refine bn (I.g rfl) h (fun anT h=>?_) (fun anT h=>?_)
 · refine aG [] [(4,.i 3)] I fun a I=>wp_ret ?_;obtain rfl:=aH h;refine ao <| bq Tryz.results50 I rfl ?_;exact ⟨rfl,hm.a1 [] []⟩
 refine wp_skip <| bT _ _ <| wp_seq_k fun K eb=>wp_seq_k fun K dH=>rg [0,0,0,1,0,2] [(2,.U a2),(3,.U bt),(39,.bool (!decide ((h_.Words.length:Int)=(J.av ((J.av (1 +h_.aA))+h_.aP)))))] [a2,2,a2,1,a2,0] (aD (a' (hm.e 1 rfl)) aE) I fun a I=>dH _ _ <| bn (I.g rfl) h (fun Q5 h=>?_) (fun Q5 h=>?_)
 · refine aG [] [(4,.i 1)] I fun a I=>wp_ret ?_;obtain rfl:=aH h;refine ao <| bq Tryz.results50 I rfl ?_;exact ⟨rfl,hm.a1 [] []⟩
 refine wp_skip <| eb _ _ <| wp_seq_k fun K dE=>wp_seq_k fun K dx=>a7 <| bh 5 [0,3,0,1] [(2,.U a2),(3,.U bt),(41,.i h_.aZ),(44,.i (J.av (h_.aA+ 1)))] [a2,1,a2,3] (aD (a' (hm.e 1 rfl)) aE) I fun a I=>?_;obtain ⟨eB,Hd,h⟩:=J.aQ h;have hc:=hm;refine bU (vs:=[.i h_.aZ,.i 1,.i (J.av (h_.aA+ 1))]) wn rfl Tryz.call41 ⟨(I.g rfl),(c' _ _),(I.g rfl),trivial⟩ (pf ((hc.into 0).pick trivial) Hd) I rfl rfl ?_;rintro _ w ⟨rfl,ai⟩;refine ⟨_,rfl,fun a I=>?_⟩;have ah:bg [] _ w:=ai.ev;have hm:=hc.back 0 ai
 clear ai hc;clear ah;refine aM 2 [] [(2,.U a2),(3,.U bt),(47,.bool (!eB))] I fun a I=>?_;rcases Bool.eq_false_or_eq_true (!eB) with uz | uz
 · have h:=J.dz uz h;have I:=I.cd 47 rfl uz;refine aM 19 [1,1,1,1,1,1,1,1,1,1,1,1,1,1,1,1,1,1] [(2,.U a2),(3,.U bt),(66,.bool true)] I fun a I=>wpList_nil (dx _ _ ?_);refine eZ (I.g rfl) rfl <| aG [] [(4,.i 3)] I fun a I=>wp_ret ?_;obtain rfl:=aH h;refine ao <| bq Tryz.results50 I rfl ?_;exact ⟨rfl,hm.a1 [] []⟩
 have h:=J.dy uz h;have I:=I.cd 47 rfl uz;refine bh 11 [1,1,0,4,1,1,0,1,1,1,1,0,1,1,1,0,2,1,1] [(2,.U a2),(3,.U bt),(47,.bool false),(49,.i h_.aY),(52,.i (J.av (h_.aA+ 1))),(58,.i (J.av ((J.av (h_.aA+h_.aP))+ 1)))] [a2,2,a2,1,a2,1,a2,4] (aD (a' (hm.e 1 rfl)) aE) I fun a I=>?_;obtain ⟨gN,Hf,h⟩:=J.aQ h;have hc:=hm;refine bU (vs:=[.i h_.aY,.i (J.av (h_.aA+ 1)),.i (J.av ((J.av (h_.aA+h_.aP))+ 1))]) (db I rfl rfl rfl rfl) rfl Tryz.call41 ⟨(I.g rfl),(I.g rfl),(I.g rfl),trivial⟩ (pf ((hc.into 0).pick trivial) Hf) I rfl rfl ?_;rintro _ w ⟨rfl,ai⟩;refine ⟨_,rfl,fun a I=>?_⟩
 have hm:=hc.back 0 ai;clear ai hc;refine bh 7 [1,1,0,0,0,6,0,0] [(2,.U a2),(3,.U bt),(66,.bool ((!gN) || (decide (h_.Next < 1))))] [a2,6] (aD (a' (hm.e 1 rfl)) aE) I fun a I=>wpList_nil (dx _ _ ?_);refine bn (I.g rfl) h (fun ri h=>?_) (fun ri h=>?_)
 · refine aG [] [(4,.i 3)] I fun a I=>wp_ret ?_;obtain rfl:=aH h;refine ao <| bq Tryz.results50 I rfl ?_;exact ⟨rfl,hm.a1 [] []⟩
 refine wp_skip <| dE _ _ <| wp_seq_k fun K ej=>a7 <| bh 2 [0,0,1,0] [(2,.U a2),(3,.U bt),(68,.agg #[.q ad af h_.Words,.i h_.aA,.i h_.aP,.i h_.aZ,.i h_.aY,.q ar ax h_.ay,.i h_.Next]),(69,.agg #[.q aS aT ag.aO,.q br bw ag.aK,.q bk bm ag.Fields,.q bI bJ ag.Names,.q bG bK ag.aL])] [bt,0,a2,0] (aD (a' (hm.e 1 rfl)) (aD (a' (hm.e 0 rfl)) aE)) I fun a I=>?_;obtain ⟨bF,Hg,h⟩:=J.aQ h;have hc:=hm
 refine bU (vs:=[.agg #[.q ad af h_.Words,.i h_.aA,.i h_.aP,.i h_.aZ,.i h_.aY,.q ar ax h_.ay,.i h_.Next],.agg #[.q aS aT ag.aO,.q br bw ag.aK,.q bk bm ag.Fields,.q bI bJ ag.Names,.q bG bK ag.aL]]) wn rfl Tryz.call61 ⟨(I.g rfl),(I.g rfl),trivial⟩ (ahd ((hc.into 0).pick ⟨⟨0,rfl⟩,⟨1,rfl⟩,⟨2,rfl⟩,⟨3,rfl⟩,⟨4,rfl⟩,⟨5,rfl⟩,⟨6,rfl⟩,trivial⟩) Hg) I rfl rfl ?_;rintro _ w ⟨g9,g_,aIN,b',cb,aIO,rfl,ai⟩;refine ⟨_,rfl,fun a I=>?_⟩;have hm:=hc.back 0 ai;clear ai hc
 refine aM 7 [] [(2,.U a2),(3,.U bt),(5,.q g9 g_ bF.1),(6,.q b' cb bF.2.1),(7,.bool bF.2.2)] I fun a I=>wpList_nil (ej _ _ ?_);refine wp_seq_k fun K gb=>aG [] [(2,.U a2),(3,.U bt),(5,.q g9 g_ bF.1),(6,.q b' cb bF.2.1),(75,.bool (!bF.2.2))] I fun a I=>bn (I.g rfl) h (fun aol h=>?_) (fun aol h=>?_)
 · refine aG [] [(4,.i 1)] I fun a I=>wp_ret ?_;obtain rfl:=aH h;refine ao <| bq Tryz.results50 I rfl ?_;exact ⟨rfl,hm.a1 [] []⟩
 refine wp_skip <| gb _ _ <| wp_seq_k fun K hO=>a7 <| hk (cs:=[]) wn (DH Tryz.underlying22 Tryz.sizeOf3 rfl) I hm rfl rfl fun a Qz w _ I hm=>aM 1 [] [(2,.U a2),(3,.U bt),(6,.q b' cb bF.2.1),(76,.slice (some ⟨Qz,0,none⟩) 0 0),(77,.q g9 g_ bF.1)] I fun a I=>?_;obtain ⟨VV,axe,h⟩:=J.aQ h;have hm:=hm.freeze 1 0 rfl rfl;have hm:=hm.oI (sz:=1) 0 ([]:gv) rfl rfl rfl rfl;have hm:=hm.more (y:=ap.rows (aq .i64) [] []) rfl
 refine rT (T:=(aq .i64)) 0 0 1 hm rfl rfl rfl Tryz.underlying22 oA rfl rfl axe rfl wn rfl (I.g rfl) (I.g rfl) I rfl rfl fun a tm tS aIT w I hm=>aM 1 [] [(2,.U a2),(3,.U bt),(6,.q b' cb bF.2.1),(78,.q tm tS VV),(79,.q b' cb bF.2.1)] I fun a I=>?_;obtain ⟨ck,axi,h⟩:=J.aQ h;have hm:=hm.freeze 1 4 rfl rfl;refine rT (T:=(aq .i64)) 0 1 0 hm rfl rfl rfl Tryz.underlying22 oA rfl rfl axi rfl wn rfl (I.g rfl) (I.g rfl) I rfl rfl fun a di dw f_ w I hm=>?_
 refine aM 1 [] [(2,.U a2),(3,.U bt),(6,.q b' cb bF.2.1),(8,.q di dw ck)] I fun a I=>wpList_nil (hO _ _ ?_);refine wp_seq_k fun K gd=>aG [] [(2,.U a2),(3,.U bt),(6,.q b' cb bF.2.1),(8,.q di dw ck),(9,.i 0)] I fun a I=>?_;obtain ⟨Ul,h,RV⟩:=J.eC h
 refine cp (fun a w=>Fr ⟨288,[]⟩ [(2,.U a2),(3,.U bt),(6,.q b' cb bF.2.1),(8,.q di dw ck)] a/\aw W M0 X w [au.row 3 1 (.q di dw ck) ck f_,au.bs bt 30 [.q aS aT ag.aO,.q br bw ag.aK,.q bk bm ag.Fields,.q bI bJ ag.Names,.q bG bK ag.aL],au.bs a2 24 [.q ad af h_.Words,.i h_.aA,.i h_.aP,.i h_.aZ,.i h_.aY,.q ar ax h_.ay,.i h_.Next]] [ap.rows (aq .i64) f_ ck,aa (aq .i64) b' cb bF.2.1,aa (aq .i64) g9 g_ bF.1,aa (aq .i64) ad af h_.Words,aa (aq .i64) ar ax h_.ay,aa J.bd aS aT ag.aO,aa (aq .i64) br bw ag.aK,aa (aN J.aX) bk bm ag.Fields,aa (aN bE) bI bJ ag.Names,aa (aN J.bW) bG bK ag.aL]/\Ul=(.go ())) (fun K gQ=>?_) ?_
 · refine cN (fun (bz:Nat) a w=>∃ (lT:Int),Fr ⟨288,[]⟩ [(2,.U a2),(3,.U bt),(6,.q b' cb bF.2.1),(8,.q di dw ck),(9,.i lT)] a/\aw W M0 X w [au.row 3 1 (.q di dw ck) ck f_,au.bs bt 30 [.q aS aT ag.aO,.q br bw ag.aK,.q bk bm ag.Fields,.q bI bJ ag.Names,.q bG bK ag.aL],au.bs a2 24 [.q ad af h_.Words,.i h_.aA,.i h_.aP,.i h_.aZ,.i h_.aY,.q ar ax h_.ay,.i h_.Next]] [ap.rows (aq .i64) f_ ck,aa (aq .i64) b' cb bF.2.1,aa (aq .i64) g9 g_ bF.1,aa (aq .i64) ad af h_.Words,aa (aq .i64) ar ax h_.ay,aa J.bd aS aT ag.aO,aa (aq .i64) br bw ag.aK,aa (aN J.aX) bk bm ag.Fields,aa (aN bE) bI bJ ag.Names,aa (aN J.bW) bG bK ag.aL]/\J.wD h_ ck bz lT=some Ul) F ⟨0,I.cut,hm.eS [0,1,4,7,8,9,10,11,12,13],h⟩ ?_ ?_
   · rintro a w ⟨lT,I,hm,h⟩;exact absurd h (by simp [J.wD])
   rintro bz a w ⟨lT,I,hm,h⟩ K gR;rw [J.wD] at h;refine wp_seq_k fun K hF=>aG [] [(2,.U a2),(3,.U bt),(6,.q b' cb bF.2.1),(8,.q di dw ck),(9,.i lT),(84,.bool (decide (lT <(ck.length:Int))))] I fun a I=>bn (I.g rfl) h (fun anc h=>?_) (fun anc h=>?_)
   · refine wp_skip <| hF _ _ <| wp_seq_k fun K jn=>wp_block <| wp_seq_k fun K iA=>ix (m:=14) 14 (bg []) (by kernel_rfl) rfl fun w ah=>?_;have hm:=hm.dX ah;clear ah;have bj:=hm;have aF:=bg.refl [] w;refine cx [0,1,2,3,9,10,11] 7 [2,3,6,8,9,88,89,90,98] [0,0,0,6] (fr':=[(2,.U a2),(3,.U bt),(6,.q b' cb bF.2.1),(8,.q di dw ck),(9,.i lT),(88,.q ad af h_.Words),(89,.q di dw ck),(90,.i lT),(98,.i (J.av (h_.Next - 1)))]) (L:=[a2,6,a2,0]) cq (fun bb ah=>(aD (ch ah (a' (bj.e 2 rfl))) aE)) I rfl (by kernel_rfl) rfl (by kernel_rfl) (by kernel_rfl) aF fun a I=>?_
     obtain ⟨vQ,T6,h⟩:=J.aQ h;obtain ⟨QF,RP,_,rfl,Ri⟩:=hJ (bj.e 0 rfl) (bj.d 0 rfl) T6;refine ff 4 rfl (by kernel_rfl) wn (fun bb=>bL Tryz.underlying22 Tryz.sizeOf3 rfl (I.g rfl) (I.g rfl) QF RP) aF I rfl rfl fun a I=>cx [5,6] 2 [2,3,6,8,9,88,93,98] [0,0] (fr':=[(2,.U a2),(3,.U bt),(6,.q b' cb bF.2.1),(8,.q di dw ck),(9,.i lT),(88,.q ad af h_.Words),(93,.i (J.av (vQ+ 2))),(98,.i (J.av (h_.Next - 1)))]) (L:=[bM di,bP di+(lT).toNat* 1]) cq (fun bb ah=>(aD (ch ah Ri) aE)) I rfl (by kernel_rfl) rfl (by kernel_rfl) (by kernel_rfl) aF fun a I=>?_;obtain ⟨ju,Au,h⟩:=J.aQ h
     obtain ⟨zO,Ac,_,rfl,z2⟩:=b3 _ (bj.d 3 rfl) Au;refine ff 7 rfl (by kernel_rfl) wn (fun bb=>bL Tryz.underlying22 Tryz.sizeOf3 rfl (I.g rfl) (I.g rfl) zO Ac) aF I rfl rfl fun a I=>cx [8] 1 [2,3,6,8,9,95,98] [0,0] (fr':=[(2,.U a2),(3,.U bt),(6,.q b' cb bF.2.1),(8,.q di dw ck),(9,.i lT),(95,.i ju),(98,.i (J.av (h_.Next - 1)))]) (L:=[bM ad,bP ad+(J.av (vQ+ 2)).toNat* 1]) cq (fun bb ah=>(aD (ch ah z2) aE)) I rfl (by kernel_rfl) rfl (by kernel_rfl) (by kernel_rfl) aF fun a I=>dk 12 rfl (by kernel_rfl) (fun _=>aF) ?_;obtain ⟨Ws,sK,h⟩:=J.aQ h;have hc:=hm
     refine bU (vs:=[.i ju,.i 1,.i (J.av (h_.Next - 1))]) wn rfl Tryz.call41 ⟨(I.g rfl),(c' _ _),(I.g rfl),trivial⟩ (pf ((hc.into 0).pick trivial) sK) I rfl rfl ?_;rintro _ w ⟨rfl,ai⟩;refine ⟨_,rfl,fun a I=>?_⟩;have ah:bg [] _ w:=ai.ev;have hm:=hc.back 0 ai;clear ai hc;have aF:=fT aF ah;clear ah;refine c9 <| cx [13] 1 [2,3,6,8,9,100] [] (fr':=[(2,.U a2),(3,.U bt),(6,.q b' cb bF.2.1),(8,.q di dw ck),(9,.i lT),(100,.bool (!Ws))]) (L:=[]) cq (fun bb ah=>aE) I rfl (by kernel_rfl) rfl (by kernel_rfl) (by kernel_rfl) aF fun a I=>?_
     refine fS (by kernel_rfl) ?_ (fun _=>aF);clear bj aF;refine iA _ _ <| bn (I.g rfl) h (fun anj h=>?_) (fun anj h=>?_)
     · refine aG [] [(4,.i 3)] I fun a I=>wp_ret ?_;obtain rfl:=aH h;obtain rfl:=aH RV;refine ba (ao (ao (ba (ao (ao ?_)))));refine bq Tryz.results50 I rfl ?_;exact ⟨rfl,hm.a1 [] []⟩
     refine wp_skip <| jn _ _ <| cn [] [(2,.U a2),(3,.U bt),(6,.q b' cb bF.2.1),(8,.q di dw ck),(9,.i (J.av (lT+ 1)))] I fun a I=>?_;exact gR _ _ ⟨J.av (lT+ 1),I.cut,hm,h⟩
   refine wp_exit <| bD (bD (cD ?_));exact gQ _ _ ⟨I.cut,hm,(os h)⟩
 rintro a w ⟨I,hm,bf⟩;subst Ul;have h:=RV;clear RV;dsimp only [J.ep] at h;refine gd _ _ <| wp_seq_k fun K iC=>aG [] [(2,.U a2),(3,.U bt),(6,.q b' cb bF.2.1),(8,.q di dw ck),(10,.i 0)] I fun a I=>?_;obtain ⟨VF,h,Tm⟩:=J.eC h
 refine cp (fun a w=>Fr ⟨288,[]⟩ [(2,.U a2),(3,.U bt),(6,.q b' cb bF.2.1),(8,.q di dw ck)] a/\aw W M0 X w [au.row 3 1 (.q di dw ck) ck f_,au.bs bt 30 [.q aS aT ag.aO,.q br bw ag.aK,.q bk bm ag.Fields,.q bI bJ ag.Names,.q bG bK ag.aL],au.bs a2 24 [.q ad af h_.Words,.i h_.aA,.i h_.aP,.i h_.aZ,.i h_.aY,.q ar ax h_.ay,.i h_.Next]] [ap.rows (aq .i64) f_ ck,aa (aq .i64) b' cb bF.2.1,aa (aq .i64) g9 g_ bF.1,aa (aq .i64) ad af h_.Words,aa (aq .i64) ar ax h_.ay,aa J.bd aS aT ag.aO,aa (aq .i64) br bw ag.aK,aa (aN J.aX) bk bm ag.Fields,aa (aN bE) bI bJ ag.Names,aa (aN J.bW) bG bK ag.aL]/\VF=(.go ())) (fun K kr=>?_) ?_
 · refine cN (fun (dg:Nat) a w=>∃ (hT:Int),Fr ⟨288,[]⟩ [(2,.U a2),(3,.U bt),(6,.q b' cb bF.2.1),(8,.q di dw ck),(10,.i hT)] a/\aw W M0 X w [au.row 3 1 (.q di dw ck) ck f_,au.bs bt 30 [.q aS aT ag.aO,.q br bw ag.aK,.q bk bm ag.Fields,.q bI bJ ag.Names,.q bG bK ag.aL],au.bs a2 24 [.q ad af h_.Words,.i h_.aA,.i h_.aP,.i h_.aZ,.i h_.aY,.q ar ax h_.ay,.i h_.Next]] [ap.rows (aq .i64) f_ ck,aa (aq .i64) b' cb bF.2.1,aa (aq .i64) g9 g_ bF.1,aa (aq .i64) ad af h_.Words,aa (aq .i64) ar ax h_.ay,aa J.bd aS aT ag.aO,aa (aq .i64) br bw ag.aK,aa (aN J.aX) bk bm ag.Fields,aa (aN bE) bI bJ ag.Names,aa (aN J.bW) bG bK ag.aL]/\J.tx F h_ ck dg hT=some VF) F ⟨0,I.cut,hm,h⟩ ?_ ?_
   · rintro a w ⟨hT,I,hm,h⟩;exact absurd h (by simp [J.tx])
   rintro dg a w ⟨hT,I,hm,h⟩ K nE;rw [J.tx] at h;refine wp_seq_k fun K kR=>aG [] [(2,.U a2),(3,.U bt),(6,.q b' cb bF.2.1),(8,.q di dw ck),(10,.i hT),(104,.bool (decide (hT <(ck.length:Int))))] I fun a I=>bn (I.g rfl) h (fun am6 h=>?_) (fun am6 h=>?_)
   · refine wp_skip <| kR _ _ <| wp_seq_k fun K lr=>?_;obtain ⟨acU,h,R2⟩:=J.fl h
     refine cp (fun a w=>Fr ⟨288,[]⟩ [(2,.U a2),(3,.U bt),(6,.q b' cb bF.2.1),(8,.q di dw ck),(10,.i hT)] a/\aw W M0 X w [au.row 3 1 (.q di dw ck) ck f_,au.bs bt 30 [.q aS aT ag.aO,.q br bw ag.aK,.q bk bm ag.Fields,.q bI bJ ag.Names,.q bG bK ag.aL],au.bs a2 24 [.q ad af h_.Words,.i h_.aA,.i h_.aP,.i h_.aZ,.i h_.aY,.q ar ax h_.ay,.i h_.Next]] [ap.rows (aq .i64) f_ ck,aa (aq .i64) b' cb bF.2.1,aa (aq .i64) g9 g_ bF.1,aa (aq .i64) ad af h_.Words,aa (aq .i64) ar ax h_.ay,aa J.bd aS aT ag.aO,aa (aq .i64) br bw ag.aK,aa (aN J.aX) bk bm ag.Fields,aa (aN bE) bI bJ ag.Names,aa (aN J.bW) bG bK ag.aL]/\acU=(.go ())) (fun K ls=>?_) ?_
     · refine aG [] [(2,.U a2),(3,.U bt),(6,.q b' cb bF.2.1),(8,.q di dw ck),(10,.i hT),(11,.i 0)] I fun a I=>?_;obtain ⟨Us,h,R4⟩:=J.fl h
       refine cp (fun a w=>Fr ⟨288,[]⟩ [(2,.U a2),(3,.U bt),(6,.q b' cb bF.2.1),(8,.q di dw ck),(10,.i hT)] a/\aw W M0 X w [au.row 3 1 (.q di dw ck) ck f_,au.bs bt 30 [.q aS aT ag.aO,.q br bw ag.aK,.q bk bm ag.Fields,.q bI bJ ag.Names,.q bG bK ag.aL],au.bs a2 24 [.q ad af h_.Words,.i h_.aA,.i h_.aP,.i h_.aZ,.i h_.aY,.q ar ax h_.ay,.i h_.Next]] [ap.rows (aq .i64) f_ ck,aa (aq .i64) b' cb bF.2.1,aa (aq .i64) g9 g_ bF.1,aa (aq .i64) ad af h_.Words,aa (aq .i64) ar ax h_.ay,aa J.bd aS aT ag.aO,aa (aq .i64) br bw ag.aK,aa (aN J.aX) bk bm ag.Fields,aa (aN bE) bI bJ ag.Names,aa (aN J.bW) bG bK ag.aL]/\Us=(.go ())) (fun K pn=>?_) ?_
       · refine cN (fun (eQ:Nat) a w=>∃ (lD:Int),Fr ⟨288,[]⟩ [(2,.U a2),(3,.U bt),(6,.q b' cb bF.2.1),(8,.q di dw ck),(10,.i hT),(11,.i lD)] a/\aw W M0 X w [au.row 3 1 (.q di dw ck) ck f_,au.bs bt 30 [.q aS aT ag.aO,.q br bw ag.aK,.q bk bm ag.Fields,.q bI bJ ag.Names,.q bG bK ag.aL],au.bs a2 24 [.q ad af h_.Words,.i h_.aA,.i h_.aP,.i h_.aZ,.i h_.aY,.q ar ax h_.ay,.i h_.Next]] [ap.rows (aq .i64) f_ ck,aa (aq .i64) b' cb bF.2.1,aa (aq .i64) g9 g_ bF.1,aa (aq .i64) ad af h_.Words,aa (aq .i64) ar ax h_.ay,aa J.bd aS aT ag.aO,aa (aq .i64) br bw ag.aK,aa (aN J.aX) bk bm ag.Fields,aa (aN bE) bI bJ ag.Names,aa (aN J.bW) bG bK ag.aL]/\J.wE h_ ck hT eQ lD=some Us) F ⟨0,I.cut,hm,h⟩ ?_ ?_
         · rintro a w ⟨lD,I,hm,h⟩;exact absurd h (by simp [J.wE])
         rintro eQ a w ⟨lD,I,hm,h⟩ K mZ;rw [J.wE] at h;refine wp_seq_k fun K po=>aG [] [(2,.U a2),(3,.U bt),(6,.q b' cb bF.2.1),(8,.q di dw ck),(10,.i hT),(11,.i lD),(109,.bool (decide (lD <hT)))] I fun a I=>bn (I.g rfl) h (fun anf h=>?_) (fun anf h=>?_)
         · refine wp_skip <| po _ _ <| wp_seq_k fun K nF=>wp_block <| wp_seq_k fun K rf=>jE (by kernel_rfl) (by kernel_rfl) <| dW 4 [0,0] [(2,.U a2),(3,.U bt),(6,.q b' cb bF.2.1),(8,.q di dw ck),(10,.i hT),(11,.i lD),(113,.q ad af h_.Words),(114,.q di dw ck),(115,.i hT)] [a2,0] (fun bb ah=>(aD (ch ah (a' (hm.e 2 rfl))) aE)) I fun a I=>?_;obtain ⟨MX,aAh,h⟩:=J.aQ h;obtain ⟨ajr,aug,_,rfl,apZ⟩:=hJ (hm.e 0 rfl) (hm.d 0 rfl) aAh;refine e4 wn (fun bb ah=>bL Tryz.underlying22 Tryz.sizeOf3 rfl (I.g rfl) (I.g rfl) ajr aug) I rfl rfl fun a I=>?_
           refine dW 2 [0,0] [(2,.U a2),(3,.U bt),(6,.q b' cb bF.2.1),(8,.q di dw ck),(10,.i hT),(11,.i lD),(113,.q ad af h_.Words),(118,.i (J.av (MX+ 2)))] [bM di,bP di+(hT).toNat* 1] (fun bb ah=>(aD (ch ah apZ) aE)) I fun a I=>?_;obtain ⟨Iu,aAi,h⟩:=J.aQ h;obtain ⟨ajs,auh,_,rfl,ap0⟩:=b3 _ (hm.d 3 rfl) aAi;refine e4 wn (fun bb ah=>bL Tryz.underlying22 Tryz.sizeOf3 rfl (I.g rfl) (I.g rfl) ajs auh) I rfl rfl fun a I=>?_
           refine dW 5 [0,0,1,0] [(2,.U a2),(3,.U bt),(6,.q b' cb bF.2.1),(8,.q di dw ck),(10,.i hT),(11,.i lD),(120,.i Iu),(122,.q ad af h_.Words),(123,.q di dw ck),(124,.i lD)] [a2,0,bM ad,bP ad+(J.av (MX+ 2)).toNat* 1] (fun bb ah=>(aD (ch ah ap0) (aD (ch ah (a' (hm.e 2 rfl))) aE))) I fun a I=>?_;obtain ⟨MY,aAj,h⟩:=J.aQ h;obtain ⟨ajt,aui,_,rfl,ap1⟩:=hJ (hm.e 0 rfl) (hm.d 0 rfl) aAj;refine e4 wn (fun bb ah=>bL Tryz.underlying22 Tryz.sizeOf3 rfl (I.g rfl) (I.g rfl) ajt aui) I rfl rfl fun a I=>?_
           refine dW 2 [0,0] [(2,.U a2),(3,.U bt),(6,.q b' cb bF.2.1),(8,.q di dw ck),(10,.i hT),(11,.i lD),(120,.i Iu),(122,.q ad af h_.Words),(127,.i (J.av (MY+ 2)))] [bM di,bP di+(lD).toNat* 1] (fun bb ah=>(aD (ch ah ap1) aE)) I fun a I=>?_;obtain ⟨XO,aAk,h⟩:=J.aQ h;obtain ⟨aju,auj,_,rfl,ap2⟩:=b3 _ (hm.d 3 rfl) aAk;refine e4 wn (fun bb ah=>bL Tryz.underlying22 Tryz.sizeOf3 rfl (I.g rfl) (I.g rfl) aju auj) I rfl rfl fun a I=>?_
           refine dW 2 [0,0] [(2,.U a2),(3,.U bt),(6,.q b' cb bF.2.1),(8,.q di dw ck),(10,.i hT),(11,.i lD),(130,.bool (decide (Iu=XO)))] [bM ad,bP ad+(J.av (MY+ 2)).toNat* 1] (fun bb ah=>(aD (ch ah ap2) aE)) I fun a I=>wpQuiet_nil fun w ah=>?_;have hm:=hm.dX ah;clear ah;refine rf _ _ <| bn (I.g rfl) h (fun anh h=>?_) (fun anh h=>?_)
           · refine aG [] [(4,.i 6)] I fun a I=>wp_ret ?_;obtain rfl:=aH h;obtain rfl:=aH R4;obtain rfl:=aH R2;obtain rfl:=aH Tm;refine ba (ao (ao (ba (ao (ba (ao (ao (ao (ba (ao (ao ?_)))))))))));refine bq Tryz.results50 I rfl ?_;exact ⟨rfl,hm.a1 [] []⟩
           refine wp_skip <| nF _ _ <| cn [] [(2,.U a2),(3,.U bt),(6,.q b' cb bF.2.1),(8,.q di dw ck),(10,.i hT),(11,.i (J.av (lD+ 1)))] I fun a I=>?_;exact mZ _ _ ⟨J.av (lD+ 1),I.cut,hm,h⟩
         refine wp_exit <| bD (bD (cD ?_));exact pn _ _ ⟨I.cut,hm,(os h)⟩
       rintro a w ⟨I,hm,bf⟩;subst Us;have h:=R4;clear R4;dsimp only [J.fa] at h;exact ls _ _ ⟨I.cut,hm,(os h)⟩
     rintro a w ⟨I,hm,bf⟩;subst acU;have h:=R2;clear R2;dsimp only [J.fa] at h;refine lr _ _ <| cn [] [(2,.U a2),(3,.U bt),(6,.q b' cb bF.2.1),(8,.q di dw ck),(10,.i (J.av (hT+ 1)))] I fun a I=>?_;exact nE _ _ ⟨J.av (hT+ 1),I.cut,hm,h⟩
   refine wp_exit <| bD (bD (cD ?_));exact kr _ _ ⟨I.cut,hm,(os h)⟩
 rintro a w ⟨I,hm,bf⟩;subst VF;have h:=Tm;clear Tm;dsimp only [J.ep] at h;refine iC _ _ <| wp_seq_k fun K nG=>aG [] [(2,.U a2),(3,.U bt),(6,.q b' cb bF.2.1),(8,.q di dw ck),(12,.i 0)] I fun a I=>?_;obtain ⟨UP,h,Sp⟩:=J.eC h
 refine cp (fun a w=>Fr ⟨288,[]⟩ [(2,.U a2),(3,.U bt),(6,.q b' cb bF.2.1)] a/\aw W M0 X w [au.row 3 1 (.q di dw ck) ck f_,au.bs bt 30 [.q aS aT ag.aO,.q br bw ag.aK,.q bk bm ag.Fields,.q bI bJ ag.Names,.q bG bK ag.aL],au.bs a2 24 [.q ad af h_.Words,.i h_.aA,.i h_.aP,.i h_.aZ,.i h_.aY,.q ar ax h_.ay,.i h_.Next]] [ap.rows (aq .i64) f_ ck,aa (aq .i64) b' cb bF.2.1,aa (aq .i64) g9 g_ bF.1,aa (aq .i64) ad af h_.Words,aa (aq .i64) ar ax h_.ay,aa J.bd aS aT ag.aO,aa (aq .i64) br bw ag.aK,aa (aN J.aX) bk bm ag.Fields,aa (aN bE) bI bJ ag.Names,aa (aN J.bW) bG bK ag.aL]/\UP=(.go ())) (fun K rh=>?_) ?_
 · refine cN (fun (gk:Nat) a w=>∃ (hj:Int),Fr ⟨288,[]⟩ [(2,.U a2),(3,.U bt),(6,.q b' cb bF.2.1),(8,.q di dw ck),(12,.i hj)] a/\aw W M0 X w [au.row 3 1 (.q di dw ck) ck f_,au.bs bt 30 [.q aS aT ag.aO,.q br bw ag.aK,.q bk bm ag.Fields,.q bI bJ ag.Names,.q bG bK ag.aL],au.bs a2 24 [.q ad af h_.Words,.i h_.aA,.i h_.aP,.i h_.aZ,.i h_.aY,.q ar ax h_.ay,.i h_.Next]] [ap.rows (aq .i64) f_ ck,aa (aq .i64) b' cb bF.2.1,aa (aq .i64) g9 g_ bF.1,aa (aq .i64) ad af h_.Words,aa (aq .i64) ar ax h_.ay,aa J.bd aS aT ag.aO,aa (aq .i64) br bw ag.aK,aa (aN J.aX) bk bm ag.Fields,aa (aN bE) bI bJ ag.Names,aa (aN J.bW) bG bK ag.aL]/\J.wF F h_ ag ck gk hj=some UP) F ⟨0,I.cut,hm,h⟩ ?_ ?_
   · rintro a w ⟨hj,I,hm,h⟩;exact absurd h (by simp [J.wF])
   rintro gk a w ⟨hj,I,hm,h⟩ K pq;rw [J.wF] at h;refine wp_seq_k fun K pr=>aG [] [(2,.U a2),(3,.U bt),(6,.q b' cb bF.2.1),(8,.q di dw ck),(12,.i hj),(134,.bool (decide (hj <(ck.length:Int))))] I fun a I=>bn (I.g rfl) h (fun an' h=>?_) (fun an' h=>?_)
   · refine wp_skip <| pr _ _ <| wp_seq_k fun K sF=>?_;obtain ⟨ac8,h,Sx⟩:=J.fl h
     refine cp (fun a w=>Fr ⟨288,[]⟩ [(2,.U a2),(3,.U bt),(6,.q b' cb bF.2.1),(8,.q di dw ck),(12,.i hj)] a/\aw W M0 X w [au.row 3 1 (.q di dw ck) ck f_,au.bs bt 30 [.q aS aT ag.aO,.q br bw ag.aK,.q bk bm ag.Fields,.q bI bJ ag.Names,.q bG bK ag.aL],au.bs a2 24 [.q ad af h_.Words,.i h_.aA,.i h_.aP,.i h_.aZ,.i h_.aY,.q ar ax h_.ay,.i h_.Next]] [ap.rows (aq .i64) f_ ck,aa (aq .i64) b' cb bF.2.1,aa (aq .i64) g9 g_ bF.1,aa (aq .i64) ad af h_.Words,aa (aq .i64) ar ax h_.ay,aa J.bd aS aT ag.aO,aa (aq .i64) br bw ag.aK,aa (aN J.aX) bk bm ag.Fields,aa (aN bE) bI bJ ag.Names,aa (aN J.bW) bG bK ag.aL]/\ac8=(.go ())) (fun K uo=>?_) ?_
     · refine wp_seq_k fun K uq=>ix (m:=8) 8 (bg []) (by kernel_rfl) rfl fun w ah=>?_;have hm:=hm.dX ah;clear ah;have bj:=hm;have aF:=bg.refl [] w
       refine cx [0,1,2,3] 4 [2,3,6,8,12,137,138,139,140] [0,0,1,0] (fr':=[(2,.U a2),(3,.U bt),(6,.q b' cb bF.2.1),(8,.q di dw ck),(12,.i hj),(137,.agg #[.q ad af h_.Words,.i h_.aA,.i h_.aP,.i h_.aZ,.i h_.aY,.q ar ax h_.ay,.i h_.Next]),(138,.agg #[.q aS aT ag.aO,.q br bw ag.aK,.q bk bm ag.Fields,.q bI bJ ag.Names,.q bG bK ag.aL]),(139,.q di dw ck),(140,.i hj)]) (L:=[bt,0,a2,0]) cq (fun bb ah=>(aD (ch ah (a' (bj.e 2 rfl))) (aD (ch ah (a' (bj.e 1 rfl))) aE))) I rfl (by kernel_rfl) rfl (by kernel_rfl) (by kernel_rfl) aF fun a I=>?_
       obtain ⟨M7,aA5,h⟩:=J.aQ h;obtain ⟨akh,au9,_,rfl,aqP⟩:=hJ (bj.e 0 rfl) (bj.d 0 rfl) aA5;refine ff 4 rfl (by kernel_rfl) wn (fun bb=>bL Tryz.underlying22 Tryz.sizeOf3 rfl (I.g rfl) (I.g rfl) akh au9) aF I rfl rfl fun a I=>?_
       refine cx [5] 1 [2,3,6,8,12,137,138,142] [0,0] (fr':=[(2,.U a2),(3,.U bt),(6,.q b' cb bF.2.1),(8,.q di dw ck),(12,.i hj),(137,.agg #[.q ad af h_.Words,.i h_.aA,.i h_.aP,.i h_.aZ,.i h_.aY,.q ar ax h_.ay,.i h_.Next]),(138,.agg #[.q aS aT ag.aO,.q br bw ag.aK,.q bk bm ag.Fields,.q bI bJ ag.Names,.q bG bK ag.aL]),(142,.i M7)]) (L:=[bM di,bP di+(hj).toNat* 1]) cq (fun bb ah=>(aD (ch ah aqP) aE)) I rfl (by kernel_rfl) rfl (by kernel_rfl) (by kernel_rfl) aF fun a I=>dk 6 rfl (by kernel_rfl) (fun _=>aF) ?_
       obtain ⟨hl,ayL,h⟩:=J.aQ h;have hc:=hm;refine bU (vs:=[.agg #[.q ad af h_.Words,.i h_.aA,.i h_.aP,.i h_.aZ,.i h_.aY,.q ar ax h_.ay,.i h_.Next],.agg #[.q aS aT ag.aO,.q br bw ag.aK,.q bk bm ag.Fields,.q bI bJ ag.Names,.q bG bK ag.aL],.i M7]) wn rfl Tryz.call43 ⟨(I.g rfl),(I.g rfl),(I.g rfl),trivial⟩ (Kx ((hc.into 0).pick ⟨⟨3,rfl⟩,⟨4,rfl⟩,⟨5,rfl⟩,⟨6,rfl⟩,⟨7,rfl⟩,⟨8,rfl⟩,⟨9,rfl⟩,trivial⟩) ayL) I rfl rfl ?_;rintro _ w ⟨jw,kM,NY,rfl,ai⟩;refine ⟨_,rfl,fun a I=>?_⟩;have ah:bg [] _ w:=ai.ev;have hm:=hc.back 0 ai
       clear ai hc;have aF:=fT aF ah;clear ah;refine c9 <| cx [7] 1 [2,3,6,8,12,13] [] (fr':=[(2,.U a2),(3,.U bt),(6,.q b' cb bF.2.1),(8,.q di dw ck),(12,.i hj),(13,.q jw kM hl)]) (L:=[]) cq (fun bb ah=>aE) I rfl (by kernel_rfl) rfl (by kernel_rfl) (by kernel_rfl) aF fun a I=>fS (by kernel_rfl) ?_ (fun _=>aF);clear bj aF;refine uq _ _ <| wp_seq_k fun K p9=>?_
       refine cn [] [(2,.U a2),(3,.U bt),(6,.q b' cb bF.2.1),(8,.q di dw ck),(12,.i hj),(13,.q jw kM hl),(14,.i 0)] I fun a I=>p9 _ _ ?_;obtain ⟨U5,h,SB⟩:=J.fl h
       refine cp (fun a w=>Fr ⟨288,[]⟩ [(2,.U a2),(3,.U bt),(6,.q b' cb bF.2.1),(8,.q di dw ck),(12,.i hj)] a/\aw W M0 X w [au.row 3 1 (.q jw kM hl) hl NY,au.row 3 1 (.q di dw ck) ck f_,au.bs bt 30 [.q aS aT ag.aO,.q br bw ag.aK,.q bk bm ag.Fields,.q bI bJ ag.Names,.q bG bK ag.aL],au.bs a2 24 [.q ad af h_.Words,.i h_.aA,.i h_.aP,.i h_.aZ,.i h_.aY,.q ar ax h_.ay,.i h_.Next]] [ap.rows (aq .i64) NY hl,ap.rows (aq .i64) f_ ck,aa (aq .i64) b' cb bF.2.1,aa (aq .i64) g9 g_ bF.1,aa (aq .i64) ad af h_.Words,aa (aq .i64) ar ax h_.ay,aa J.bd aS aT ag.aO,aa (aq .i64) br bw ag.aK,aa (aN J.aX) bk bm ag.Fields,aa (aN bE) bI bJ ag.Names,aa (aN J.bW) bG bK ag.aL]/\U5=(.go ())) (fun K ur=>?_) ?_
       · refine cN (fun (jo:Nat) a w=>∃ (h1:Int),Fr ⟨288,[]⟩ [(2,.U a2),(3,.U bt),(6,.q b' cb bF.2.1),(8,.q di dw ck),(12,.i hj),(13,.q jw kM hl),(14,.i h1)] a/\aw W M0 X w [au.row 3 1 (.q jw kM hl) hl NY,au.row 3 1 (.q di dw ck) ck f_,au.bs bt 30 [.q aS aT ag.aO,.q br bw ag.aK,.q bk bm ag.Fields,.q bI bJ ag.Names,.q bG bK ag.aL],au.bs a2 24 [.q ad af h_.Words,.i h_.aA,.i h_.aP,.i h_.aZ,.i h_.aY,.q ar ax h_.ay,.i h_.Next]] [ap.rows (aq .i64) NY hl,ap.rows (aq .i64) f_ ck,aa (aq .i64) b' cb bF.2.1,aa (aq .i64) g9 g_ bF.1,aa (aq .i64) ad af h_.Words,aa (aq .i64) ar ax h_.ay,aa J.bd aS aT ag.aO,aa (aq .i64) br bw ag.aK,aa (aN J.aX) bk bm ag.Fields,aa (aN bE) bI bJ ag.Names,aa (aN J.bW) bG bK ag.aL]/\J.tz F h_ ck hl jo h1=some U5) F ⟨0,I.cut,hm,h⟩ ?_ ?_
         · rintro a w ⟨h1,I,hm,h⟩;exact absurd h (by simp [J.tz])
         rintro jo a w ⟨h1,I,hm,h⟩ K sG;rw [J.tz] at h;refine wp_seq_k fun K uu=>aG [] [(2,.U a2),(3,.U bt),(6,.q b' cb bF.2.1),(8,.q di dw ck),(12,.i hj),(13,.q jw kM hl),(14,.i h1),(147,.bool (decide (h1 <(hl.length:Int))))] I fun a I=>bn (I.g rfl) h (fun aof h=>?_) (fun aof h=>?_)
         · refine wp_skip <| uu _ _ <| wp_seq_k fun K Cm=>wp_block <| wp_seq_k fun K xT=>ix (m:=22) 22 (bg []) (by kernel_rfl) rfl fun w ah=>?_;have hm:=hm.dX ah;clear ah;have bj:=hm;have aF:=bg.refl [] w;refine cx [0,1,2,3] 4 [2,3,6,8,12,13,14,151,152,153] [0,0] (fr':=[(2,.U a2),(3,.U bt),(6,.q b' cb bF.2.1),(8,.q di dw ck),(12,.i hj),(13,.q jw kM hl),(14,.i h1),(151,.q ad af h_.Words),(152,.q jw kM hl),(153,.i h1)]) (L:=[a2,0]) cq (fun bb ah=>(aD (ch ah (a' (bj.e 3 rfl))) aE)) I rfl (by kernel_rfl) rfl (by kernel_rfl) (by kernel_rfl) aF fun a I=>?_
           obtain ⟨M_,aA8,h⟩:=J.aQ h;obtain ⟨akk,ava,_,rfl,aqS⟩:=hJ (bj.e 0 rfl) (bj.d 0 rfl) aA8;refine ff 4 rfl (by kernel_rfl) wn (fun bb=>bL Tryz.underlying22 Tryz.sizeOf3 rfl (I.g rfl) (I.g rfl) akk ava) aF I rfl rfl fun a I=>cx [5] 1 [2,3,6,8,12,13,14,151,155] [0,0] (fr':=[(2,.U a2),(3,.U bt),(6,.q b' cb bF.2.1),(8,.q di dw ck),(12,.i hj),(13,.q jw kM hl),(14,.i h1),(151,.q ad af h_.Words),(155,.i M_)]) (L:=[bM jw,bP jw+(h1).toNat* 1]) cq (fun bb ah=>(aD (ch ah aqS) aE)) I rfl (by kernel_rfl) rfl (by kernel_rfl) (by kernel_rfl) aF fun a I=>?_
           obtain ⟨M',aA9,h⟩:=J.aQ h;obtain ⟨akl,avb,_,rfl,aqT⟩:=b3 _ (bj.d 4 rfl) aA9;refine ff 6 rfl (by kernel_rfl) wn (fun bb=>bL Tryz.underlying22 Tryz.sizeOf3 rfl (I.g rfl) (I.g rfl) akl avb) aF I rfl rfl fun a I=>cx [7,8,9] 3 [2,3,6,8,12,13,14,159] [0,0] (fr':=[(2,.U a2),(3,.U bt),(6,.q b' cb bF.2.1),(8,.q di dw ck),(12,.i hj),(13,.q jw kM hl),(14,.i h1),(159,.bool (!decide (M'= 0)))]) (L:=[bM ad,bP ad+(M_).toNat* 1]) cq (fun bb ah=>(aD (ch ah aqT) aE)) I rfl (by kernel_rfl) rfl (by kernel_rfl) (by kernel_rfl) aF fun a I=>?_
           rcases Bool.eq_false_or_eq_true (!decide (M'= 0)) with F8 | F8
           · have h:=J.dz F8 h;have I:=I.cd 159 rfl F8;refine cx [10,11,12,13,14] 5 [2,3,6,8,12,13,14,159,160,162,163,164] [1,1,1,0,0,1,1] (fr':=[(2,.U a2),(3,.U bt),(6,.q b' cb bF.2.1),(8,.q di dw ck),(12,.i hj),(13,.q jw kM hl),(14,.i h1),(159,.bool true),(160,.q di dw ck),(162,.q ad af h_.Words),(163,.q jw kM hl),(164,.i h1)]) (L:=[a2,0]) cq (fun bb ah=>(aD (ch ah (a' (bj.e 3 rfl))) aE)) I rfl (by kernel_rfl) rfl (by kernel_rfl) (by kernel_rfl) aF fun a I=>?_;obtain ⟨Na,aA',h⟩:=J.aQ h;obtain ⟨akn,avd,_,rfl,aqV⟩:=hJ (bj.e 0 rfl) (bj.d 0 rfl) aA'
             refine ff 15 rfl (by kernel_rfl) (db I rfl rfl rfl rfl) (fun bb=>bL Tryz.underlying22 Tryz.sizeOf3 rfl (I.g rfl) (I.g rfl) akn avd) aF I rfl rfl fun a I=>cx [16] 1 [2,3,6,8,12,13,14,159,160,162,166] [1,0,0] (fr':=[(2,.U a2),(3,.U bt),(6,.q b' cb bF.2.1),(8,.q di dw ck),(12,.i hj),(13,.q jw kM hl),(14,.i h1),(159,.bool true),(160,.q di dw ck),(162,.q ad af h_.Words),(166,.i Na)]) (L:=[bM jw,bP jw+(h1).toNat* 1]) cq (fun bb ah=>(aD (ch ah aqV) aE)) I rfl (by kernel_rfl) rfl (by kernel_rfl) (by kernel_rfl) aF fun a I=>?_;obtain ⟨Nc,aBb,h⟩:=J.aQ h
             obtain ⟨akp,avf,_,rfl,aqX⟩:=b3 _ (bj.d 4 rfl) aBb;refine ff 17 rfl (by kernel_rfl) (db I rfl rfl rfl rfl) (fun bb=>bL Tryz.underlying22 Tryz.sizeOf3 rfl (I.g rfl) (I.g rfl) akp avf) aF I rfl rfl fun a I=>cx [18] 1 [2,3,6,8,12,13,14,159,160,168] [1,0,0] (fr':=[(2,.U a2),(3,.U bt),(6,.q b' cb bF.2.1),(8,.q di dw ck),(12,.i hj),(13,.q jw kM hl),(14,.i h1),(159,.bool true),(160,.q di dw ck),(168,.i Nc)]) (L:=[bM ad,bP ad+(Na).toNat* 1]) cq (fun bb ah=>(aD (ch ah aqX) aE)) I rfl (by kernel_rfl) rfl (by kernel_rfl) (by kernel_rfl) aF fun a I=>?_
             refine dk 19 rfl (by kernel_rfl) (fun _=>aF) ?_;obtain ⟨WN,ayM,h⟩:=J.aQ h;have hc:=hm;have aC:=hc.freeze 1 1 rfl rfl;refine bU (vs:=[.q di dw ck,.i Nc]) (db I rfl rfl rfl rfl) rfl Tryz.call42 ⟨(I.g rfl),(I.g rfl),trivial⟩ (Kw ((aC.into 0).pick ⟨⟨0,rfl⟩,trivial⟩) ayM) I rfl rfl ?_;rintro _ w ⟨rfl,ai⟩;refine ⟨_,rfl,fun a I=>?_⟩;have ah:bg [] _ w:=ai.ev;have hm:=hc.hp 0 (by exact trivial) ai;clear ai hc aC;have aF:=fT aF ah;clear ah;refine c9 ?_
             refine cx [20,21] 2 [2,3,6,8,12,13,14,171] [1,1] (fr':=[(2,.U a2),(3,.U bt),(6,.q b' cb bF.2.1),(8,.q di dw ck),(12,.i hj),(13,.q jw kM hl),(14,.i h1),(171,.bool (!WN))]) (L:=[]) cq (fun bb ah=>aE) I rfl (by kernel_rfl) rfl (by kernel_rfl) (by kernel_rfl) aF fun a I=>fS (by kernel_rfl) ?_ (fun _=>aF);clear bj aF;refine xT _ _ <| bn (I.g rfl) h (fun aog h=>?_) (fun aog h=>?_)
             · refine aG [] [(4,.i 5)] I fun a I=>wp_ret ?_;obtain rfl:=aH h;obtain rfl:=aH SB;obtain rfl:=aH Sx;obtain rfl:=aH Sp;refine ba (ao (ao (ba (ao (ba (ao (ao (ao (ba (ao (ao ?_)))))))))));refine bq Tryz.results50 I rfl ?_;exact ⟨rfl,hm.a1 [] []⟩
             refine wp_skip <| Cm _ _ <| cn [] [(2,.U a2),(3,.U bt),(6,.q b' cb bF.2.1),(8,.q di dw ck),(12,.i hj),(13,.q jw kM hl),(14,.i (J.av (h1+ 1)))] I fun a I=>?_;exact sG _ _ ⟨J.av (h1+ 1),I.cut,hm,h⟩
           have h:=J.dy F8 h;have I:=I.cd 159 rfl F8;refine cx [10,11,12,13,14,15,16,17,18] 9 [2,3,6,8,12,13,14,159,160,168] [1,1,1,1,1,1,1,1,1] (fr':=[(2,.U a2),(3,.U bt),(6,.q b' cb bF.2.1),(8,.q di dw ck),(12,.i hj),(13,.q jw kM hl),(14,.i h1),(159,.bool false),(160,undef),(168,undef)]) (L:=[]) cq (fun bb ah=>aE) I rfl (by kernel_rfl) rfl (by kernel_rfl) (by kernel_rfl) aF fun a I=>dk 19 rfl (by kernel_rfl) (fun _=>aF) ?_
           refine aM 1 [1] [(2,.U a2),(3,.U bt),(6,.q b' cb bF.2.1),(8,.q di dw ck),(12,.i hj),(13,.q jw kM hl),(14,.i h1),(159,.bool false),(169,undef)] I fun a I=>c9 <| cx [20,21] 2 [2,3,6,8,12,13,14,171] [1,1] (fr':=[(2,.U a2),(3,.U bt),(6,.q b' cb bF.2.1),(8,.q di dw ck),(12,.i hj),(13,.q jw kM hl),(14,.i h1),(171,.bool false)]) (L:=[]) cq (fun bb ah=>aE) I rfl (by kernel_rfl) rfl (by kernel_rfl) (by kernel_rfl) aF fun a I=>fS (by kernel_rfl) ?_ (fun _=>aF);clear bj aF;refine xT _ _ ?_
           refine jD (I.g rfl) rfl <| wp_skip <| Cm _ _ <| cn [] [(2,.U a2),(3,.U bt),(6,.q b' cb bF.2.1),(8,.q di dw ck),(12,.i hj),(13,.q jw kM hl),(14,.i (J.av (h1+ 1)))] I fun a I=>?_;exact sG _ _ ⟨J.av (h1+ 1),I.cut,hm,h⟩
         refine wp_exit <| bD (bD (cD ?_));exact ur _ _ ⟨I.cut,hm,(os h)⟩
       rintro a w ⟨I,hm,bf⟩;subst U5;have h:=SB;clear SB;dsimp only [J.fa] at h;exact uo _ _ ⟨I.cut,hm.a1 [1,2,3] [1,2,3,4,5,6,7,8,9,10],(os h)⟩
     rintro a w ⟨I,hm,bf⟩;subst ac8;have h:=Sx;clear Sx;dsimp only [J.fa] at h;refine sF _ _ <| cn [] [(2,.U a2),(3,.U bt),(6,.q b' cb bF.2.1),(8,.q di dw ck),(12,.i (J.av (hj+ 1)))] I fun a I=>?_;exact pq _ _ ⟨J.av (hj+ 1),I.cut,hm,h⟩
   refine wp_exit <| bD (bD (cD ?_));exact rh _ _ ⟨I.cut,hm,(os h)⟩
 rintro a w ⟨I,hm,bf⟩;subst UP;have h:=Sp;clear Sp;dsimp only [J.ep] at h;refine nG _ _ <| wp_seq_k fun K uv=>aG [] [(2,.U a2),(3,.U bt),(6,.q b' cb bF.2.1),(15,.i 0)] I fun a I=>?_;obtain ⟨U6,h,K_⟩:=J.eC h
 refine cp (fun a w=>Fr ⟨288,[]⟩ [(2,.U a2),(3,.U bt),(6,.q b' cb bF.2.1)] a/\aw W M0 X w [au.row 3 1 (.q di dw ck) ck f_,au.bs bt 30 [.q aS aT ag.aO,.q br bw ag.aK,.q bk bm ag.Fields,.q bI bJ ag.Names,.q bG bK ag.aL],au.bs a2 24 [.q ad af h_.Words,.i h_.aA,.i h_.aP,.i h_.aZ,.i h_.aY,.q ar ax h_.ay,.i h_.Next]] [ap.rows (aq .i64) f_ ck,aa (aq .i64) b' cb bF.2.1,aa (aq .i64) g9 g_ bF.1,aa (aq .i64) ad af h_.Words,aa (aq .i64) ar ax h_.ay,aa J.bd aS aT ag.aO,aa (aq .i64) br bw ag.aK,aa (aN J.aX) bk bm ag.Fields,aa (aN bE) bI bJ ag.Names,aa (aN J.bW) bG bK ag.aL]/\U6=(.go ())) (fun K zS=>?_) ?_
 · refine cN (fun (kU:Nat) a w=>∃ (hH:Int),Fr ⟨288,[]⟩ [(2,.U a2),(3,.U bt),(6,.q b' cb bF.2.1),(15,.i hH)] a/\aw W M0 X w [au.row 3 1 (.q di dw ck) ck f_,au.bs bt 30 [.q aS aT ag.aO,.q br bw ag.aK,.q bk bm ag.Fields,.q bI bJ ag.Names,.q bG bK ag.aL],au.bs a2 24 [.q ad af h_.Words,.i h_.aA,.i h_.aP,.i h_.aZ,.i h_.aY,.q ar ax h_.ay,.i h_.Next]] [ap.rows (aq .i64) f_ ck,aa (aq .i64) b' cb bF.2.1,aa (aq .i64) g9 g_ bF.1,aa (aq .i64) ad af h_.Words,aa (aq .i64) ar ax h_.ay,aa J.bd aS aT ag.aO,aa (aq .i64) br bw ag.aK,aa (aN J.aX) bk bm ag.Fields,aa (aN bE) bI bJ ag.Names,aa (aN J.bW) bG bK ag.aL]/\J.si h_ kU hH=some U6) F ⟨0,I.cut,hm,h⟩ ?_ ?_
   · rintro a w ⟨hH,I,hm,h⟩;exact absurd h (by simp [J.si])
   rintro kU a w ⟨hH,I,hm,h⟩ K xU;rw [J.si] at h;refine wp_seq_k fun K FC=>wp_seq_k fun K FD=>rg [0,0] [(2,.U a2),(3,.U bt),(6,.q b' cb bF.2.1),(15,.i hH),(176,.bool (decide (hH <(h_.Words.length:Int))))] [a2,0] (aD (a' (hm.e 2 rfl)) aE) I fun a I=>FD _ _ <| bn (I.g rfl) h (fun aoi h=>?_) (fun aoi h=>?_)
   · refine wp_skip <| FC _ _ <| wp_seq_k fun K Cn=>wp_block <| wp_seq_k fun K zT=>a7 <| bh 3 [0,0] [(2,.U a2),(3,.U bt),(6,.q b' cb bF.2.1),(15,.i hH),(180,.q ad af h_.Words),(181,.i hH)] [a2,0] (aD (a' (hm.e 2 rfl)) aE) I fun a I=>?_;obtain ⟨Nd,aBd,h⟩:=J.aQ h;obtain ⟨akr,avh,_,rfl,aqZ⟩:=b3 _ (hm.d 3 rfl) aBd;refine bR wn (bL Tryz.underlying22 Tryz.sizeOf3 rfl (I.g rfl) (I.g rfl) akr avh) I rfl rfl fun a I=>?_
     refine bh 3 [0,0] [(2,.U a2),(3,.U bt),(6,.q b' cb bF.2.1),(15,.i hH),(185,.bool (!decide (Nd= 0)))] [bM ad,bP ad+(hH).toNat* 1] (aD aqZ aE) I fun a I=>?_;rcases Bool.eq_false_or_eq_true (!decide (Nd= 0)) with F9 | F9
     · have h:=J.dz F9 h;have I:=I.cd 185 rfl F9;refine aM 3 [1,1,1] [(2,.U a2),(3,.U bt),(6,.q b' cb bF.2.1),(15,.i hH),(185,.bool true),(188,.bool (decide (hH= 0)))] I fun a I=>?_;rcases Bool.eq_false_or_eq_true (decide (hH= 0)) with F_ | F_
       · have h:=J.dz F_ h;have I:=I.cd 188 rfl F_;refine aM 14 [1,1,1,1,1,1,1,1,1,1,1,1,1,1,1,1] [(2,.U a2),(3,.U bt),(6,.q b' cb bF.2.1),(15,.i hH),(202,.bool true)] I fun a I=>wpList_nil (zT _ _ ?_);refine eZ (I.g rfl) rfl <| aG [] [(4,.i 1)] I fun a I=>wp_ret ?_;obtain rfl:=aH h;obtain rfl:=aH K_;refine ba (ao (ao (ba (ao (ao ?_)))));refine bq Tryz.results50 I rfl ?_;exact ⟨rfl,hm.a1 [] []⟩
       have h:=J.dy F_ h;have I:=I.cd 188 rfl F_;refine bh 5 [1,1,1,0,3,1,1,0,1] [(2,.U a2),(3,.U bt),(6,.q b' cb bF.2.1),(15,.i hH),(185,.bool true),(188,.bool false),(189,.i hH),(191,.i h_.aZ),(193,.i h_.aA)] [a2,1,a2,3] (aD (a' (hm.e 2 rfl)) aE) I fun a I=>?_;obtain ⟨WO,ayN,h⟩:=J.aQ h;have hc:=hm;refine bU (vs:=[.i hH,.i h_.aZ,.i h_.aA]) (db I rfl rfl rfl rfl) rfl Tryz.call41 ⟨(I.g rfl),(I.g rfl),(I.g rfl),trivial⟩ (pf ((hc.into 0).pick trivial) ayN) I rfl rfl ?_;rintro _ w ⟨rfl,ai⟩;refine ⟨_,rfl,fun a I=>?_⟩;have ah:bg [] _ w:=ai.ev;have hm:=hc.back 0 ai
       clear ai hc;clear ah;refine bh 8 [1,1,1,0,0,0,0,4,0,1,0,1] [(2,.U a2),(3,.U bt),(6,.q b' cb bF.2.1),(15,.i hH),(202,.bool (WO || (decide (h_.aY<=hH))))] [a2,4] (aD (a' (hm.e 2 rfl)) aE) I fun a I=>wpList_nil (zT _ _ ?_);refine bn (I.g rfl) h (fun aoj h=>?_) (fun aoj h=>?_)
       · refine aG [] [(4,.i 1)] I fun a I=>wp_ret ?_;obtain rfl:=aH h;obtain rfl:=aH K_;refine ba (ao (ao (ba (ao (ao ?_)))));refine bq Tryz.results50 I rfl ?_;exact ⟨rfl,hm.a1 [] []⟩
       refine wp_skip <| Cn _ _ <| cn [] [(2,.U a2),(3,.U bt),(6,.q b' cb bF.2.1),(15,.i (J.av (hH+ 1)))] I fun a I=>?_;exact xU _ _ ⟨J.av (hH+ 1),I.cut,hm,h⟩
     have h:=J.dy F9 h;have I:=I.cd 185 rfl F9;refine aM 17 [1,1,1,1,1,1,1,1,1,1,1,1,1,1,1,1,1] [(2,.U a2),(3,.U bt),(6,.q b' cb bF.2.1),(15,.i hH),(202,.bool false)] I fun a I=>wpList_nil (zT _ _ ?_);refine jD (I.g rfl) rfl <| wp_skip <| Cn _ _ <| cn [] [(2,.U a2),(3,.U bt),(6,.q b' cb bF.2.1),(15,.i (J.av (hH+ 1)))] I fun a I=>?_;exact xU _ _ ⟨J.av (hH+ 1),I.cut,hm,h⟩
   refine wp_exit <| bD (bD (cD ?_));exact zS _ _ ⟨I.cut,hm,(os h)⟩
 rintro a w ⟨I,hm,bf⟩;subst U6;have h:=K_;clear K_;dsimp only [J.ep] at h;refine uv _ _ <| wp_seq_k fun K QL=>aG [] [(2,.U a2),(3,.U bt),(6,.q b' cb bF.2.1),(16,.i 0)] I fun a I=>?_;obtain ⟨U7,h,Af⟩:=J.eC h
 refine cp (fun a w=>Fr ⟨288,[]⟩ [(2,.U a2),(3,.U bt),(6,.q b' cb bF.2.1)] a/\aw W M0 X w [au.row 3 1 (.q di dw ck) ck f_,au.bs bt 30 [.q aS aT ag.aO,.q br bw ag.aK,.q bk bm ag.Fields,.q bI bJ ag.Names,.q bG bK ag.aL],au.bs a2 24 [.q ad af h_.Words,.i h_.aA,.i h_.aP,.i h_.aZ,.i h_.aY,.q ar ax h_.ay,.i h_.Next]] [ap.rows (aq .i64) f_ ck,aa (aq .i64) b' cb bF.2.1,aa (aq .i64) g9 g_ bF.1,aa (aq .i64) ad af h_.Words,aa (aq .i64) ar ax h_.ay,aa J.bd aS aT ag.aO,aa (aq .i64) br bw ag.aK,aa (aN J.aX) bk bm ag.Fields,aa (aN bE) bI bJ ag.Names,aa (aN J.bW) bG bK ag.aL]/\U7=(.go ())) (fun K QM=>?_) ?_
 · refine cN (fun (sN:Nat) a w=>∃ (ez:Int),Fr ⟨288,[]⟩ [(2,.U a2),(3,.U bt),(6,.q b' cb bF.2.1),(16,.i ez)] a/\aw W M0 X w [au.row 3 1 (.q di dw ck) ck f_,au.bs bt 30 [.q aS aT ag.aO,.q br bw ag.aK,.q bk bm ag.Fields,.q bI bJ ag.Names,.q bG bK ag.aL],au.bs a2 24 [.q ad af h_.Words,.i h_.aA,.i h_.aP,.i h_.aZ,.i h_.aY,.q ar ax h_.ay,.i h_.Next]] [ap.rows (aq .i64) f_ ck,aa (aq .i64) b' cb bF.2.1,aa (aq .i64) g9 g_ bF.1,aa (aq .i64) ad af h_.Words,aa (aq .i64) ar ax h_.ay,aa J.bd aS aT ag.aO,aa (aq .i64) br bw ag.aK,aa (aN J.aX) bk bm ag.Fields,aa (aN bE) bI bJ ag.Names,aa (aN J.bW) bG bK ag.aL]/\J.sj F h_ ag bF sN ez=some U7) F ⟨0,I.cut,hm,h⟩ ?_ ?_
   · rintro a w ⟨ez,I,hm,h⟩;exact absurd h (by simp [J.sj])
   rintro sN a w ⟨ez,I,hm,h⟩ K KS;rw [J.sj] at h;refine wp_seq_k fun K QN=>wp_seq_k fun K QO=>rg [0,5] [(2,.U a2),(3,.U bt),(6,.q b' cb bF.2.1),(16,.i ez),(207,.bool (decide (ez <(h_.ay.length:Int))))] [a2,5] (aD (a' (hm.e 2 rfl)) aE) I fun a I=>QO _ _ <| bn (I.g rfl) h (fun aoq h=>?_) (fun aoq h=>?_)
   · refine wp_skip <| QN _ _ <| wp_seq_k fun K KT=>wp_block <| wp_seq_k fun K zU=>ix (m:=38) 38 (bg []) (by kernel_rfl) rfl fun w ah=>?_;have hm:=hm.dX ah;clear ah;have bj:=hm;have aF:=bg.refl [] w;refine cx [0,1,2] 3 [2,3,6,16,212] [] (fr':=[(2,.U a2),(3,.U bt),(6,.q b' cb bF.2.1),(16,.i ez),(212,.bool (decide (0 <ez)))]) (L:=[]) cq (fun bb ah=>aE) I rfl (by kernel_rfl) rfl (by kernel_rfl) (by kernel_rfl) aF fun a I=>?_;rcases Bool.eq_false_or_eq_true (decide (0 <ez)) with Ga | Ga
     · have h:=J.dz Ga h;have I:=I.cd 212 rfl Ga;refine cx [3,4,5,8,9,10,11] 7 [2,3,6,16,212,214,215,219,221] [1,1,0,5,1,1,1,0,5,1,1] (fr':=[(2,.U a2),(3,.U bt),(6,.q b' cb bF.2.1),(16,.i ez),(212,.bool true),(214,.q ar ax h_.ay),(215,.i ez),(219,.q ar ax h_.ay),(221,.i (J.av (ez - 1)))]) (L:=[a2,5,a2,5]) cq (fun bb ah=>(aD (ch ah (a' (bj.e 2 rfl))) aE)) I rfl (by kernel_rfl) rfl (by kernel_rfl) (by kernel_rfl) aF fun a I=>?_;obtain ⟨IB,aBg,h⟩:=J.aQ h;obtain ⟨akv,avk,_,rfl,aq2⟩:=b3 _ (bj.d 4 rfl) aBg
       refine ff 6 rfl (by kernel_rfl) (db I rfl rfl rfl rfl) (fun bb=>bL Tryz.underlying22 Tryz.sizeOf3 rfl (I.g rfl) (I.g rfl) akv avk) aF I rfl rfl fun a I=>cx [7] 1 [2,3,6,16,212,217,219,221] [1,0,0] (fr':=[(2,.U a2),(3,.U bt),(6,.q b' cb bF.2.1),(16,.i ez),(212,.bool true),(217,.i IB),(219,.q ar ax h_.ay),(221,.i (J.av (ez - 1)))]) (L:=[bM ar,bP ar+(ez).toNat* 1]) cq (fun bb ah=>(aD (ch ah aq2) aE)) I rfl (by kernel_rfl) rfl (by kernel_rfl) (by kernel_rfl) aF fun a I=>?_;obtain ⟨Ng,aBh,h⟩:=J.aQ h;obtain ⟨akw,avl,_,rfl,aq3⟩:=b3 _ (bj.d 4 rfl) aBh
       refine ff 12 rfl (by kernel_rfl) (db I rfl rfl rfl rfl) (fun bb=>bL Tryz.underlying22 Tryz.sizeOf3 rfl (I.g rfl) (I.g rfl) akw avl) aF I rfl rfl fun a I=>cx [13,14,15,16] 4 [2,3,6,16,226] [1,0,0,1,1] (fr':=[(2,.U a2),(3,.U bt),(6,.q b' cb bF.2.1),(16,.i ez),(226,.bool (decide (IB<=Ng)))]) (L:=[bM ar,bP ar+(J.av (ez - 1)).toNat* 1]) cq (fun bb ah=>(aD (ch ah aq3) aE)) I rfl (by kernel_rfl) rfl (by kernel_rfl) (by kernel_rfl) aF fun a I=>?_;rcases Bool.eq_false_or_eq_true (decide (IB<=Ng)) with Gb | Gb
       · have h:=J.dz Gb h;have I:=I.cd 226 rfl Gb;refine cx [17,18,19,20,21,22] 6 [2,3,6,16,226,227,232] [1,1,1,1,1,1] (fr':=[(2,.U a2),(3,.U bt),(6,.q b' cb bF.2.1),(16,.i ez),(226,.bool true),(227,undef),(232,undef)]) (L:=[]) cq (fun bb ah=>aE) I rfl (by kernel_rfl) rfl (by kernel_rfl) (by kernel_rfl) aF fun a I=>dk 23 rfl (by kernel_rfl) (fun _=>aF) <| aM 1 [1] [(2,.U a2),(3,.U bt),(6,.q b' cb bF.2.1),(16,.i ez),(226,.bool true),(233,undef)] I fun a I=>c9 ?_
         refine cx [24,25,26,27,28,29,30,31,32,33] 10 [2,3,6,16,236,237,238,243] [1,1,1,1,1,1,1,1,1] (fr':=[(2,.U a2),(3,.U bt),(6,.q b' cb bF.2.1),(16,.i ez),(236,.bool true),(237,undef),(238,undef),(243,undef)]) (L:=[]) cq (fun bb ah=>aE) I rfl (by kernel_rfl) rfl (by kernel_rfl) (by kernel_rfl) aF fun a I=>dk 34 rfl (by kernel_rfl) (fun _=>aF) <| aM 1 [1] [(2,.U a2),(3,.U bt),(6,.q b' cb bF.2.1),(16,.i ez),(236,.bool true),(244,undef)] I fun a I=>c9 ?_
         refine cx [35,36,37] 3 [2,3,6,16,247] [1,1,1] (fr':=[(2,.U a2),(3,.U bt),(6,.q b' cb bF.2.1),(16,.i ez),(247,.bool true)]) (L:=[]) cq (fun bb ah=>aE) I rfl (by kernel_rfl) rfl (by kernel_rfl) (by kernel_rfl) aF fun a I=>fS (by kernel_rfl) ?_ (fun _=>aF);clear bj aF;refine zU _ _ <| eZ (I.g rfl) rfl <| aG [] [(4,.i 4)] I fun a I=>wp_ret ?_;obtain rfl:=aH h;obtain rfl:=aH Af;refine ba (ao (ao (ba (ao (ao ?_)))));refine bq Tryz.results50 I rfl ?_;exact ⟨rfl,hm.a1 [] []⟩
       have h:=J.dy Gb h;have I:=I.cd 226 rfl Gb;refine cx [17,18,19,20] 4 [2,3,6,16,226,227,229,230] [1,1,1,0,5,1] (fr':=[(2,.U a2),(3,.U bt),(6,.q b' cb bF.2.1),(16,.i ez),(226,.bool false),(227,.q b' cb bF.2.1),(229,.q ar ax h_.ay),(230,.i ez)]) (L:=[a2,5]) cq (fun bb ah=>(aD (ch ah (a' (bj.e 2 rfl))) aE)) I rfl (by kernel_rfl) rfl (by kernel_rfl) (by kernel_rfl) aF fun a I=>?_;obtain ⟨Nh,aBi,h⟩:=J.aQ h;obtain ⟨akx,avm,_,rfl,aq4⟩:=b3 _ (bj.d 4 rfl) aBi
       refine ff 21 rfl (by kernel_rfl) (db I rfl rfl rfl rfl) (fun bb=>bL Tryz.underlying22 Tryz.sizeOf3 rfl (I.g rfl) (I.g rfl) akx avm) aF I rfl rfl fun a I=>cx [22] 1 [2,3,6,16,226,227,232] [1,0,0] (fr':=[(2,.U a2),(3,.U bt),(6,.q b' cb bF.2.1),(16,.i ez),(226,.bool false),(227,.q b' cb bF.2.1),(232,.i Nh)]) (L:=[bM ar,bP ar+(ez).toNat* 1]) cq (fun bb ah=>(aD (ch ah aq4) aE)) I rfl (by kernel_rfl) rfl (by kernel_rfl) (by kernel_rfl) aF fun a I=>dk 23 rfl (by kernel_rfl) (fun _=>aF) ?_;obtain ⟨Db,ayP,h⟩:=J.aQ h;have hc:=hm
       refine bU (vs:=[.q b' cb bF.2.1,.i Nh]) (db I rfl rfl rfl rfl) rfl Tryz.call42 ⟨(I.g rfl),(I.g rfl),trivial⟩ (Kw ((hc.into 0).pick ⟨⟨1,rfl⟩,trivial⟩) ayP) I rfl rfl ?_;rintro _ w ⟨rfl,ai⟩;refine ⟨_,rfl,fun a I=>?_⟩;have ah:bg [] _ w:=ai.ev;have hm:=hc.back 0 ai;clear ai hc;have aF:=fT aF ah;clear ah;refine c9 <| cx [24,25,26] 3 [2,3,6,16,236] [1,1] (fr':=[(2,.U a2),(3,.U bt),(6,.q b' cb bF.2.1),(16,.i ez),(236,.bool (!Db))]) (L:=[]) cq (fun bb ah=>aE) I rfl (by kernel_rfl) rfl (by kernel_rfl) (by kernel_rfl) aF fun a I=>?_
       rcases Bool.eq_false_or_eq_true (!Db) with Gc | Gc
       · have h:=J.dz Gc h;have I:=I.cd 236 rfl Gc;refine cx [27,28,29,30,31,32,33] 7 [2,3,6,16,236,237,238,243] [1,1,1,1,1,1,1] (fr':=[(2,.U a2),(3,.U bt),(6,.q b' cb bF.2.1),(16,.i ez),(236,.bool true),(237,undef),(238,undef),(243,undef)]) (L:=[]) cq (fun bb ah=>aE) I rfl (by kernel_rfl) rfl (by kernel_rfl) (by kernel_rfl) aF fun a I=>dk 34 rfl (by kernel_rfl) (fun _=>aF) <| aM 1 [1] [(2,.U a2),(3,.U bt),(6,.q b' cb bF.2.1),(16,.i ez),(236,.bool true),(244,undef)] I fun a I=>c9 ?_
         refine cx [35,36,37] 3 [2,3,6,16,247] [1,1,1] (fr':=[(2,.U a2),(3,.U bt),(6,.q b' cb bF.2.1),(16,.i ez),(247,.bool true)]) (L:=[]) cq (fun bb ah=>aE) I rfl (by kernel_rfl) rfl (by kernel_rfl) (by kernel_rfl) aF fun a I=>fS (by kernel_rfl) ?_ (fun _=>aF);clear bj aF;refine zU _ _ <| eZ (I.g rfl) rfl <| aG [] [(4,.i 4)] I fun a I=>wp_ret ?_;obtain rfl:=aH h;obtain rfl:=aH Af;refine ba (ao (ao (ba (ao (ao ?_)))));refine bq Tryz.results50 I rfl ?_;exact ⟨rfl,hm.a1 [] []⟩
       have h:=J.dy Gc h;have I:=I.cd 236 rfl Gc
       refine cx [27,28,29,30,31] 5 [2,3,6,16,236,237,238,240,241] [1,0,0,1,1,0,1,1,0,5,1] (fr':=[(2,.U a2),(3,.U bt),(6,.q b' cb bF.2.1),(16,.i ez),(236,.bool false),(237,.agg #[.q ad af h_.Words,.i h_.aA,.i h_.aP,.i h_.aZ,.i h_.aY,.q ar ax h_.ay,.i h_.Next]),(238,.agg #[.q aS aT ag.aO,.q br bw ag.aK,.q bk bm ag.Fields,.q bI bJ ag.Names,.q bG bK ag.aL]),(240,.q ar ax h_.ay),(241,.i ez)]) (L:=[a2,5,bt,0,a2,0]) cq (fun bb ah=>(aD (ch ah (a' (bj.e 2 rfl))) (aD (ch ah (a' (bj.e 1 rfl))) aE))) I rfl (by kernel_rfl) rfl (by kernel_rfl) (by kernel_rfl) aF fun a I=>?_
       obtain ⟨Dr,aBj,h⟩:=J.aQ h;obtain ⟨aky,avn,_,rfl,aq5⟩:=b3 _ (bj.d 4 rfl) aBj;refine ff 32 rfl (by kernel_rfl) (db I rfl rfl rfl rfl) (fun bb=>bL Tryz.underlying22 Tryz.sizeOf3 rfl (I.g rfl) (I.g rfl) aky avn) aF I rfl rfl fun a I=>?_
       refine cx [33] 1 [2,3,6,16,236,237,238,243] [1,0,0] (fr':=[(2,.U a2),(3,.U bt),(6,.q b' cb bF.2.1),(16,.i ez),(236,.bool false),(237,.agg #[.q ad af h_.Words,.i h_.aA,.i h_.aP,.i h_.aZ,.i h_.aY,.q ar ax h_.ay,.i h_.Next]),(238,.agg #[.q aS aT ag.aO,.q br bw ag.aK,.q bk bm ag.Fields,.q bI bJ ag.Names,.q bG bK ag.aL]),(243,.i Dr)]) (L:=[bM ar,bP ar+(ez).toNat* 1]) cq (fun bb ah=>(aD (ch ah aq5) aE)) I rfl (by kernel_rfl) rfl (by kernel_rfl) (by kernel_rfl) aF fun a I=>dk 34 rfl (by kernel_rfl) (fun _=>aF) ?_
       obtain ⟨H7,ayR,h⟩:=J.aQ h;have hc:=hm;refine bU (vs:=[.agg #[.q ad af h_.Words,.i h_.aA,.i h_.aP,.i h_.aZ,.i h_.aY,.q ar ax h_.ay,.i h_.Next],.agg #[.q aS aT ag.aO,.q br bw ag.aK,.q bk bm ag.Fields,.q bI bJ ag.Names,.q bG bK ag.aL],.i Dr]) (db I rfl rfl rfl rfl) rfl Tryz.call43 ⟨(I.g rfl),(I.g rfl),(I.g rfl),trivial⟩ (Kx ((hc.into 0).pick ⟨⟨3,rfl⟩,⟨4,rfl⟩,⟨5,rfl⟩,⟨6,rfl⟩,⟨7,rfl⟩,⟨8,rfl⟩,⟨9,rfl⟩,trivial⟩) ayR) I rfl rfl ?_;rintro _ w ⟨aHe,aHv,aIR,rfl,ai⟩;refine ⟨_,rfl,fun a I=>?_⟩;have ah:bg [] _ w:=ai.ev;have hm:=hc.back 0 ai
       clear ai hc;have aF:=fT aF ah;clear ah;refine c9 <| cx [35,36,37] 3 [2,3,6,16,247] [1,1,1] (fr':=[(2,.U a2),(3,.U bt),(6,.q b' cb bF.2.1),(16,.i ez),(247,.bool (decide ((H7.length:Int)= 0)))]) (L:=[]) cq (fun bb ah=>aE) I rfl (by kernel_rfl) rfl (by kernel_rfl) (by kernel_rfl) aF fun a I=>fS (by kernel_rfl) ?_ (fun _=>aF);clear bj aF;refine zU _ _ <| bn (I.g rfl) h (fun aos h=>?_) (fun aos h=>?_)
       · refine aG [] [(4,.i 4)] I fun a I=>wp_ret ?_;obtain rfl:=aH h;obtain rfl:=aH Af;refine ba (ao (ao (ba (ao (ao ?_)))));refine bq Tryz.results50 I rfl ?_;exact ⟨rfl,hm.a1 [] []⟩
       refine wp_skip <| KT _ _ <| cn [] [(2,.U a2),(3,.U bt),(6,.q b' cb bF.2.1),(16,.i (J.av (ez+ 1)))] I fun a I=>?_;exact KS _ _ ⟨J.av (ez+ 1),I.cut,hm.a1 [1,2,3] [1,2,3,4,5,6,7,8,9,10],h⟩
     have h:=J.dy Ga h;have I:=I.cd 212 rfl Ga;refine cx [3,4,5,6,7,8,9,10,11,12,13,14,15,16,17,18,19,20] 18 [2,3,6,16,226,227,229,230] [1,1,1,1,1,1,1,1,1,1,1,1,1,1,1,1,0,5,1] (fr':=[(2,.U a2),(3,.U bt),(6,.q b' cb bF.2.1),(16,.i ez),(226,.bool false),(227,.q b' cb bF.2.1),(229,.q ar ax h_.ay),(230,.i ez)]) (L:=[a2,5]) cq (fun bb ah=>(aD (ch ah (a' (bj.e 2 rfl))) aE)) I rfl (by kernel_rfl) rfl (by kernel_rfl) (by kernel_rfl) aF fun a I=>?_;obtain ⟨Ni,aBk,h⟩:=J.aQ h;obtain ⟨akz,avo,_,rfl,aq6⟩:=b3 _ (bj.d 4 rfl) aBk
     refine ff 21 rfl (by kernel_rfl) (db I rfl rfl rfl rfl) (fun bb=>bL Tryz.underlying22 Tryz.sizeOf3 rfl (I.g rfl) (I.g rfl) akz avo) aF I rfl rfl fun a I=>cx [22] 1 [2,3,6,16,226,227,232] [1,0,0] (fr':=[(2,.U a2),(3,.U bt),(6,.q b' cb bF.2.1),(16,.i ez),(226,.bool false),(227,.q b' cb bF.2.1),(232,.i Ni)]) (L:=[bM ar,bP ar+(ez).toNat* 1]) cq (fun bb ah=>(aD (ch ah aq6) aE)) I rfl (by kernel_rfl) rfl (by kernel_rfl) (by kernel_rfl) aF fun a I=>dk 23 rfl (by kernel_rfl) (fun _=>aF) ?_;obtain ⟨Mj,ayT,h⟩:=J.aQ h;have hc:=hm
     refine bU (vs:=[.q b' cb bF.2.1,.i Ni]) (db I rfl rfl rfl rfl) rfl Tryz.call42 ⟨(I.g rfl),(I.g rfl),trivial⟩ (Kw ((hc.into 0).pick ⟨⟨1,rfl⟩,trivial⟩) ayT) I rfl rfl ?_;rintro _ w ⟨rfl,ai⟩;refine ⟨_,rfl,fun a I=>?_⟩;have ah:bg [] _ w:=ai.ev;have hm:=hc.back 0 ai;clear ai hc;have aF:=fT aF ah;clear ah;refine c9 <| cx [24,25,26] 3 [2,3,6,16,236] [1,1] (fr':=[(2,.U a2),(3,.U bt),(6,.q b' cb bF.2.1),(16,.i ez),(236,.bool (!Mj))]) (L:=[]) cq (fun bb ah=>aE) I rfl (by kernel_rfl) rfl (by kernel_rfl) (by kernel_rfl) aF fun a I=>?_
     rcases Bool.eq_false_or_eq_true (!Mj) with Gf | Gf
     · have h:=J.dz Gf h;have I:=I.cd 236 rfl Gf;refine cx [27,28,29,30,31,32,33] 7 [2,3,6,16,236,237,238,243] [1,1,1,1,1,1,1] (fr':=[(2,.U a2),(3,.U bt),(6,.q b' cb bF.2.1),(16,.i ez),(236,.bool true),(237,undef),(238,undef),(243,undef)]) (L:=[]) cq (fun bb ah=>aE) I rfl (by kernel_rfl) rfl (by kernel_rfl) (by kernel_rfl) aF fun a I=>dk 34 rfl (by kernel_rfl) (fun _=>aF) <| aM 1 [1] [(2,.U a2),(3,.U bt),(6,.q b' cb bF.2.1),(16,.i ez),(236,.bool true),(244,undef)] I fun a I=>c9 ?_
       refine cx [35,36,37] 3 [2,3,6,16,247] [1,1,1] (fr':=[(2,.U a2),(3,.U bt),(6,.q b' cb bF.2.1),(16,.i ez),(247,.bool true)]) (L:=[]) cq (fun bb ah=>aE) I rfl (by kernel_rfl) rfl (by kernel_rfl) (by kernel_rfl) aF fun a I=>fS (by kernel_rfl) ?_ (fun _=>aF);clear bj aF;refine zU _ _ <| eZ (I.g rfl) rfl <| aG [] [(4,.i 4)] I fun a I=>wp_ret ?_;obtain rfl:=aH h;obtain rfl:=aH Af;refine ba (ao (ao (ba (ao (ao ?_)))));refine bq Tryz.results50 I rfl ?_;exact ⟨rfl,hm.a1 [] []⟩
     have h:=J.dy Gf h;have I:=I.cd 236 rfl Gf
     refine cx [27,28,29,30,31] 5 [2,3,6,16,236,237,238,240,241] [1,0,0,1,1,0,1,1,0,5,1] (fr':=[(2,.U a2),(3,.U bt),(6,.q b' cb bF.2.1),(16,.i ez),(236,.bool false),(237,.agg #[.q ad af h_.Words,.i h_.aA,.i h_.aP,.i h_.aZ,.i h_.aY,.q ar ax h_.ay,.i h_.Next]),(238,.agg #[.q aS aT ag.aO,.q br bw ag.aK,.q bk bm ag.Fields,.q bI bJ ag.Names,.q bG bK ag.aL]),(240,.q ar ax h_.ay),(241,.i ez)]) (L:=[a2,5,bt,0,a2,0]) cq (fun bb ah=>(aD (ch ah (a' (bj.e 2 rfl))) (aD (ch ah (a' (bj.e 1 rfl))) aE))) I rfl (by kernel_rfl) rfl (by kernel_rfl) (by kernel_rfl) aF fun a I=>?_
     obtain ⟨Nj,aBl,h⟩:=J.aQ h;obtain ⟨akA,avp,_,rfl,aq7⟩:=b3 _ (bj.d 4 rfl) aBl;refine ff 32 rfl (by kernel_rfl) (db I rfl rfl rfl rfl) (fun bb=>bL Tryz.underlying22 Tryz.sizeOf3 rfl (I.g rfl) (I.g rfl) akA avp) aF I rfl rfl fun a I=>?_
     refine cx [33] 1 [2,3,6,16,236,237,238,243] [1,0,0] (fr':=[(2,.U a2),(3,.U bt),(6,.q b' cb bF.2.1),(16,.i ez),(236,.bool false),(237,.agg #[.q ad af h_.Words,.i h_.aA,.i h_.aP,.i h_.aZ,.i h_.aY,.q ar ax h_.ay,.i h_.Next]),(238,.agg #[.q aS aT ag.aO,.q br bw ag.aK,.q bk bm ag.Fields,.q bI bJ ag.Names,.q bG bK ag.aL]),(243,.i Nj)]) (L:=[bM ar,bP ar+(ez).toNat* 1]) cq (fun bb ah=>(aD (ch ah aq7) aE)) I rfl (by kernel_rfl) rfl (by kernel_rfl) (by kernel_rfl) aF fun a I=>dk 34 rfl (by kernel_rfl) (fun _=>aF) ?_
     obtain ⟨WQ,ayU,h⟩:=J.aQ h;have hc:=hm;refine bU (vs:=[.agg #[.q ad af h_.Words,.i h_.aA,.i h_.aP,.i h_.aZ,.i h_.aY,.q ar ax h_.ay,.i h_.Next],.agg #[.q aS aT ag.aO,.q br bw ag.aK,.q bk bm ag.Fields,.q bI bJ ag.Names,.q bG bK ag.aL],.i Nj]) (db I rfl rfl rfl rfl) rfl Tryz.call43 ⟨(I.g rfl),(I.g rfl),(I.g rfl),trivial⟩ (Kx ((hc.into 0).pick ⟨⟨3,rfl⟩,⟨4,rfl⟩,⟨5,rfl⟩,⟨6,rfl⟩,⟨7,rfl⟩,⟨8,rfl⟩,⟨9,rfl⟩,trivial⟩) ayU) I rfl rfl ?_;rintro _ w ⟨aHf,aHw,aIS,rfl,ai⟩;refine ⟨_,rfl,fun a I=>?_⟩;have ah:bg [] _ w:=ai.ev;have hm:=hc.back 0 ai
     clear ai hc;have aF:=fT aF ah;clear ah;refine c9 <| cx [35,36,37] 3 [2,3,6,16,247] [1,1,1] (fr':=[(2,.U a2),(3,.U bt),(6,.q b' cb bF.2.1),(16,.i ez),(247,.bool (decide ((WQ.length:Int)= 0)))]) (L:=[]) cq (fun bb ah=>aE) I rfl (by kernel_rfl) rfl (by kernel_rfl) (by kernel_rfl) aF fun a I=>fS (by kernel_rfl) ?_ (fun _=>aF);clear bj aF;refine zU _ _ <| bn (I.g rfl) h (fun aot h=>?_) (fun aot h=>?_)
     · refine aG [] [(4,.i 4)] I fun a I=>wp_ret ?_;obtain rfl:=aH h;obtain rfl:=aH Af;refine ba (ao (ao (ba (ao (ao ?_)))));refine bq Tryz.results50 I rfl ?_;exact ⟨rfl,hm.a1 [] []⟩
     refine wp_skip <| KT _ _ <| cn [] [(2,.U a2),(3,.U bt),(6,.q b' cb bF.2.1),(16,.i (J.av (ez+ 1)))] I fun a I=>?_;exact KS _ _ ⟨J.av (ez+ 1),I.cut,hm.a1 [1,2,3] [1,2,3,4,5,6,7,8,9,10],h⟩
   refine wp_exit <| bD (bD (cD ?_));exact QM _ _ ⟨I.cut,hm,(os h)⟩
 rintro a w ⟨I,hm,bf⟩;subst U7;have h:=Af;clear Af;dsimp only [J.ep] at h;refine QL _ _ <| wp_seq_k fun K QP=>aG [] [(2,.U a2),(3,.U bt),(6,.q b' cb bF.2.1),(17,.i 0)] I fun a I=>?_;obtain ⟨Vh,h,SR⟩:=J.eC h
 refine cp (fun a w=>Fr ⟨288,[]⟩ [] a/\aw W M0 X w [au.row 3 1 (.q di dw ck) ck f_,au.bs bt 30 [.q aS aT ag.aO,.q br bw ag.aK,.q bk bm ag.Fields,.q bI bJ ag.Names,.q bG bK ag.aL],au.bs a2 24 [.q ad af h_.Words,.i h_.aA,.i h_.aP,.i h_.aZ,.i h_.aY,.q ar ax h_.ay,.i h_.Next]] [ap.rows (aq .i64) f_ ck,aa (aq .i64) b' cb bF.2.1,aa (aq .i64) g9 g_ bF.1,aa (aq .i64) ad af h_.Words,aa (aq .i64) ar ax h_.ay,aa J.bd aS aT ag.aO,aa (aq .i64) br bw ag.aK,aa (aN J.aX) bk bm ag.Fields,aa (aN bE) bI bJ ag.Names,aa (aN J.bW) bG bK ag.aL]/\Vh=(.go ())) (fun K QQ=>?_) ?_
 · refine cN (fun (uU:Nat) a w=>∃ (fY:Int),Fr ⟨288,[]⟩ [(2,.U a2),(3,.U bt),(6,.q b' cb bF.2.1),(17,.i fY)] a/\aw W M0 X w [au.row 3 1 (.q di dw ck) ck f_,au.bs bt 30 [.q aS aT ag.aO,.q br bw ag.aK,.q bk bm ag.Fields,.q bI bJ ag.Names,.q bG bK ag.aL],au.bs a2 24 [.q ad af h_.Words,.i h_.aA,.i h_.aP,.i h_.aZ,.i h_.aY,.q ar ax h_.ay,.i h_.Next]] [ap.rows (aq .i64) f_ ck,aa (aq .i64) b' cb bF.2.1,aa (aq .i64) g9 g_ bF.1,aa (aq .i64) ad af h_.Words,aa (aq .i64) ar ax h_.ay,aa J.bd aS aT ag.aO,aa (aq .i64) br bw ag.aK,aa (aN J.aX) bk bm ag.Fields,aa (aN bE) bI bJ ag.Names,aa (aN J.bW) bG bK ag.aL]/\J.wG F h_ ag bF uU fY=some Vh) F ⟨0,I.cut,hm,h⟩ ?_ ?_
   · rintro a w ⟨fY,I,hm,h⟩;exact absurd h (by simp [J.wG])
   rintro uU a w ⟨fY,I,hm,h⟩ K QR;rw [J.wG] at h;refine wp_seq_k fun K QS=>aG [] [(2,.U a2),(3,.U bt),(6,.q b' cb bF.2.1),(17,.i fY),(251,.bool (decide (fY <(bF.2.1.length:Int))))] I fun a I=>bn (I.g rfl) h (fun ao_ h=>?_) (fun ao_ h=>?_)
   · refine wp_skip <| QS _ _ <| wp_seq_k fun K QT=>?_;obtain ⟨adl,h,S6⟩:=J.fl h
     refine cp (fun a w=>Fr ⟨288,[]⟩ [(2,.U a2),(3,.U bt),(6,.q b' cb bF.2.1),(17,.i fY)] a/\aw W M0 X w [au.row 3 1 (.q di dw ck) ck f_,au.bs bt 30 [.q aS aT ag.aO,.q br bw ag.aK,.q bk bm ag.Fields,.q bI bJ ag.Names,.q bG bK ag.aL],au.bs a2 24 [.q ad af h_.Words,.i h_.aA,.i h_.aP,.i h_.aZ,.i h_.aY,.q ar ax h_.ay,.i h_.Next]] [ap.rows (aq .i64) f_ ck,aa (aq .i64) b' cb bF.2.1,aa (aq .i64) g9 g_ bF.1,aa (aq .i64) ad af h_.Words,aa (aq .i64) ar ax h_.ay,aa J.bd aS aT ag.aO,aa (aq .i64) br bw ag.aK,aa (aN J.aX) bk bm ag.Fields,aa (aN bE) bI bJ ag.Names,aa (aN J.bW) bG bK ag.aL]/\adl=(.go ())) (fun K amJ=>?_) ?_
     · refine wp_seq_k fun K QU=>ix (m:=8) 8 (bg []) (by kernel_rfl) rfl fun w ah=>?_;have hm:=hm.dX ah;clear ah;have bj:=hm;have aF:=bg.refl [] w
       refine cx [0,1,2,3] 4 [2,3,6,17,254,255,256,257] [0,0,1,0] (fr':=[(2,.U a2),(3,.U bt),(6,.q b' cb bF.2.1),(17,.i fY),(254,.agg #[.q ad af h_.Words,.i h_.aA,.i h_.aP,.i h_.aZ,.i h_.aY,.q ar ax h_.ay,.i h_.Next]),(255,.agg #[.q aS aT ag.aO,.q br bw ag.aK,.q bk bm ag.Fields,.q bI bJ ag.Names,.q bG bK ag.aL]),(256,.q b' cb bF.2.1),(257,.i fY)]) (L:=[bt,0,a2,0]) cq (fun bb ah=>(aD (ch ah (a' (bj.e 2 rfl))) (aD (ch ah (a' (bj.e 1 rfl))) aE))) I rfl (by kernel_rfl) rfl (by kernel_rfl) (by kernel_rfl) aF fun a I=>?_
       obtain ⟨Nt,aBU,h⟩:=J.aQ h;obtain ⟨ak_,av0,_,rfl,arH⟩:=b3 _ (bj.d 1 rfl) aBU;refine ff 4 rfl (by kernel_rfl) wn (fun bb=>bL Tryz.underlying22 Tryz.sizeOf3 rfl (I.g rfl) (I.g rfl) ak_ av0) aF I rfl rfl fun a I=>?_
       refine cx [5] 1 [2,3,6,17,254,255,259] [0,0] (fr':=[(2,.U a2),(3,.U bt),(6,.q b' cb bF.2.1),(17,.i fY),(254,.agg #[.q ad af h_.Words,.i h_.aA,.i h_.aP,.i h_.aZ,.i h_.aY,.q ar ax h_.ay,.i h_.Next]),(255,.agg #[.q aS aT ag.aO,.q br bw ag.aK,.q bk bm ag.Fields,.q bI bJ ag.Names,.q bG bK ag.aL]),(259,.i Nt)]) (L:=[bM b',bP b'+(fY).toNat* 1]) cq (fun bb ah=>(aD (ch ah arH) aE)) I rfl (by kernel_rfl) rfl (by kernel_rfl) (by kernel_rfl) aF fun a I=>dk 6 rfl (by kernel_rfl) (fun _=>aF) ?_;obtain ⟨hI,azj,h⟩:=J.aQ h
       have hc:=hm;refine bU (vs:=[.agg #[.q ad af h_.Words,.i h_.aA,.i h_.aP,.i h_.aZ,.i h_.aY,.q ar ax h_.ay,.i h_.Next],.agg #[.q aS aT ag.aO,.q br bw ag.aK,.q bk bm ag.Fields,.q bI bJ ag.Names,.q bG bK ag.aL],.i Nt]) wn rfl Tryz.call43 ⟨(I.g rfl),(I.g rfl),(I.g rfl),trivial⟩ (Kx ((hc.into 0).pick ⟨⟨3,rfl⟩,⟨4,rfl⟩,⟨5,rfl⟩,⟨6,rfl⟩,⟨7,rfl⟩,⟨8,rfl⟩,⟨9,rfl⟩,trivial⟩) azj) I rfl rfl ?_;rintro _ w ⟨ko,ll,N7,rfl,ai⟩;refine ⟨_,rfl,fun a I=>?_⟩;have ah:bg [] _ w:=ai.ev;have hm:=hc.back 0 ai;clear ai hc
       have aF:=fT aF ah;clear ah;refine c9 <| cx [7] 1 [2,3,6,17,18] [] (fr':=[(2,.U a2),(3,.U bt),(6,.q b' cb bF.2.1),(17,.i fY),(18,.q ko ll hI)]) (L:=[]) cq (fun bb ah=>aE) I rfl (by kernel_rfl) rfl (by kernel_rfl) (by kernel_rfl) aF fun a I=>fS (by kernel_rfl) ?_ (fun _=>aF);clear bj aF;refine QU _ _ <| aG [] [(2,.U a2),(3,.U bt),(6,.q b' cb bF.2.1),(17,.i fY),(18,.q ko ll hI),(19,.i 0)] I fun a I=>?_;obtain ⟨Vu,h,S7⟩:=J.fl h
       refine cp (fun a w=>Fr ⟨288,[]⟩ [(2,.U a2),(3,.U bt),(6,.q b' cb bF.2.1),(17,.i fY)] a/\aw W M0 X w [au.row 3 1 (.q ko ll hI) hI N7,au.row 3 1 (.q di dw ck) ck f_,au.bs bt 30 [.q aS aT ag.aO,.q br bw ag.aK,.q bk bm ag.Fields,.q bI bJ ag.Names,.q bG bK ag.aL],au.bs a2 24 [.q ad af h_.Words,.i h_.aA,.i h_.aP,.i h_.aZ,.i h_.aY,.q ar ax h_.ay,.i h_.Next]] [ap.rows (aq .i64) N7 hI,ap.rows (aq .i64) f_ ck,aa (aq .i64) b' cb bF.2.1,aa (aq .i64) g9 g_ bF.1,aa (aq .i64) ad af h_.Words,aa (aq .i64) ar ax h_.ay,aa J.bd aS aT ag.aO,aa (aq .i64) br bw ag.aK,aa (aN J.aX) bk bm ag.Fields,aa (aN bE) bI bJ ag.Names,aa (aN J.bW) bG bK ag.aL]/\Vu=(.go ())) (fun K QV=>?_) ?_
       · refine cN (fun (sO:Nat) a w=>∃ (iO:Int),Fr ⟨288,[]⟩ [(2,.U a2),(3,.U bt),(6,.q b' cb bF.2.1),(17,.i fY),(18,.q ko ll hI),(19,.i iO)] a/\aw W M0 X w [au.row 3 1 (.q ko ll hI) hI N7,au.row 3 1 (.q di dw ck) ck f_,au.bs bt 30 [.q aS aT ag.aO,.q br bw ag.aK,.q bk bm ag.Fields,.q bI bJ ag.Names,.q bG bK ag.aL],au.bs a2 24 [.q ad af h_.Words,.i h_.aA,.i h_.aP,.i h_.aZ,.i h_.aY,.q ar ax h_.ay,.i h_.Next]] [ap.rows (aq .i64) N7 hI,ap.rows (aq .i64) f_ ck,aa (aq .i64) b' cb bF.2.1,aa (aq .i64) g9 g_ bF.1,aa (aq .i64) ad af h_.Words,aa (aq .i64) ar ax h_.ay,aa J.bd aS aT ag.aO,aa (aq .i64) br bw ag.aK,aa (aN J.aX) bk bm ag.Fields,aa (aN bE) bI bJ ag.Names,aa (aN J.bW) bG bK ag.aL]/\J.tA F h_ bF fY hI sO iO=some Vu) F ⟨0,I.cut,hm,h⟩ ?_ ?_
         · rintro a w ⟨iO,I,hm,h⟩;exact absurd h (by simp [J.tA])
         rintro sO a w ⟨iO,I,hm,h⟩ K abr;rw [J.tA] at h;refine wp_seq_k fun K QW=>aG [] [(2,.U a2),(3,.U bt),(6,.q b' cb bF.2.1),(17,.i fY),(18,.q ko ll hI),(19,.i iO),(264,.bool (decide (iO <(hI.length:Int))))] I fun a I=>bn (I.g rfl) h (fun apd h=>?_) (fun apd h=>?_)
         · refine wp_skip <| QW _ _ <| wp_seq_k fun K KU=>wp_block <| wp_seq_k fun K KV=>ix (m:=21) 21 (bg []) (by kernel_rfl) rfl fun w ah=>?_;have hm:=hm.dX ah;clear ah;have bj:=hm;have aF:=bg.refl [] w
           refine cx [0,1,2,3,8,9] 6 [2,3,6,17,18,19,268,269,270,276] [0,0,0,1] (fr':=[(2,.U a2),(3,.U bt),(6,.q b' cb bF.2.1),(17,.i fY),(18,.q ko ll hI),(19,.i iO),(268,.q ad af h_.Words),(269,.q ko ll hI),(270,.i iO),(276,.i h_.aA)]) (L:=[a2,1,a2,0]) cq (fun bb ah=>(aD (ch ah (a' (bj.e 3 rfl))) aE)) I rfl (by kernel_rfl) rfl (by kernel_rfl) (by kernel_rfl) aF fun a I=>?_;obtain ⟨Nv,aBV,h⟩:=J.aQ h;obtain ⟨ak',av1,_,rfl,arJ⟩:=hJ (bj.e 0 rfl) (bj.d 0 rfl) aBV
           refine ff 4 rfl (by kernel_rfl) wn (fun bb=>bL Tryz.underlying22 Tryz.sizeOf3 rfl (I.g rfl) (I.g rfl) ak' av1) aF I rfl rfl fun a I=>cx [5] 1 [2,3,6,17,18,19,268,272,276] [0,0] (fr':=[(2,.U a2),(3,.U bt),(6,.q b' cb bF.2.1),(17,.i fY),(18,.q ko ll hI),(19,.i iO),(268,.q ad af h_.Words),(272,.i Nv),(276,.i h_.aA)]) (L:=[bM ko,bP ko+(iO).toNat* 1]) cq (fun bb ah=>(aD (ch ah arJ) aE)) I rfl (by kernel_rfl) rfl (by kernel_rfl) (by kernel_rfl) aF fun a I=>?_;obtain ⟨Nw,aBW,h⟩:=J.aQ h;obtain ⟨ala,av2,_,rfl,arK⟩:=b3 _ (bj.d 4 rfl) aBW
           refine ff 6 rfl (by kernel_rfl) wn (fun bb=>bL Tryz.underlying22 Tryz.sizeOf3 rfl (I.g rfl) (I.g rfl) ala av2) aF I rfl rfl fun a I=>cx [7] 1 [2,3,6,17,18,19,274,276] [0,0] (fr':=[(2,.U a2),(3,.U bt),(6,.q b' cb bF.2.1),(17,.i fY),(18,.q ko ll hI),(19,.i iO),(274,.i Nw),(276,.i h_.aA)]) (L:=[bM ad,bP ad+(Nv).toNat* 1]) cq (fun bb ah=>(aD (ch ah arK) aE)) I rfl (by kernel_rfl) rfl (by kernel_rfl) (by kernel_rfl) aF fun a I=>dk 10 rfl (by kernel_rfl) (fun _=>aF) ?_;obtain ⟨Mp,azl,h⟩:=J.aQ h;have hc:=hm
           refine bU (vs:=[.i Nw,.i 1,.i h_.aA]) wn rfl Tryz.call41 ⟨(I.g rfl),(c' _ _),(I.g rfl),trivial⟩ (pf ((hc.into 0).pick trivial) azl) I rfl rfl ?_;rintro _ w ⟨rfl,ai⟩;refine ⟨_,rfl,fun a I=>?_⟩;have ah:bg [] _ w:=ai.ev;have hm:=hc.back 0 ai;clear ai hc;have aF:=fT aF ah;clear ah;refine c9 ?_
           refine cx [11] 1 [2,3,6,17,18,19,278] [] (fr':=[(2,.U a2),(3,.U bt),(6,.q b' cb bF.2.1),(17,.i fY),(18,.q ko ll hI),(19,.i iO),(278,.bool Mp)]) (L:=[]) cq (fun bb ah=>aE) I rfl (by kernel_rfl) rfl (by kernel_rfl) (by kernel_rfl) aF fun a I=>?_;rcases Bool.eq_false_or_eq_true Mp with Gn | Gn
           · have h:=J.dz Gn h;have I:=I.cd 278 rfl Gn;refine cx [12,13,14,15] 4 [2,3,6,17,18,19,278,280,281,282] [1,1,0,5,1,1] (fr':=[(2,.U a2),(3,.U bt),(6,.q b' cb bF.2.1),(17,.i fY),(18,.q ko ll hI),(19,.i iO),(278,.bool true),(280,.q ar ax h_.ay),(281,.q b' cb bF.2.1),(282,.i fY)]) (L:=[a2,5]) cq (fun bb ah=>(aD (ch ah (a' (bj.e 3 rfl))) aE)) I rfl (by kernel_rfl) rfl (by kernel_rfl) (by kernel_rfl) aF fun a I=>?_;obtain ⟨Nx,aBY,h⟩:=J.aQ h;obtain ⟨alb,av3,_,rfl,arL⟩:=b3 _ (bj.d 2 rfl) aBY
             refine ff 16 rfl (by kernel_rfl) (db I rfl rfl rfl rfl) (fun bb=>bL Tryz.underlying22 Tryz.sizeOf3 rfl (I.g rfl) (I.g rfl) alb av3) aF I rfl rfl fun a I=>cx [17] 1 [2,3,6,17,18,19,278,280,284] [1,0,0] (fr':=[(2,.U a2),(3,.U bt),(6,.q b' cb bF.2.1),(17,.i fY),(18,.q ko ll hI),(19,.i iO),(278,.bool true),(280,.q ar ax h_.ay),(284,.i Nx)]) (L:=[bM b',bP b'+(fY).toNat* 1]) cq (fun bb ah=>(aD (ch ah arL) aE)) I rfl (by kernel_rfl) rfl (by kernel_rfl) (by kernel_rfl) aF fun a I=>dk 18 rfl (by kernel_rfl) (fun _=>aF) ?_;obtain ⟨W7,azm,h⟩:=J.aQ h;have hc:=hm
             refine bU (vs:=[.q ar ax h_.ay,.i Nx]) (db I rfl rfl rfl rfl) rfl Tryz.call42 ⟨(I.g rfl),(I.g rfl),trivial⟩ (Kw ((hc.into 0).pick ⟨⟨5,rfl⟩,trivial⟩) azm) I rfl rfl ?_;rintro _ w ⟨rfl,ai⟩;refine ⟨_,rfl,fun a I=>?_⟩;have ah:bg [] _ w:=ai.ev;have hm:=hc.back 0 ai;clear ai hc;have aF:=fT aF ah;clear ah;refine c9 ?_
             refine cx [19,20] 2 [2,3,6,17,18,19,287] [1,1] (fr':=[(2,.U a2),(3,.U bt),(6,.q b' cb bF.2.1),(17,.i fY),(18,.q ko ll hI),(19,.i iO),(287,.bool (!W7))]) (L:=[]) cq (fun bb ah=>aE) I rfl (by kernel_rfl) rfl (by kernel_rfl) (by kernel_rfl) aF fun a I=>fS (by kernel_rfl) ?_ (fun _=>aF);clear bj aF;refine KV _ _ <| bn (I.g rfl) h (fun apf h=>?_) (fun apf h=>?_)
             · refine aG [] [(4,.i 4)] I fun a I=>wp_ret ?_;obtain rfl:=aH h;obtain rfl:=aH S7;obtain rfl:=aH S6;obtain rfl:=aH SR;refine ba (ao (ao (ba (ao (ba (ao (ao (ao (ba (ao (ao ?_)))))))))));refine bq Tryz.results50 I rfl ?_;exact ⟨rfl,hm.a1 [] []⟩
             refine wp_skip <| KU _ _ <| cn [] [(2,.U a2),(3,.U bt),(6,.q b' cb bF.2.1),(17,.i fY),(18,.q ko ll hI),(19,.i (J.av (iO+ 1)))] I fun a I=>?_;exact abr _ _ ⟨J.av (iO+ 1),I.cut,hm,h⟩
           have h:=J.dy Gn h;have I:=I.cd 278 rfl Gn;refine cx [12,13,14,15,16,17] 6 [2,3,6,17,18,19,278,280,284] [1,1,1,1,1,1] (fr':=[(2,.U a2),(3,.U bt),(6,.q b' cb bF.2.1),(17,.i fY),(18,.q ko ll hI),(19,.i iO),(278,.bool false),(280,undef),(284,undef)]) (L:=[]) cq (fun bb ah=>aE) I rfl (by kernel_rfl) rfl (by kernel_rfl) (by kernel_rfl) aF fun a I=>dk 18 rfl (by kernel_rfl) (fun _=>aF) <| aM 1 [1] [(2,.U a2),(3,.U bt),(6,.q b' cb bF.2.1),(17,.i fY),(18,.q ko ll hI),(19,.i iO),(278,.bool false),(285,undef)] I fun a I=>?_
           refine c9 <| cx [19,20] 2 [2,3,6,17,18,19,287] [1,1] (fr':=[(2,.U a2),(3,.U bt),(6,.q b' cb bF.2.1),(17,.i fY),(18,.q ko ll hI),(19,.i iO),(287,.bool false)]) (L:=[]) cq (fun bb ah=>aE) I rfl (by kernel_rfl) rfl (by kernel_rfl) (by kernel_rfl) aF fun a I=>fS (by kernel_rfl) ?_ (fun _=>aF);clear bj aF;refine KV _ _ <| jD (I.g rfl) rfl <| wp_skip <| KU _ _ <| cn [] [(2,.U a2),(3,.U bt),(6,.q b' cb bF.2.1),(17,.i fY),(18,.q ko ll hI),(19,.i (J.av (iO+ 1)))] I fun a I=>?_
           exact abr _ _ ⟨J.av (iO+ 1),I.cut,hm,h⟩
         refine wp_exit <| bD (bD (cD ?_));exact QV _ _ ⟨I.cut,hm,(os h)⟩
       rintro a w ⟨I,hm,bf⟩;subst Vu;have h:=S7;clear S7;dsimp only [J.fa] at h;exact amJ _ _ ⟨I.cut,hm.a1 [1,2,3] [1,2,3,4,5,6,7,8,9,10],(os h)⟩
     rintro a w ⟨I,hm,bf⟩;subst adl;have h:=S6;clear S6;dsimp only [J.fa] at h;refine QT _ _ <| cn [] [(2,.U a2),(3,.U bt),(6,.q b' cb bF.2.1),(17,.i (J.av (fY+ 1)))] I fun a I=>?_;exact QR _ _ ⟨J.av (fY+ 1),I.cut,hm,h⟩
   refine wp_exit <| bD (bD (cD ?_));exact QQ _ _ ⟨I.cut,hm,(os h)⟩
 rintro a w ⟨I,hm,bf⟩;subst Vh;have h:=SR;clear SR;dsimp only [J.ep] at h;refine QP _ _ <| aG [] [(4,.i 0)] I fun a I=>wp_ret ?_;obtain rfl:=aH h;refine bq Tryz.results50 I rfl ?_;exact ⟨rfl,hm.a1 [] []⟩
theorem ag' {W:World} {X:List Nat} {F:Nat} {h_:J.bO} {ag:J.bC} {r:Int} {ad:aU} {af:Nat} {ar:aU} {ax:Nat} {aS:aU} {aT:Nat} {br:aU} {bw:Nat} {bk:aU} {bm:Nat} {bI:aU} {bJ:Nat} {bG:aU} {bK:Nat} {M0:List Nat} (hm:aw W M0 X W [] [aa (aq .i64) ad af h_.Words,aa (aq .i64) ar ax h_.ay,aa J.bd aS aT ag.aO,aa (aq .i64) br bw ag.aK,aa (aN J.aX) bk bm ag.Fields,aa (aN bE) bI bJ ag.Names,aa (aN J.bW) bG bK ag.aL]) (h:J.BK F h_ ag=some r) :
 Calls Tryz.prog 18 [.agg #[.q ad af h_.Words,.i h_.aA,.i h_.aP,.i h_.aZ,.i h_.aY,.q ar ax h_.ay,.i h_.Next],.agg #[.q aS aT ag.aO,.q br bw ag.aK,.q bk bm ag.Fields,.q bI bJ ag.Names,.q bG bK ag.aL]].toArray W (fun e aJ=>e= .returned (.i r)/\aw W M0 X aJ [] []):=by
 refine enter Tryz.func18 rfl Tryz.ntmps18 rfl fun a I=>?_;rw [J.BK] at h;refine wp_seq_k fun K dq=>a7 <| cZ (cs:=[.q ad af h_.Words,.i h_.aA,.i h_.aP,.i h_.aZ,.i h_.aY,.q ar ax h_.ay,.i h_.Next]) wn (eV rfl rfl (I.g rfl)) I hm rfl rfl fun a a2 w _ I hm=>cZ (cs:=[.q aS aT ag.aO,.q br bw ag.aK,.q bk bm ag.Fields,.q bI bJ ag.Names,.q bG bK ag.aL]) wn (eV rfl rfl (I.g rfl)) I hm rfl rfl fun a bt w _ I hm=>?_
 refine aM 1 [] [(2,.U a2),(3,.U bt)] I fun a I=>wpList_nil (dq _ _ ?_);refine wp_seq_k fun K bT=>a7 <| bh 1 [0,0] [(2,.U a2),(3,.U bt),(6,.agg #[.q aS aT ag.aO,.q br bw ag.aK,.q bk bm ag.Fields,.q bI bJ ag.Names,.q bG bK ag.aL])] [bt,0] (aD (a' (hm.e 0 rfl)) aE) I fun a I=>?_;obtain ⟨cB,ly,h⟩:=J.aQ h;have hc:=hm
 refine bU (vs:=[.agg #[.q aS aT ag.aO,.q br bw ag.aK,.q bk bm ag.Fields,.q bI bJ ag.Names,.q bG bK ag.aL]]) wn rfl Tryz.call49 ⟨(I.g rfl),trivial⟩ (ag7 ((hc.into 0).pick ⟨⟨2,rfl⟩,⟨3,rfl⟩,⟨4,rfl⟩,⟨5,rfl⟩,⟨6,rfl⟩,trivial⟩) ly) I rfl rfl ?_;rintro _ w ⟨rfl,ai⟩;refine ⟨_,rfl,fun a I=>?_⟩;have hm:=hc.back 0 ai;clear ai hc;refine aM 1 [] [(2,.U a2),(3,.U bt),(5,.i cB)] I fun a I=>wpList_nil (bT _ _ ?_);refine wp_seq_k fun K cw=>wp_seq_k fun K c4=>?_
 refine cn [] [(2,.U a2),(3,.U bt),(5,.i cB),(9,.bool (decide (cB= 0)))] I fun a I=>c4 _ _ <| bn (I.g rfl) h (fun mg h=>?_) (fun mg h=>?_)
 · refine a7 <| bh 2 [0,0,1,0] [(5,.i cB),(10,.agg #[.q ad af h_.Words,.i h_.aA,.i h_.aP,.i h_.aZ,.i h_.aY,.q ar ax h_.ay,.i h_.Next]),(11,.agg #[.q aS aT ag.aO,.q br bw ag.aK,.q bk bm ag.Fields,.q bI bJ ag.Names,.q bG bK ag.aL])] [bt,0,a2,0] (aD (a' (hm.e 1 rfl)) (aD (a' (hm.e 0 rfl)) aE)) I fun a I=>?_;obtain ⟨l0,pD,h⟩:=J.aQ h;have hc:=hm
   refine bU (vs:=[.agg #[.q ad af h_.Words,.i h_.aA,.i h_.aP,.i h_.aZ,.i h_.aY,.q ar ax h_.ay,.i h_.Next],.agg #[.q aS aT ag.aO,.q br bw ag.aK,.q bk bm ag.Fields,.q bI bJ ag.Names,.q bG bK ag.aL]]) wn rfl Tryz.call50 ⟨(I.g rfl),(I.g rfl),trivial⟩ (ag5 ((hc.into 0).pick ⟨⟨0,rfl⟩,⟨1,rfl⟩,⟨2,rfl⟩,⟨3,rfl⟩,⟨4,rfl⟩,⟨5,rfl⟩,⟨6,rfl⟩,trivial⟩) pD) I rfl rfl ?_;rintro _ w ⟨rfl,ai⟩;refine ⟨_,rfl,fun a I=>?_⟩;have hm:=hc.back 0 ai;clear ai hc
   refine aM 1 [] [(5,.i l0)] I fun a I=>wpList_nil (cw _ _ ?_);refine aG [] [(4,.i l0)] I fun a I=>wp_ret ?_;obtain rfl:=aH h;refine bq Tryz.results18 I rfl ?_;exact ⟨rfl,hm.a1 [] []⟩
 refine wp_skip <| cw _ _ <| aG [] [(4,.i cB)] I fun a I=>wp_ret ?_;obtain rfl:=aH h;refine bq Tryz.results18 I rfl ?_;exact ⟨rfl,hm.a1 [] []⟩
end Go.Proofs.YtpkhpagplommoaaGreat
namespace J
def JR (F:Nat) (h_:bO) (ag:bC):Option (Bool):=
 (JS F).bind fun cB=>
 cond (cB) ((GB F (⟨h_.Words,h_.aA,h_.aP,h_.aZ,h_.aY,h_.ay,h_.Next⟩:bO) (⟨ag.aO,ag.aK,ag.Fields,ag.Names,ag.aL⟩:bC)).bind fun l0=>
 (BK F (⟨h_.Words,h_.aA,h_.aP,h_.aZ,h_.aY,h_.ay,h_.Next⟩:bO) (⟨ag.aO,ag.aK,ag.Fields,ag.Names,ag.aL⟩:bC)).bind fun dQ=>
 some (decide (l0=dQ))) (some false)
end J
namespace Go.Proofs.YtpkhpagplommoaaGreat
open Go Go.RowKit a5
set_option maxHeartbeats 4000000
set_option maxRecDepth 20000
theorem ag1 {W:World} {X:List Nat} {F:Nat} {h_:J.bO} {ag:J.bC} {r:Bool} {ad:aU} {af:Nat} {ar:aU} {ax:Nat} {aS:aU} {aT:Nat} {br:aU} {bw:Nat} {bk:aU} {bm:Nat} {bI:aU} {bJ:Nat} {bG:aU} {bK:Nat} {M0:List Nat} (hm:aw W M0 X W [] [aa (aq .i64) ad af h_.Words,aa (aq .i64) ar ax h_.ay,aa J.bd aS aT ag.aO,aa (aq .i64) br bw ag.aK,aa (aN J.aX) bk bm ag.Fields,aa (aN bE) bI bJ ag.Names,aa (aN J.bW) bG bK ag.aL]) (h:J.JR F h_ ag=some r) :
 Calls Tryz.prog 8 [.agg #[.q ad af h_.Words,.i h_.aA,.i h_.aP,.i h_.aZ,.i h_.aY,.q ar ax h_.ay,.i h_.Next],.agg #[.q aS aT ag.aO,.q br bw ag.aK,.q bk bm ag.Fields,.q bI bJ ag.Names,.q bG bK ag.aL]].toArray W (fun e aJ=>e= .returned (.bool r)/\aw W M0 X aJ [] []):=by
 refine enter Tryz.func8 rfl Tryz.ntmps8 rfl fun a I=>?_;rw [J.JR] at h;refine wp_seq_k fun K dq=>a7 <| cZ (cs:=[.q ad af h_.Words,.i h_.aA,.i h_.aP,.i h_.aZ,.i h_.aY,.q ar ax h_.ay,.i h_.Next]) wn (eV rfl rfl (I.g rfl)) I hm rfl rfl fun a a2 w _ I hm=>cZ (cs:=[.q aS aT ag.aO,.q br bw ag.aK,.q bk bm ag.Fields,.q bI bJ ag.Names,.q bG bK ag.aL]) wn (eV rfl rfl (I.g rfl)) I hm rfl rfl fun a bt w _ I hm=>?_
 refine aM 1 [] [(2,.U a2),(3,.U bt)] I fun a I=>wpList_nil (dq _ _ ?_);refine wp_seq_k fun K bT=>ix (m:=11) 11 (bg []) (by kernel_rfl) rfl fun w ah=>?_;have hm:=hm.dX ah;clear ah;have bj:=hm;have aF:=bg.refl [] w;refine dk 0 rfl (by kernel_rfl) (fun _=>aF) ?_;obtain ⟨cB,ly,h⟩:=J.aQ h;have hc:=hm;refine bU (vs:=[]) wn rfl Tryz.call23 trivial (ag3 ((hc.into 0).pick trivial) ly) I rfl rfl ?_;rintro _ w ⟨rfl,ai⟩;refine ⟨_,rfl,fun a I=>?_⟩;have ah:bg [] _ w:=ai.ev;have hm:=hc.back 0 ai;clear ai hc;have aF:=fT aF ah;clear ah;refine c9 ?_
 refine cx [1] 1 [2,3,6] [] (fr':=[(2,.U a2),(3,.U bt),(6,.bool cB)]) (L:=[]) cq (fun bb ah=>aE) I rfl (by kernel_rfl) rfl (by kernel_rfl) (by kernel_rfl) aF fun a I=>?_;rcases Bool.eq_false_or_eq_true cB with mg | mg
 · have h:=J.dz mg h;have I:=I.cd 6 rfl mg
   refine cx [2,3,5,6] 4 [6,7,8,10,11] [1,0,0,1,1,0,1,0,0,1,1,0] (fr':=[(6,.bool true),(7,.agg #[.q ad af h_.Words,.i h_.aA,.i h_.aP,.i h_.aZ,.i h_.aY,.q ar ax h_.ay,.i h_.Next]),(8,.agg #[.q aS aT ag.aO,.q br bw ag.aK,.q bk bm ag.Fields,.q bI bJ ag.Names,.q bG bK ag.aL]),(10,.agg #[.q ad af h_.Words,.i h_.aA,.i h_.aP,.i h_.aZ,.i h_.aY,.q ar ax h_.ay,.i h_.Next]),(11,.agg #[.q aS aT ag.aO,.q br bw ag.aK,.q bk bm ag.Fields,.q bI bJ ag.Names,.q bG bK ag.aL])]) (L:=[bt,0,a2,0,bt,0,a2,0]) cq (fun bb ah=>(aD (ch ah (a' (bj.e 1 rfl))) (aD (ch ah (a' (bj.e 0 rfl))) aE))) I rfl (by kernel_rfl) rfl (by kernel_rfl) (by kernel_rfl) aF fun a I=>?_
   refine dk 4 rfl (by kernel_rfl) (fun _=>aF) ?_;obtain ⟨l0,pD,h⟩:=J.aQ h;have hc:=hm;refine bU (vs:=[.agg #[.q ad af h_.Words,.i h_.aA,.i h_.aP,.i h_.aZ,.i h_.aY,.q ar ax h_.ay,.i h_.Next],.agg #[.q aS aT ag.aO,.q br bw ag.aK,.q bk bm ag.Fields,.q bI bJ ag.Names,.q bG bK ag.aL]]) (db I rfl rfl rfl rfl) rfl Tryz.call28 ⟨(I.g rfl),(I.g rfl),trivial⟩ (ahg ((hc.into 0).pick ⟨⟨0,rfl⟩,⟨1,rfl⟩,⟨2,rfl⟩,⟨3,rfl⟩,⟨4,rfl⟩,⟨5,rfl⟩,⟨6,rfl⟩,trivial⟩) pD) I rfl rfl ?_;rintro _ w ⟨rfl,ai⟩;refine ⟨_,rfl,fun a I=>?_⟩;have ah:bg [] _ w:=ai.ev;have hm:=hc.back 0 ai
   clear ai hc;have aF:=fT aF ah;clear ah;refine c9 <| dk 7 rfl (by kernel_rfl) (fun _=>aF) ?_;obtain ⟨dQ,nM,h⟩:=J.aQ h;have hc:=hm;refine bU (vs:=[.agg #[.q ad af h_.Words,.i h_.aA,.i h_.aP,.i h_.aZ,.i h_.aY,.q ar ax h_.ay,.i h_.Next],.agg #[.q aS aT ag.aO,.q br bw ag.aK,.q bk bm ag.Fields,.q bI bJ ag.Names,.q bG bK ag.aL]]) (db I rfl rfl rfl rfl) rfl Tryz.call18 ⟨(I.g rfl),(I.g rfl),trivial⟩ (ag' ((hc.into 0).pick ⟨⟨0,rfl⟩,⟨1,rfl⟩,⟨2,rfl⟩,⟨3,rfl⟩,⟨4,rfl⟩,⟨5,rfl⟩,⟨6,rfl⟩,trivial⟩) nM) I rfl rfl ?_
   rintro _ w ⟨rfl,ai⟩;refine ⟨_,rfl,fun a I=>?_⟩;have ah:bg [] _ w:=ai.ev;have hm:=hc.back 0 ai;clear ai hc;have aF:=fT aF ah;clear ah;refine c9 <| cx [8,9,10] 3 [4] [1,1] (fr':=[(4,.bool (decide (l0=dQ)))]) (L:=[]) cq (fun bb ah=>aE) I rfl (by kernel_rfl) rfl (by kernel_rfl) (by kernel_rfl) aF fun a I=>fS (by kernel_rfl) ?_ (fun _=>aF);clear bj aF;refine bT _ _ <| wp_ret ?_;obtain rfl:=aH h;refine bq Tryz.results8 I rfl ?_;exact ⟨rfl,hm.a1 [] []⟩
 have h:=J.dy mg h;have I:=I.cd 6 rfl mg;refine cx [2,3,5,6] 4 [6,7,8,10,11] [1,1,1,1] (fr':=[(6,.bool false),(7,undef),(8,undef),(10,undef),(11,undef)]) (L:=[]) cq (fun bb ah=>aE) I rfl (by kernel_rfl) rfl (by kernel_rfl) (by kernel_rfl) aF fun a I=>dk 4 rfl (by kernel_rfl) (fun _=>aF) <| aM 1 [1] [(6,.bool false),(9,undef),(10,undef),(11,undef)] I fun a I=>c9 <| dk 7 rfl (by kernel_rfl) (fun _=>aF) <| aM 1 [1] [(6,.bool false),(9,undef),(12,undef)] I fun a I=>c9 <| cx [8,9,10] 3 [4] [1,1] (fr':=[(4,.bool false)]) (L:=[]) cq (fun bb ah=>aE) I rfl (by kernel_rfl) rfl (by kernel_rfl) (by kernel_rfl) aF fun a I=>?_
 refine fS (by kernel_rfl) ?_ (fun _=>aF);clear bj aF;refine bT _ _ <| wp_ret ?_;obtain rfl:=aH h;refine bq Tryz.results8 I rfl ?_;exact ⟨rfl,hm.a1 [] []⟩
end Go.Proofs.YtpkhpagplommoaaGreat
namespace J
theorem e8 {n:Int} (bH: -9223372036854775808 <=n) (aI:n<= 9223372036854775807):av n=n:=by unfold av;omega
theorem hV {i n:Nat} (hi:i <n) (ai:n<= 140737488355328):av ((i:Int)+ 1)=((i+ 1 :Nat):Int):=by
 rw [e8 (by omega) (by omega)];omega
theorem cu {α:Type} {l:List α} {i:Nat} {x:α} (h:l[i]? =some x):idx l (i:Int)=some x:=by
 unfold idx;rw [if_pos (by omega)];simpa using h
theorem cP {i n:Nat} (h:i <n):decide ((i:Int) <(n:Int))=true:=decide_eq_true (by omega)
theorem cO (n:Nat):decide ((n:Int) <(n:Int))=false:=decide_eq_false (by omega)
def dF {ρ:Type}:Option ρ->Way ρ Unit
 | some r=>.out r
 | none=>.go ()
def iR {ρ:Type} (o:Option ρ) (y:Option (Way ρ Unit)):Option (Way ρ Unit):=match o with
 | some r=>some (.out r)
 | none=>y
theorem each {α ρ:Type} {l:List α} {L:Nat->Int->Option (Way ρ Unit)} (g:α->Option ρ) (aC:l.length<= 140737488355328)
 (bc:∀ k (i:Nat) x,l[i]? =some x->L (k+ 1) (i:Int)=iR (g x) (L k (av ((i:Int)+ 1))))
 (he:∀ k,L (k+ 1) (l.length:Int)=some (.go ())) {F:Nat} (b4:l.length <F):L F 0 =some (dF (l.findSome? g)):=by
 have key:∀ (d i k:Nat),i+d=l.length->d <k->L k (i:Int)=some (dF ((l.drop i).findSome? g)):=by
  intro d
  induction d with
  | zero=>
    intro i k h bi
    obtain ⟨k,rfl⟩:∃ k',k=k'+ 1 :=⟨k - 1,by omega⟩
    have hi:i=l.length:=by omega
    subst hi
    rw [he];simp [dF]
  | succ d cA=>
    intro i k h bi
    obtain ⟨k,rfl⟩:∃ k',k=k'+ 1 :=⟨k - 1,by omega⟩
    have hi:i <l.length:=by omega
    rw [bc k i l[i] (List.getElem?_eq_getElem hi),List.drop_eq_getElem_cons hi,List.findSome?_cons]
    cases dt:g l[i] with
    | some r=>rfl
    | none=>
      simp only [iR]
      rw [hV hi aC]
      exact cA (i+ 1) k (by omega) (by omega)
 have:=key l.length 0 F (by omega) b4
 simpa using this
theorem lM {ρ:Type} {n:Nat} {L:Nat->Int->Option (Way ρ Unit)} (g:Nat->Option ρ) (aC:n<= 140737488355328)
 (bc:∀ k (i:Nat),i <n->L (k+ 1) (i:Int)=iR (g i) (L k (av ((i:Int)+ 1))))
 (he:∀ k,L (k+ 1) (n:Int)=some (.go ())) {F:Nat} (b4:n <F):L F 0 =some (dF ((List.range n).findSome? g)):=by
 have h:=each (l:=List.range n) (L:=L) g (by simpa using aC) (fun k i x al=>by
  have hi:i <n:=by have:=(List.getElem?_eq_some_iff.1 al).1;simpa using this
  rw [List.getElem?_range hi] at al
  simp only [Option.some.injEq] at al
  subst al
  exact bc k i hi) (fun k=>by simpa using he k) (F:=F) (by simpa using b4)
 exact h
theorem V7 {r7:Type} {n:Nat} (T:Nat->Nat->Option r7) (fin:r7) (bc:∀ k i,i <n->T (k+ 1) i=T k (i+ 1)) (he:∀ k,T (k+ 1) n=some fin) {F:Nat} (b4:n <F):T F 0 =some fin:=by
 have key:∀ (d i k:Nat),i+d=n->d <k->T k i=some fin:=by
  intro d
  induction d with
  | zero=>
    intro i k h bi
    obtain ⟨k,rfl⟩:∃ k',k=k'+ 1 :=⟨k - 1,by omega⟩
    have hi:i=n:=by omega
    subst hi
    exact he k
  | succ d cA=>
    intro i k h bi
    obtain ⟨k,rfl⟩:∃ k',k=k'+ 1 :=⟨k - 1,by omega⟩
    rw [bc k i (by omega)]
    exact cA (i+ 1) k (by omega) (by omega)
 exact key n 0 F (by omega) b4
abbrev Small (F n:Nat):Prop:=n<= 140737488355328 /\n <F
end J
namespace J
def sw (b:UInt8):Bool:=((((decide (97 <=(b.toNat:Int))) && (decide ((b.toNat:Int)<= 122))) || ((decide (65 <=(b.toNat:Int))) && (decide ((b.toNat:Int)<= 90)))) || ((decide (48 <=(b.toNat:Int))) && (decide ((b.toNat:Int)<= 57)))) || (decide ((b.toNat:Int)= 95))
def iL (s:List UInt8):Bool:=(s.findSome? fun b=>if sw b then none else some ()).isNone && decide (s≠ []) && decide (s.length<= 20)
theorem zl {F:Nat} {s:List UInt8} (h:Small F s.length):o6 F s=some (iL s):=by
 unfold o6
 have l1:=each (l:=s) (L:=qZ s) (fun b=>if sw b then none else some false) h.1 (fun k i x al=>by
  rw [qZ,cP (List.getElem?_eq_some_iff.1 al).1,cond_true,cu al,Option.bind_some]
  show cond (!sw x) _ _=_
  cases sw x <;> rfl) (fun k=>by rw [qZ,cO];rfl) h.2
 rw [l1]
 unfold iL
 have e:∀ s:List UInt8,s.findSome? (fun b=>if sw b then none else some false)=(s.findSome? (fun b=>if sw b then none else some ())).map (fun _=>false):=by
  intro s
  induction s with
  | nil=>rfl
  | cons b r cA=>simp only [List.findSome?_cons];cases sw b <;> simp [cA]
 rw [e]
 cases s.findSome? (fun b=>if sw b then none else some ()) with
 | some _=>rfl
 | none=>
   simp only [Option.map_none,dF,qG,Option.isNone_none,Bool.true_and]
   congr 1
   rw [Bool.eq_iff_iff]
   cases s <;> first | (simp;done) | (simp;omega)
theorem CK {F:Nat} {s:List UInt8} (h:Small F s.length):oz F s=some (iL s):=by
 rw [<-zl h]
 unfold oz o6 bytesOf
 rw [if_pos h.1,Option.bind_some]
 have e:∀ k n,Aw s k n=qZ s k n:=by
  intro k
  induction k with
  | zero=>intro n;rfl
  | succ k cA=>
    intro n
    rw [Aw,qZ]
    simp only [cA]
    congr 1
    congr 1
    funext b
    have hc:(((((decide ((b.toNat:Int) < 97)) || (decide (122 <(b.toNat:Int)))) && ((decide ((b.toNat:Int) < 65)) || (decide (90 <(b.toNat:Int))))) && ((decide ((b.toNat:Int) < 48)) || (decide (57 <(b.toNat:Int))))) && (!decide ((b.toNat:Int)= 95)))= !sw b:=by
     unfold sw
     rw [Bool.eq_iff_iff]
     first | (simp;done) | (simp;omega)
    rw [hc];rfl
 rw [e]
 cases qZ s F 0 with
 | none=>rfl
 | some w=>
   cases w with
   | out r=>rfl
   | go u=>
     simp only [qG]
     congr 1
     rw [Bool.eq_iff_iff]
     cases s <;> first | (simp;done) | (simp;omega)
def kindOk (k:Kind):Bool:=if k.Kind= 3 \/k.Kind= 4 then iL k.aR else (decide (k.Kind= 1) || decide (k.Kind= 2)) && decide (k.aR= [])
theorem Uf {F:Nat} {k:Kind} (h:Small F k.aR.length):uS F k=some (kindOk k):=by
 unfold uS Lr kindOk
 simp only [Option.bind_some,CK h]
 by_cases bX:k.Kind= 3 \/k.Kind= 4
 · rw [if_pos bX]
   rcases bX with e | e <;> simp [e]
 · rw [if_neg bX]
   have eI: ¬ k.Kind= 3 :=fun e=>bX (.inl e)
   have iy: ¬ k.Kind= 4 :=fun e=>bX (.inr e)
   simp [eI,iy]
theorem Pj {F:Nat} {k:Kind} (h:Small F k.aR.length):tF F k=some (kindOk k):=by
 unfold tF kindOk
 simp only [zl h,Option.bind_some]
 by_cases bX:k.Kind= 3 \/k.Kind= 4
 · rw [if_pos bX]
   rcases bX with e | e <;> simp [e]
 · rw [if_neg bX]
   have eI: ¬ k.Kind= 3 :=fun e=>bX (.inl e)
   have iy: ¬ k.Kind= 4 :=fun e=>bX (.inr e)
   by_cases aI:k.Kind= 1
   · simp [aI]
   · by_cases aV:k.Kind= 2
     · simp [aV]
     · simp [eI,iy,aI,aV]
def jt (n a b:Int):Bool:=decide (a<=n) && decide (n<=b)
def sE (h:Handler):Option Int:=if iL h.aR then (if jt h.From 0 200 && jt h.To 0 200 && jt h.hB 0 200 then none else some 3) else some 1
def uV (k:Kind):Option Int:=if kindOk k then none else some 7
def AI (m:Method):Int:=
 if iL m.Name then
  if 4 <m.bA.length\/ 200 <m.Code.length\/ 4 <m.bp.length then 2
  else if jt m.cT 0 10 && jt m.cS 0 10 then
   match m.bA.findSome? uV with
   | some e=>e
   | none=>if m.Returns=⟨0,[]⟩\/kindOk m.Returns=true then (m.bp.findSome? sE).getD 0 else 7
  else 3
 else 1
structure Method.Fits (F:Nat) (m:Method):Prop where
 name:Small F m.Name.length
 args:Small F m.bA.length
 arg:∀ k ∈ m.bA,Small F k.aR.length
 ret:Small F m.Returns.aR.length
 xV:Small F m.bp.length
 hand:∀ h ∈ m.bp,Small F h.aR.length
structure aR.Fits (F:Nat) (c:aR):Prop where
 name:Small F c.Name.length
 super:Small F c.b0.length
 fields:Small F c.Fields.length
 field:∀ f ∈ c.Fields,Small F f.Name.length/\Small F f.Kind.aR.length
 methods:Small F c.az.length
 method:∀ m ∈ c.az,m.Fits F
def Fits (F:Nat) (l:List aR):Prop:=Small F l.length/\ ∀ c ∈ l,c.Fits F
theorem aeE {F:Nat} (o:Option Int) (d:Int):dD (α:=Unit) (some (dF o)) (fun _=>some d)=some (o.getD d):=by cases o <;> rfl
theorem aeF {o:Option Int} {k:Option Int}:dD (α:=Unit) (some (dF o)) (fun _=>k)=(match o with | some e=>some e | none=>k):=by cases o <;> rfl
theorem aCR {F:Nat} {m:Method} (h:m.Fits F):Ax F m=some (AI m):=by
 have l1:yj F m F 0 =some (dF (m.bA.findSome? uV)):=each uV h.args.1 (fun k i x al=>by
  rw [yj,cP (List.getElem?_eq_some_iff.1 al).1,cond_true,cu al,Option.bind_some,Uf (h.arg x (List.mem_of_getElem? al)),Option.bind_some]
  unfold uV
  show cond (!kindOk x) _ _=_
  cases kindOk x <;> rfl) (fun k=>by rw [yj,cO];rfl) h.args.2
 have aC:∀ {x:Handler} (_:x ∈ m.bp) (Y:Option (Way Int Unit)),((oz F x.aR).bind fun H5=>
  cond (!H5) (some (.out 1)) ((nN x.From 0 200).bind fun k8=>
  cond (!k8) (some (.out 3)) ((nN x.To 0 200).bind fun C_=>
  cond (!C_) (some (.out 3)) ((nN x.hB 0 200).bind fun H6=>
  cond (!H6) (some (.out 3)) Y))))=iR (sE x) Y:=by
  intro x al Y
  rw [CK (h.hand x al)]
  unfold sE nN
  simp only [Option.bind_some]
  show cond (!iL x.aR) _ (cond (!jt x.From 0 200) _ (cond (!jt x.To 0 200) _ (cond (!jt x.hB 0 200) _ _)))=_
  cases iL x.aR <;> cases jt x.From 0 200 <;> cases jt x.To 0 200 <;> cases jt x.hB 0 200 <;> rfl
 have g3:yk F m F 0 =some (dF (m.bp.findSome? sE)):=each sE h.xV.1 (fun k i x al=>by
  rw [yk,cP (List.getElem?_eq_some_iff.1 al).1,cond_true,cu al,Option.bind_some]
  exact aC (List.mem_of_getElem? al) _) (fun k=>by rw [yk,cO];rfl) h.xV.2
 have pK:yl F m F 0 =some (dF (m.bp.findSome? sE)):=each sE h.xV.1 (fun k i x al=>by
  rw [yl,cP (List.getElem?_eq_some_iff.1 al).1,cond_true,cu al,Option.bind_some]
  exact aC (List.mem_of_getElem? al) _) (fun k=>by rw [yl,cO];rfl) h.xV.2
 unfold Ax nN AI
 rw [CK h.name,l1,g3,pK]
 have bi:=Uf (F:=F) (k:=(⟨m.Returns.Kind,m.Returns.aR⟩:Kind)) h.ret
 simp only [Option.bind_some,bi,aeE (F:=F),aeF]
 cases iL m.Name with
 | false=>rfl
 | true=>
   simp only [Bool.not_true,cond_false,if_true]
   by_cases hm:4 <m.bA.length\/ 200 <m.Code.length\/ 4 <m.bp.length
   · rw [if_pos hm]
     have:((decide (4 <(m.bA.length:Int))) || (decide (200 <(m.Code.length:Int))) || (decide (4 <(m.bp.length:Int))))=true:=by
      simp;omega
     rw [this];rfl
   · rw [if_neg hm]
     have:((decide (4 <(m.bA.length:Int))) || (decide (200 <(m.Code.length:Int))) || (decide (4 <(m.bp.length:Int))))=false:=by
      simp;omega
     rw [this]
     show cond (!jt m.cT 0 10) _ (cond (!jt m.cS 0 10) _ _)=_
     cases jt m.cT 0 10 <;> cases jt m.cS 0 10 <;> try rfl
     simp only [Bool.not_true,cond_false,Bool.and_self,if_true]
     cases m.bA.findSome? uV with
     | some e=>rfl
     | none=>
       simp only
       by_cases b5:m.Returns=⟨0,[]⟩
       · rw [if_pos (.inl b5),show (decide ((⟨m.Returns.Kind,m.Returns.aR⟩:Kind)=⟨0,[]⟩))=true from decide_eq_true b5]
         rfl
       · rw [show (decide ((⟨m.Returns.Kind,m.Returns.aR⟩:Kind)=⟨0,[]⟩))=false from decide_eq_false b5]
         simp only [Bool.not_false,cond_true]
         show cond (!kindOk m.Returns) _ _=_
         cases awP:kindOk m.Returns with
         | true=>rw [if_pos (.inr rfl)];rfl
         | false=>rw [if_neg (by simp [b5])];rfl
theorem af' {F:Nat} {m:Method} (h:m.Fits F):zk F m=some (AI m):=by
 have l1:wV F m F 0 =some (dF (m.bA.findSome? uV)):=each uV h.args.1 (fun k i x al=>by
  rw [wV,cP (List.getElem?_eq_some_iff.1 al).1,cond_true,cu al,Option.bind_some,Pj (h.arg x (List.mem_of_getElem? al)),Option.bind_some]
  unfold uV
  cases kindOk x <;> rfl) (fun k=>by rw [wV,cO];rfl) h.args.2
 have g3:wW F m F 0 =some (dF (m.bp.findSome? sE)):=each sE h.xV.1 (fun k i x al=>by
  rw [wW,cP (List.getElem?_eq_some_iff.1 al).1,cond_true,cu al,Option.bind_some,zl (h.hand x (List.mem_of_getElem? al))]
  unfold sE hM
  simp only [Option.bind_some]
  show cond (!iL x.aR) _ (cond (!jt x.From 0 200) _ (cond (!jt x.To 0 200) _ (cond (!jt x.hB 0 200) _ _)))=_
  cases iL x.aR <;> cases jt x.From 0 200 <;> cases jt x.To 0 200 <;> cases jt x.hB 0 200 <;> rfl) (fun k=>by rw [wW,cO];rfl) h.xV.2
 unfold zk hM AI
 rw [zl h.name,l1,g3]
 have bi:=Pj (F:=F) (k:=(⟨m.Returns.Kind,m.Returns.aR⟩:Kind)) h.ret
 simp only [Option.bind_some,bi,aeE (F:=F),aeF]
 cases iL m.Name with
 | false=>rfl
 | true=>
   simp only [Bool.not_true,cond_false,if_true]
   by_cases hm:4 <m.bA.length\/ 200 <m.Code.length\/ 4 <m.bp.length
   · rw [if_pos hm]
     have:((decide (4 <(m.bA.length:Int))) || (decide (200 <(m.Code.length:Int))) || (decide (4 <(m.bp.length:Int))))=true:=by
      simp;omega
     rw [this];rfl
   · rw [if_neg hm]
     have:((decide (4 <(m.bA.length:Int))) || (decide (200 <(m.Code.length:Int))) || (decide (4 <(m.bp.length:Int))))=false:=by
      simp;omega
     rw [this]
     show cond (!jt m.cT 0 10) _ (cond (!jt m.cS 0 10) _ _)=_
     cases jt m.cT 0 10 <;> cases jt m.cS 0 10 <;> try rfl
     simp only [Bool.not_true,cond_false,Bool.and_self,if_true]
     cases m.bA.findSome? uV with
     | some e=>rfl
     | none=>
       simp only
       show cond ((!kindOk m.Returns) && _) _ _=_
       by_cases b5:m.Returns=⟨0,[]⟩
       · rw [if_pos (.inl b5),b5]
         simp
       · have fo:((!decide (m.Returns.Kind= 0)) || (!decide (m.Returns.aR= [])))=true:=by
          rcases ku:m.Returns with ⟨a,b⟩
          rw [ku] at b5
          by_cases bN:a= 0
          · by_cases a8:b= []
            · subst bN;subst a8;exact absurd rfl b5
            · simp [a8]
          · simp [bN]
         rw [fo]
         cases awP:kindOk m.Returns with
         | true=>rw [if_pos (.inr rfl)];rfl
         | false=>rw [if_neg (by simp [b5])];rfl
end J
namespace J
def jV (f:Field):Option Int:=if iL f.Name then (if kindOk f.Kind then none else some 7) else some 1
def kh (e:Int):Option Int:=if e= 0 then none else some e
def k0 (m:Method):Option Int:=kh (AI m)
def B9 (c:aR):Int:=
 if iL c.Name && (decide (c.b0= []) || iL c.b0) then
  if 6 <c.Fields.length\/ 8 <c.az.length then 2
  else (c.Fields.findSome? jV).getD ((c.az.findSome? k0).getD 0)
 else 1
def q' (c:aR):Option Int:=kh (B9 c)
def ub (l:List aR):Int:=if 10 <l.length then 2 else (l.findSome? q').getD 0
def pO {ρ:Type} (o:Option ρ) (y:Option ρ):Option ρ:=match o with
 | some e=>some e
 | none=>y
theorem Wb {e:Int} {Y:Option (Way Int Unit)}:cond (!decide (e= 0)) (some (.out e)) Y=iR (kh e) Y:=by
 unfold kh iR
 by_cases h:e= 0
 · rw [if_pos h,decide_eq_true h];rfl
 · rw [if_neg h,decide_eq_false h];rfl
theorem aaO {a b:Nat} (x y:Nat):((decide ((x:Int) <(a:Int))) || (decide ((y:Int) <(b:Int))))=decide (x <a\/y <b):=by
 rw [Bool.eq_iff_iff];simp
theorem oQ {o:Option Int} {k:Unit->Option (Way Int Unit)}:et (α:=Unit) (some (dF o)) k=iR o (k ()):=by cases o <;> rfl
theorem k9 {ρ:Type} {o:Option ρ} {k:Unit->Option ρ}:dD (α:=Unit) (some (dF o)) k=pO o (k ()):=by cases o <;> rfl
theorem qH {o:Option Int} {Y:Option (Way Int Unit)} {k:Unit->Option (Way Int Unit)}:et (α:=Unit) (iR o Y) k=iR o (et (α:=Unit) Y k):=by cases o <;> rfl
section
variable {F:Nat}
theorem aCQ {c:aR} (h:c.Fits F):Hp F c=some (B9 c):=by
 have I:∀ {x:Field} (_:x ∈ c.Fields) (Y:Option (Way Int Unit)),((oz F x.Name).bind fun AV=>
  cond (!AV) (some (.out 1)) ((uS F (⟨x.Kind.Kind,x.Kind.aR⟩:Kind)).bind fun lG=>
  cond (!lG) (some (.out 7)) Y))=iR (jV x) Y:=by
  intro x al Y
  rw [CK (h.field x al).1,Uf (k:=(⟨x.Kind.Kind,x.Kind.aR⟩:Kind)) (h.field x al).2]
  unfold jV
  simp only [Option.bind_some]
  show cond (!iL x.Name) _ (cond (!kindOk x.Kind) _ _)=_
  cases iL x.Name <;> cases kindOk x.Kind <;> rfl
 have hm:∀ {x:Method} (_:x ∈ c.az) (Y:Option (Way Int Unit)),((Ax F (⟨x.Name,x.Static,x.bA,(⟨x.Returns.Kind,x.Returns.aR⟩:Kind),x.cT,x.cS,x.Code,x.bp⟩:Method)).bind fun k8=>
  cond (!decide (k8= 0)) (some (.out k8)) Y)=iR (k0 x) Y:=by
  intro x al Y
  have:=aCR (F:=F) (m:=(⟨x.Name,x.Static,x.bA,(⟨x.Returns.Kind,x.Returns.aR⟩:Kind),x.cT,x.cS,x.Code,x.bp⟩:Method)) (h.method x al)
  rw [this,Option.bind_some]
  exact Wb
 have l1:yf F c F 0 =some (dF (c.Fields.findSome? jV)):=each jV h.fields.1 (fun k i x al=>by
  rw [yf,cP (List.getElem?_eq_some_iff.1 al).1,cond_true,cu al,Option.bind_some];exact I (List.mem_of_getElem? al) _) (fun k=>by rw [yf,cO];rfl) h.fields.2
 have pK:yh F c F 0 =some (dF (c.Fields.findSome? jV)):=each jV h.fields.1 (fun k i x al=>by
  rw [yh,cP (List.getElem?_eq_some_iff.1 al).1,cond_true,cu al,Option.bind_some];exact I (List.mem_of_getElem? al) _) (fun k=>by rw [yh,cO];rfl) h.fields.2
 have g3:yg F c F 0 =some (dF (c.az.findSome? k0)):=each k0 h.methods.1 (fun k i x al=>by
  rw [yg,cP (List.getElem?_eq_some_iff.1 al).1,cond_true,cu al,Option.bind_some];exact hm (List.mem_of_getElem? al) _) (fun k=>by rw [yg,cO];rfl) h.methods.2
 have AF:yi F c F 0 =some (dF (c.az.findSome? k0)):=each k0 h.methods.1 (fun k i x al=>by
  rw [yi,cP (List.getElem?_eq_some_iff.1 al).1,cond_true,cu al,Option.bind_some];exact hm (List.mem_of_getElem? al) _) (fun k=>by rw [yi,cO];rfl) h.methods.2
 unfold Hp B9
 rw [CK h.name,CK h.super,l1,g3,pK,AF]
 simp only [Option.bind_some,k9,show (6 :Int)=((6 :Nat):Int) from rfl,show (8 :Int)=((8 :Nat):Int) from rfl,aaO]
 cases iL c.Name with
 | false=>rfl
 | true=>
   simp only [Bool.not_true,cond_false,Bool.true_and]
   have Ar:∀ p:Bool,p=decide (6 <c.Fields.length\/ 8 <c.az.length)->cond p (some (2 :Int)) (pO (c.Fields.findSome? jV) (pO (c.az.findSome? k0) (some 0))) =
    some (if 6 <c.Fields.length\/ 8 <c.az.length then 2 else (c.Fields.findSome? jV).getD ((c.az.findSome? k0).getD 0)):=by
    intro p b9
    subst b9
    by_cases ku:6 <c.Fields.length\/ 8 <c.az.length
    · rw [if_pos ku,decide_eq_true ku];rfl
    · rw [if_neg ku,decide_eq_false ku]
      cases c.Fields.findSome? jV with
      | some e=>rfl
      | none=>cases c.az.findSome? k0 <;> rfl
   by_cases bc:c.b0= []
   · rw [decide_eq_true bc]
     simp only [Bool.not_true,cond_false,Bool.true_or,if_true]
     exact Ar _ rfl
   · rw [decide_eq_false bc]
     simp only [Bool.not_false,cond_true,Bool.false_or]
     cases iL c.b0 with
     | false=>rfl
     | true=>
       simp only [Bool.not_true,cond_false,if_true]
       exact Ar _ rfl
theorem aCP {l:List aR} (h:Fits F l):Ho F l=some (ub l):=by
 have l1:yd F l F 0 =some (dF (l.findSome? q')):=each q' h.1.1 (fun k i x al=>by
  rw [yd,cP (List.getElem?_eq_some_iff.1 al).1,cond_true,cu al,Option.bind_some,aCQ (c:=(⟨x.Name,x.b0,x.Fields,x.az⟩:aR)) (h.2 x (List.mem_of_getElem? al)),Option.bind_some]
  exact Wb) (fun k=>by rw [yd,cO];rfl) h.1.2
 unfold Ho ub
 rw [l1,k9]
 by_cases aC:10 <l.length
 · rw [if_pos aC,decide_eq_true (show (10 :Int) <(l.length:Int) by omega)];rfl
 · rw [if_neg aC,decide_eq_false (show ¬ (10 :Int) <(l.length:Int) by omega)]
   cases l.findSome? q' <;> rfl
theorem af_ {l:List aR} (h:Fits F l):Ew F l=some (ub l):=by
 have body:∀ {c:aR} (_:c.Fits F),wz F c F 0 =some (dF (c.Fields.findSome? jV))/\wB F c F 0 =some (dF (c.Fields.findSome? jV))/\wA F c F 0 =some (dF (c.az.findSome? k0))/\wC F c F 0 =some (dF (c.az.findSome? k0)):=by
  intro c hc
  have I:∀ {x:Field} (_:x ∈ c.Fields) (i:Int) (_:idx c.Fields i=some x) (Y:Option (Way Int Unit)),((o6 F x.Name).bind fun AV=>
   cond (!AV) (some (.out 1)) ((idx c.Fields i).bind fun x=>(tF F (⟨x.Kind.Kind,x.Kind.aR⟩:Kind)).bind fun lG=>
   cond (!lG) (some (.out 7)) Y))=iR (jV x) Y:=by
   intro x al i hi Y
   rw [zl (hc.field x al).1,hi]
   unfold jV
   simp only [Option.bind_some]
   rw [Pj (k:=(⟨x.Kind.Kind,x.Kind.aR⟩:Kind)) (hc.field x al).2,Option.bind_some]
   show cond (!iL x.Name) _ (cond (!kindOk x.Kind) _ _)=_
   cases iL x.Name <;> cases kindOk x.Kind <;> rfl
  have hm:∀ {x:Method} (_:x ∈ c.az) (Y:Option (Way Int Unit)),((zk F x).bind fun k8=>
   cond (!decide (k8= 0)) (some (.out k8)) Y)=iR (k0 x) Y:=by
   intro x al Y
   rw [af' (hc.method x al),Option.bind_some]
   exact Wb
  refine ⟨each jV hc.fields.1 (fun k i x al=>?_) (fun k=>by rw [wz,cO];rfl) hc.fields.2,each jV hc.fields.1 (fun k i x al=>?_) (fun k=>by rw [wB,cO];rfl) hc.fields.2,
   each k0 hc.methods.1 (fun k i x al=>?_) (fun k=>by rw [wA,cO];rfl) hc.methods.2,each k0 hc.methods.1 (fun k i x al=>?_) (fun k=>by rw [wC,cO];rfl) hc.methods.2⟩
  · rw [wz,cP (List.getElem?_eq_some_iff.1 al).1,cond_true,cu al,Option.bind_some];rw [<-cu al];exact I (List.mem_of_getElem? al) _ (cu al) _
  · rw [wB,cP (List.getElem?_eq_some_iff.1 al).1,cond_true,cu al,Option.bind_some];rw [<-cu al];exact I (List.mem_of_getElem? al) _ (cu al) _
  · rw [wA,cP (List.getElem?_eq_some_iff.1 al).1,cond_true,cu al,Option.bind_some];exact hm (List.mem_of_getElem? al) _
  · rw [wC,cP (List.getElem?_eq_some_iff.1 al).1,cond_true,cu al,Option.bind_some];exact hm (List.mem_of_getElem? al) _
 have l1:wy F l F 0 =some (dF (l.findSome? q')):=each q' h.1.1 (fun k i c al=>by
  have hc:=h.2 c (List.mem_of_getElem? al)
  obtain ⟨EC,Pt,ED,agc⟩:=body hc
  rw [wy,cP (List.getElem?_eq_some_iff.1 al).1,cond_true,cu al,Option.bind_some,zl hc.name,zl hc.super,EC,ED,Pt,agc]
  simp only [Option.bind_some,oQ,show (6 :Int)=((6 :Nat):Int) from rfl,show (8 :Int)=((8 :Nat):Int) from rfl,aaO]
  unfold q' B9
  cases iL c.Name with
  | false=>rfl
  | true=>
    simp only [Bool.not_true,cond_false,Bool.true_and]
    have Ar:∀ (p:Bool) (Y:Option (Way Int Unit)),p=decide (6 <c.Fields.length\/ 8 <c.az.length)->et (α:=Unit) (cond p (some (.out (2 :Int))) (iR (c.Fields.findSome? jV) (iR (c.az.findSome? k0) (some (.go ()))))) (fun _=>Y) =
     iR (kh (if 6 <c.Fields.length\/ 8 <c.az.length then 2 else (c.Fields.findSome? jV).getD ((c.az.findSome? k0).getD 0))) Y:=by
     intro p Y b9
     subst b9
     by_cases ku:6 <c.Fields.length\/ 8 <c.az.length
     · rw [if_pos ku,decide_eq_true ku];rfl
     · rw [if_neg ku,decide_eq_false ku,cond_false]
       have at7:∀ e,c.Fields.findSome? jV=some e->kh e=some e:=by
        intro e he
        obtain ⟨x,_,al⟩:=List.exists_of_findSome?_eq_some he
        unfold jV at al
        split at al
        · split at al
          · cases al
          · injection al with al;subst al;rfl
        · injection al with al;subst al;rfl
       have TB:∀ e,c.az.findSome? k0=some e->kh e=some e:=by
        intro e he
        obtain ⟨x,_,al⟩:=List.exists_of_findSome?_eq_some he
        unfold k0 at al
        unfold kh at al ⊢
        split at al
        · cases al
        · rename_i ai;injection al with al;subst al;rw [if_neg ai]
       cases I:c.Fields.findSome? jV with
       | some e=>simp only [Option.getD_some,at7 e I];rfl
       | none=>
         cases hm:c.az.findSome? k0 with
         | some e=>simp only [Option.getD_some,Option.getD_none,TB e hm];rfl
         | none=>rfl
    by_cases bc:c.b0= []
    · rw [decide_eq_true bc]
      simp only [Bool.not_true,cond_false,Bool.true_or,if_true]
      exact Ar _ _ rfl
    · rw [decide_eq_false bc]
      simp only [Bool.not_false,cond_true,Bool.false_or]
      cases iL c.b0 with
      | false=>rfl
      | true=>
        simp only [Bool.not_true,cond_false,if_true]
        exact Ar _ _ rfl) (fun k=>by rw [wy,cO];rfl) h.1.2
 unfold Ew ub
 rw [l1,k9]
 by_cases aC:10 <l.length
 · rw [if_pos aC,decide_eq_true (show (10 :Int) <(l.length:Int) by omega)];rfl
 · rw [if_neg aC,decide_eq_false (show ¬ (10 :Int) <(l.length:Int) by omega)]
   cases l.findSome? q' <;> rfl
end
structure Right (l:List aR):Prop where
 len:l.length<= 10
 name:∀ c ∈ l,iL c.Name=true
 fields:∀ c ∈ l,c.Fields.length<= 6
 methods:∀ c ∈ l,c.az.length<= 8
 method:∀ c ∈ l,∀ m ∈ c.az,m.bA.length<= 4 /\m.bp.length<= 4
theorem aDq {m:Method} (h:AI m= 0):m.bA.length<= 4 /\m.bp.length<= 4 :=by
 unfold AI at h
 split at h
 · split at h
   · exact absurd h (by decide)
   · rename_i aI;exact ⟨by omega,by omega⟩
 · exact absurd h (by decide)
theorem aDI {e:Int} (h:kh e=none):e= 0 :=by
 unfold kh at h
 split at h
 · assumption
 · cases h
theorem aDJ {e x:Int} (h:kh e=some x):x≠ 0 :=by
 unfold kh at h
 split at h
 · cases h
 · rename_i c8;injection h with h;subst h;exact c8
theorem aC3 {s:List UInt8} (h:iL s=true):s≠ []:=by
 unfold iL at h
 simp only [Bool.and_eq_true,decide_eq_true_eq] at h
 exact h.1.2
theorem ah7 {l:List aR} (h:ub l= 0):Right l:=by
 unfold ub at h
 by_cases aC:10 <l.length
 · rw [if_pos aC] at h;exact absurd h (by decide)
 · rw [if_neg aC] at h
   have ai:∀ c ∈ l,B9 c= 0 :=by
    intro c hc
    cases I:l.findSome? q' with
    | some e=>
      rw [I] at h
      simp only [Option.getD_some] at h
      subst h
      obtain ⟨x,_,al⟩:=List.exists_of_findSome?_eq_some I
      unfold q' kh at al
      split at al
      · cases al
      · rename_i c8;injection al with al;exact absurd al c8
    | none=>
      have:=List.findSome?_eq_none_iff.1 I c hc
      unfold q' kh at this
      split at this
      · assumption
      · cases this
   have key:∀ c ∈ l,iL c.Name=true/\c.Fields.length<= 6 /\c.az.length<= 8 /\ ∀ m ∈ c.az,m.bA.length<= 4 /\m.bp.length<= 4 :=by
    intro c hc
    have bH:=ai c hc
    unfold B9 at bH
    split at bH
    · rename_i aI
      simp only [Bool.and_eq_true] at aI
      split at bH
      · exact absurd bH (by decide)
      · rename_i aV
        refine ⟨aI.1,by omega,by omega,fun m hm=>?_⟩
        cases I:c.Fields.findSome? jV with
        | some e=>
          rw [I] at bH
          simp only [Option.getD_some] at bH
          subst bH
          obtain ⟨x,_,al⟩:=List.exists_of_findSome?_eq_some I
          unfold jV at al
          split at al
          · split at al
            · cases al
            · injection al with al;exact absurd al (by decide)
          · injection al with al;exact absurd al (by decide)
        | none=>
          rw [I] at bH
          simp only [Option.getD_none] at bH
          cases hv:c.az.findSome? k0 with
          | some e=>
            rw [hv] at bH
            simp only [Option.getD_some] at bH
            subst bH
            obtain ⟨x,_,al⟩:=List.exists_of_findSome?_eq_some hv
            exact absurd rfl (aDJ al)
          | none=>exact aDq (aDI (List.findSome?_eq_none_iff.1 hv m hm))
    · exact absurd bH (by decide)
   exact ⟨by omega,fun c hc=>(key c hc).1,fun c hc=>(key c hc).2.1,fun c hc=>(key c hc).2.2.1,fun c hc=>(key c hc).2.2.2⟩
end J
namespace J
def fR {α:Type} (p:α->Bool):List α->Option Nat
 | []=>none
 | x::r=>if p x then some 0 else (fR p r).map (· + 1)
theorem HY {α:Type} {p:α->Bool}:∀ {l:List α} {i:Nat},fR p l=some i-> ∃ x,l[i]? =some x/\p x=true/\ ∀ j y,j <i->l[j]? =some y->p y=false
 | [],i,h=>by simp [fR] at h
 | x::r,i,h=>by
   simp only [fR] at h
   split at h
   · rename_i b9
     injection h with h
     subst h
     exact ⟨x,rfl,b9,fun j y bf=>absurd bf (by omega)⟩
   · rename_i b9
     cases b5:fR p r with
     | none=>rw [b5] at h;cases h
     | some k=>
       rw [b5] at h
       simp only [Option.map_some,Option.some.injEq] at h
       subst h
       obtain ⟨y,aI,aV,bX⟩:=HY b5
       refine ⟨y,by simpa using aI,aV,fun j z bf c8=>?_⟩
       cases j with
       | zero=>
         simp only [List.getElem?_cons_zero,Option.some.injEq] at c8
         subst c8
         simpa using b9
       | succ j=>exact bX j z (by omega) (by simpa using c8)
theorem Wn {α:Type} {p:α->Bool}:∀ {l:List α},fR p l=none-> ∀ x ∈ l,p x=false
 | [],_,x,al=>by cases al
 | y::r,h,x,al=>by
   simp only [fR] at h
   split at h
   · cases h
   · rename_i b9
     have b5:fR p r=none:=by simpa using h
     rcases List.mem_cons.1 al with rfl | e
     · simpa using b9
     · exact Wn b5 x e
theorem aDZ {α:Type} {p:α->Bool} {l:List α} {i:Nat} {x:α} (hi:l[i]? =some x) (b9:p x=true) (a8:∀ j y,j <i->l[j]? =some y->p y=false):fR p l=some i:=by
 cases h:fR p l with
 | none=>have:=Wn h x (List.mem_of_getElem? hi);rw [b9] at this;cases this
 | some j=>
   obtain ⟨y,aI,aV,bX⟩:=HY h
   rcases Nat.lt_trichotomy i j with e | e | e
   · have:=bX i x e hi;rw [b9] at this;cases this
   · rw [e]
   · have:=a8 j y e aI;rw [aV] at this;cases this
theorem Wm {α:Type} {p:α->Bool} {l:List α} {i:Nat} (h:fR p l=some i):i <l.length:=by
 obtain ⟨x,aI,_⟩:=HY h
 exact (List.getElem?_eq_some_iff.1 aI).1
theorem Qp {α ρ:Type} {l:List α} {L:Nat->Int->Option (Way ρ Unit)} (p:α->Bool) (f:Nat->ρ) (aC:l.length<= 140737488355328)
 (bc:∀ k (i:Nat) x,l[i]? =some x->L (k+ 1) (i:Int)=cond (p x) (some (.out (f i))) (L k (av ((i:Int)+ 1))))
 (he:∀ k,L (k+ 1) (l.length:Int)=some (.go ())) {F:Nat} (b4:l.length <F):L F 0 =some (dF ((fR p l).map f)):=by
 have key:∀ (d i k:Nat),i+d=l.length->d <k->L k (i:Int)=some (dF ((fR p (l.drop i)).map fun j=>f (i+j))):=by
  intro d
  induction d with
  | zero=>
    intro i k h bi
    obtain ⟨k,rfl⟩:∃ k',k=k'+ 1 :=⟨k - 1,by omega⟩
    have hi:i=l.length:=by omega
    subst hi
    rw [he];simp [dF,fR]
  | succ d cA=>
    intro i k h bi
    obtain ⟨k,rfl⟩:∃ k',k=k'+ 1 :=⟨k - 1,by omega⟩
    have hi:i <l.length:=by omega
    rw [bc k i l[i] (List.getElem?_eq_getElem hi),List.drop_eq_getElem_cons hi,fR]
    cases dt:p l[i] with
    | true=>simp [dF]
    | false=>
      simp only [cond_false,Bool.false_eq_true,if_false]
      rw [hV hi aC,cA (i+ 1) k (by omega) (by omega)]
      congr 2
      rw [Option.map_map]
      congr 1
      funext j
      simp only [Function.comp]
      congr 1
      omega
 have:=key l.length 0 F (by omega) b4
 simpa using this
def kT (nm:List UInt8) (c:aR):Bool:=decide (c.Name=nm)
def d_ (l:List aR) (nm:List UInt8):Int:=((fR (kT nm) l).map fun n:Nat=>(n:Int)).getD (-1)
theorem wY {F:Nat} {l:List aR} (h:Small F l.length) (nm:List UInt8):o5 F l nm=some (d_ l nm):=by
 unfold o5 d_
 have l1:wX l nm F 0 =some (dF ((fR (kT nm) l).map fun n:Nat=>(n:Int))):=Qp (kT nm) _ h.1 (fun k i x al=>by
  rw [wX,cP (List.getElem?_eq_some_iff.1 al).1,cond_true,cu al,Option.bind_some];rfl) (fun k=>by rw [wX,cO];rfl) h.2
 rw [l1,k9]
 cases fR (kT nm) l <;> rfl
theorem Qc {l:List aR} {nm:List UInt8}:d_ l nm <l.length:=by
 unfold d_
 cases h:fR (kT nm) l with
 | none=>simp only [Option.map_none,Option.getD_none];omega
 | some i=>have:=Wm h;simp only [Option.map_some,Option.getD_some];omega
theorem ah8 {l:List aR} {nm:List UInt8}:d_ l nm < 0 ↔ fR (kT nm) l=none:=by
 unfold d_
 cases h:fR (kT nm) l with
 | none=>simp
 | some i=>simp only [Option.map_some,Option.getD_some];constructor <;> intro h <;> first | omega | cases h
theorem aE5 {α:Type} {l:List α} {i:Nat} {x:α} (h:l[i]? =some x):l.set i x=l:=by
 obtain ⟨aC,e⟩:=List.getElem?_eq_some_iff.1 h
 rw [<-e,List.set_getElem_self]
theorem KD {α:Type} {b:Nat} {l:List α} (h:l.length*b<= 140737488355328):(eO b ([]:List α) l).bind (fun l=>some l)=some l:=by
 unfold eO
 rw [if_pos (by simpa using h)]
 simp
theorem aDQ {F:Nat} {l:List aR} (b4:100 <F) (h:Right l):HK F l=some l:=by
 have eH:∀ (gx:List Method),gx.length<= 8 ->(∀ m ∈ gx,m.bA.length<= 4 /\m.bp.length<= 4)->rH F gx (gx.length:Int) 0 =some gx:=by
  intro gx aIf hm
  refine V7 (n:=gx.length) (fun k i=>rH k gx (gx.length:Int) (i:Int)) gx (fun k i hi=>?_) (fun k=>?_) (F:=F) (by omega)
  · obtain ⟨x,al⟩:∃ x,gx[i]? =some x:=⟨gx[i],List.getElem?_eq_getElem hi⟩
    have a8:=hm x (List.mem_of_getElem? al)
    show rH (k+ 1) gx (gx.length:Int) (i:Int)=_
    rw [rH,cP hi,cond_true,cu al,Option.bind_some]
    unfold MA Mz
    rw [KD (by omega),Option.bind_some,KD (by omega),Option.bind_some,Option.bind_some,Option.bind_some]
    have bS:gx.set (i:Int).toNat (⟨x.Name,x.Static,x.bA,(⟨x.Returns.Kind,x.Returns.aR⟩:Kind),x.cT,x.cS,x.Code,x.bp⟩:Method)=gx:=aE5 (i:=i) al
    simp only [bS,cu al,Option.bind_some]
    rw [hV hi (by omega)]
  · show rH (k+ 1) gx (gx.length:Int) (gx.length:Int)=_
    rw [rH,cO];rfl
 unfold HK
 have eD:rG F l F [] 0 =some l:=by
  refine V7 (n:=l.length) (fun k i=>rG F l k (l.take i) (i:Int)) l (fun k i hi=>?_) (fun k=>?_) (F:=F) (by have:=h.len;omega)
  · obtain ⟨x,al⟩:∃ x,l[i]? =some x:=⟨l[i],List.getElem?_eq_getElem hi⟩
    have uL:=List.mem_of_getElem? al
    have I:=h.fields x uL
    have hm:=h.methods x uL
    have hlen:=h.len
    show rG F l (k+ 1) (l.take i) (i:Int)=_
    rw [rG,cP hi,cond_true,cu al,Option.bind_some]
    unfold My MB
    rw [KD (by omega),Option.bind_some,KD (by omega),Option.bind_some,eH x.az hm (h.method x uL),Option.bind_some]
    unfold eO
    rw [if_pos (by simp only [List.length_take,List.length_cons,List.length_nil];omega)]
    simp only [Option.bind_some]
    rw [hV hi (by omega)]
    have e:l.take i++[(⟨x.Name,x.b0,x.Fields,x.az⟩:aR)]=l.take (i+ 1):=by
     rw [List.take_add_one,al];rfl
    rw [e]
  · show rG F l (k+ 1) (l.take l.length) (l.length:Int)=_
    rw [rG,cO,List.take_length];rfl
 rw [eD];rfl
def gz:Nat->List aR->List (List UInt8 × Int)
 | _,[]=>[]
 | k,c::r=>(c.Name,(k:Int))::gz (k+ 1) r
theorem C6 (nm:List UInt8):∀ (l:List aR) (k:Nat),dr (gz k l) nm=(fR (kT nm) l).map fun n:Nat=>((n+k:Nat):Int)
 | [],k=>rfl
 | c::r,k=>by
   simp only [gz,dr,fR,kT]
   by_cases h:c.Name=nm
   · simp [h]
   · simp only [h,if_false,decide_false,Bool.false_eq_true]
     rw [C6 nm r (k+ 1),Option.map_map]
     congr 1
     funext j
     simp only [Function.comp]
     congr 1
     omega
theorem adN (c:aR):∀ (l:List aR) (k:Nat),gz k (l++[c])=gz k l++[(c.Name,((k+l.length:Nat):Int))]
 | [],k=>by simp [gz]
 | d::r,k=>by
   simp only [List.cons_append,gz,List.length_cons]
   rw [adN c r (k+ 1)]
   congr 4
   omega
theorem V' {κ β:Type} [DecidableEq κ] {k:κ} {v:β}:∀ {m:List (κ × β)},dr m k=none->iM m k v=m++[(k,v)]
 | [],_=>rfl
 | p::r,h=>by
   simp only [dr] at h
   split at h
   · cases h
   · rename_i fo
     simp only [iM,if_neg fo,List.cons_append]
     rw [V' h]
def zi (l:List aR):Prop:=∀ (i j:Nat) (x y:aR),l[i]? =some x->l[j]? =some y->x.Name=y.Name->i=j
theorem aDM {l:List aR} (h:zi l) {i:Nat} {x:aR} (hi:l[i]? =some x):d_ l x.Name=(i:Int):=by
 unfold d_
 rw [aDZ (i:=i) hi (by simp [kT]) (fun j y bf hy=>by
  simp only [kT,decide_eq_false_iff_not]
  intro e
  have:=h j i y x hy hi e
  omega)]
 rfl
theorem aDB {F:Nat} {l:List aR} (b4:100 <F) (h:Right l) :
 (zi l/\rF ⟨l,[],[]⟩ F [] 0 =some (.go (gz 0 l))/\sk F l F 0 =some (.go ())) \/
 (¬ zi l/\(∃ m,rF ⟨l,[],[]⟩ F [] 0 =some (.out (6,m)))/\sk F l F 0 =some (.out 6)):=by
 have hlen:=h.len
 have jG:sk F l F 0 =some (dF ((List.range l.length).findSome? fun i:Nat=>(l[i]?).bind fun x:aR=>if d_ l x.Name=(i:Int) then none else some 6)):=lM _ (by omega) (fun k i hi=>by
  obtain ⟨x,al⟩:∃ x,l[i]? =some x:=⟨l[i],List.getElem?_eq_getElem hi⟩
  rw [sk,cP hi,cond_true,cu al,Option.bind_some,wY ⟨by omega,by omega⟩,Option.bind_some,al,Option.bind_some]
  by_cases e:d_ l x.Name=(i:Int)
  · rw [if_pos e,decide_eq_true e];rfl
  · rw [if_neg e,decide_eq_false e];rfl) (fun k=>by rw [sk,cO];rfl) (by omega)
 have key:∀ (d i k:Nat),i+d=l.length->d <k->zi (l.take i) ->
  (zi l/\rF ⟨l,[],[]⟩ k (gz 0 (l.take i)) i=some (.go (gz 0 l)))\/(¬ zi l/\ ∃ m,rF ⟨l,[],[]⟩ k (gz 0 (l.take i)) i=some (.out (6,m))):=by
  intro d
  induction d with
  | zero=>
    intro i k hi bi bu
    obtain ⟨k,rfl⟩:∃ k',k=k'+ 1 :=⟨k - 1,by omega⟩
    have e:i=l.length:=by omega
    subst e
    rw [List.take_length] at bu ⊢
    left
    refine ⟨bu,?_⟩
    rw [rF,cO];rfl
  | succ d cA=>
    intro i k hi bi bu
    obtain ⟨k,rfl⟩:∃ k',k=k'+ 1 :=⟨k - 1,by omega⟩
    have g2:i <l.length:=by omega
    obtain ⟨x,al⟩:∃ x,l[i]? =some x:=⟨l[i],List.getElem?_eq_getElem g2⟩
    rw [rF,cP g2,cond_true,cu al,Option.bind_some,C6]
    cases b9:fR (kT x.Name) (l.take i) with
    | some j=>
      right
      obtain ⟨y,aI,aV,_⟩:=HY b9
      refine ⟨fun nI=>?_,_,rfl⟩
      have ka:j <i:=by have:=(List.getElem?_eq_some_iff.1 aI).1;simp only [List.length_take] at this;omega
      have hy:l[j]? =some y:=by rw [List.getElem?_take] at aI;rw [if_pos ka] at aI;exact aI
      have:=nI j i y x hy al (by simpa [kT] using aV)
      omega
    | none=>
      simp only [Option.map_none,Option.isSome_none,cond_false]
      have axK:dr (gz 0 (l.take i)) x.Name=none:=by rw [C6,b9];rfl
      rw [V' axK,hV g2 (by omega)]
      have bS:l.take (i+ 1)=l.take i++[x]:=by rw [List.take_add_one,al];rfl
      have cf:gz 0 (l.take i)++[(x.Name,(i:Int))]=gz 0 (l.take (i+ 1)):=by
       rw [bS,adN]
       congr 4
       simp only [List.length_take];omega
      rw [cf]
      refine cA (i+ 1) k (by omega) (by omega) ?_
      intro a b u v bN a8 T2
      rw [List.getElem?_take] at bN a8
      split at bN
      · split at a8
        · rename_i aIb jZ
          have axQ:=Wn b9
          have qa:∀ (q:Nat) (z:aR),q <i->l[q]? =some z->z.Name≠x.Name:=fun q z eE c8 e=>by
           have:=axQ z (List.mem_of_getElem? (i:=q) (by rw [List.getElem?_take,if_pos eE];exact c8))
           simp [kT,e] at this
          by_cases amT:a=i
          · by_cases abx:b=i
            · omega
            · subst amT
              rw [al] at bN;injection bN with bN;subst bN
              exact absurd T2.symm (qa b v (by omega) a8)
          · by_cases abx:b=i
            · subst abx
              rw [al] at a8;injection a8 with a8;subst a8
              exact absurd T2 (qa a u (by omega) bN)
            · exact bu a b u v (by rw [List.getElem?_take,if_pos (by omega)];exact bN) (by rw [List.getElem?_take,if_pos (by omega)];exact a8) T2
        · cases a8
      · cases bN
 have bH:=key l.length 0 F (by omega) (by omega) (fun i j x y hi=>by simp at hi)
 have jU:gz 0 (l.take 0)= []:=by simp [gz]
 rw [jU] at bH
 rcases bH with ⟨nI,aI⟩ | ⟨nI,aI⟩
 · left
   refine ⟨nI,aI,?_⟩
   rw [jG]
   have:((List.range l.length).findSome? fun i:Nat=>(l[i]?).bind fun x:aR=>if d_ l x.Name=(i:Int) then none else some (6 :Int))=none:=by
    rw [List.findSome?_eq_none_iff]
    intro i hi
    obtain ⟨x,al⟩:∃ x,l[i]? =some x:=⟨l[i]'(by simpa using hi),List.getElem?_eq_getElem _⟩
    rw [al,Option.bind_some,if_pos (aDM nI al)]
   rw [this];rfl
 · right
   refine ⟨nI,aI,?_⟩
   rw [jG]
   cases I:((List.range l.length).findSome? fun i:Nat=>(l[i]?).bind fun x:aR=>if d_ l x.Name=(i:Int) then none else some (6 :Int)) with
   | some e=>
     obtain ⟨i,_,hi⟩:=List.exists_of_findSome?_eq_some I
     cases al:l[i]? with
     | none=>rw [al] at hi;cases hi
     | some x=>
       rw [al,Option.bind_some] at hi
       split at hi
       · cases hi
       · injection hi with hi;subst hi;rfl
   | none=>
     exfalso
     apply nI
     have ps:∀ (i:Nat) (x:aR),l[i]? =some x->d_ l x.Name=(i:Int):=by
      intro i x al
      have:=List.findSome?_eq_none_iff.1 I i (by have:=(List.getElem?_eq_some_iff.1 al).1;simpa using this)
      rw [al,Option.bind_some] at this
      split at this
      · assumption
      · cases this
     intro i j x y al hy e
     have aI:=ps i x al
     have aV:=ps j y hy
     rw [e] at aI
     omega
end J
namespace J
def A7 {ρ r7:Type} (o:Option ρ) (a:r7):Way ρ r7:=match o with
 | some r=>.out r
 | none=>.go a
def aeH {ρ r7:Type} (o:Option ρ) (y:Option (Way ρ r7)):Option (Way ρ r7):=match o with
 | some r=>some (.out r)
 | none=>y
theorem Po {ρ r7:Type} {n:Nat} (T:Nat->Nat->Option (Way ρ r7)) (g:Nat->Option ρ) (fin:r7) (bc:∀ k i,i <n->T (k+ 1) i=aeH (g i) (T k (i+ 1))) (he:∀ k,T (k+ 1) n=some (.go fin)) {F:Nat} (b4:n <F) :
 T F 0 =some (A7 ((List.range n).findSome? g) fin):=by
 have key:∀ (d i k:Nat),i+d=n->d <k->T k i=some (A7 (((List.range n).drop i).findSome? g) fin):=by
  intro d
  induction d with
  | zero=>
    intro i k h bi
    obtain ⟨k,rfl⟩:∃ k',k=k'+ 1 :=⟨k - 1,by omega⟩
    have hi:i=n:=by omega
    subst hi
    rw [he,List.drop_of_length_le (by simp)];rfl
  | succ d cA=>
    intro i k h bi
    obtain ⟨k,rfl⟩:∃ k',k=k'+ 1 :=⟨k - 1,by omega⟩
    have hi:i <n:=by omega
    rw [bc k i hi,List.drop_eq_getElem_cons (by simpa using hi),List.findSome?_cons]
    simp only [List.getElem_range]
    cases dt:g i with
    | some r=>rfl
    | none=>
      simp only [aeH]
      exact cA (i+ 1) k (by omega) (by omega)
 have:=key n 0 F (by omega) b4
 simpa using this
theorem KN {α β X7:Type} (g:α->Option β) (f:β->X7):∀ l:List α,l.findSome? (fun c=>(g c).map f)=(l.findSome? g).map f
 | []=>rfl
 | c::r=>by
   simp only [List.findSome?_cons]
   cases g c with
   | some e=>rfl
   | none=>simp only [Option.map_none];exact KN g f r
def eK (l:List aR):List Int:=l.map fun c=>d_ l c.b0
theorem Xx {l:List aR} {i:Nat} {x:aR} (h:l[i]? =some x):(eK l)[i]? =some (d_ l x.b0):=by simp [eK,h]
def s9 (c:aR):Option Int:=if (decide (c.Name= [79,98,106,101,99,116])) == (decide (c.b0= [])) then none else some 4
def qA (l:List aR) (c:aR):Option Int:=if c.b0= []\/ 0 <=d_ l c.b0 then none else some 5
section
variable {F:Nat} {l:List aR}
theorem aFk (b4:100 <F) (h:Right l):wO l F 0 =some (dF (l.findSome? s9)):=each s9 (by have:=h.len;omega) (fun k i x al=>by
 rw [wO,cP (List.getElem?_eq_some_iff.1 al).1,cond_true,cu al,Option.bind_some,Option.bind_some]
 unfold s9
 cases (decide (x.Name= [79,98,106,101,99,116])) == (decide (x.b0= [])) <;> rfl) (fun k=>by rw [wO,cO];rfl) (by have:=h.len;omega)
theorem aFj (b4:100 <F) (h:Right l) (m:List (List UInt8 × Int)) (s:List Int):vm ⟨l,m,s⟩ F 0 =some (dF ((l.findSome? s9).map fun e=>(e,(⟨l,m,s⟩:du)))):=by
 have:=each (l:=l) (L:=vm ⟨l,m,s⟩) (fun c=>(s9 c).map fun e=>(e,(⟨l,m,s⟩:du))) (by have:=h.len;omega) (fun k i x al=>by
  rw [vm]
  show cond (decide ((i:Int) <(l.length:Int))) ((idx l (i:Int)).bind _) _=_
  rw [cP (List.getElem?_eq_some_iff.1 al).1,cond_true,cu al,Option.bind_some]
  unfold s9
  cases (decide (x.Name= [79,98,106,101,99,116])) == (decide (x.b0= [])) <;> rfl) (fun k=>by
   rw [vm]
   show cond (decide ((l.length:Int) <(l.length:Int))) _ _=_
   rw [cO];rfl) (F:=F) (by have:=h.len;omega)
 rw [this,KN]
theorem aDx (b4:100 <F) (h:Right l):tC F l F 0 =some (dF (l.findSome? (qA l))):=each (qA l) (by have:=h.len;omega) (fun k i x al=>by
 have hlen:=h.len
 rw [tC,cP (List.getElem?_eq_some_iff.1 al).1,cond_true,cu al,Option.bind_some,Option.bind_some,wY ⟨by omega,by omega⟩,Option.bind_some]
 unfold qA
 by_cases bc:x.b0= []
 · rw [if_pos (.inl bc),decide_eq_true bc];rfl
 · rw [decide_eq_false bc]
   by_cases hc:0 <=d_ l x.b0
   · rw [if_pos (.inr hc),decide_eq_false (show ¬ d_ l x.b0 < 0 by omega)];rfl
   · rw [if_neg (by simp [bc,hc]),decide_eq_true (show d_ l x.b0 < 0 by omega)];rfl) (fun k=>by rw [tC,cO];rfl) (by have:=h.len;omega)
theorem ah9 (h:Right l):d_ l []= -1 :=by
 unfold d_
 cases b9:fR (kT []) l with
 | none=>rfl
 | some i=>
   obtain ⟨x,aI,aV,_⟩:=HY b9
   have:=aC3 (h.name x (List.mem_of_getElem? aI))
   simp [kT] at aV
   exact absurd aV this
theorem aDw (b4:100 <F) (h:Right l):∃ o:Option (Int × du),o.map (·.1)=l.findSome? (qA l)/\pM ⟨l,gz 0 l,[]⟩ F [] 0 =some (A7 o (eK l)):=by
 have hlen:=h.len
 refine ⟨(List.range l.length).findSome? fun i=>((l[i]?).bind (qA l)).map fun e=>(e,(⟨l,gz 0 l,(eK l).take i⟩:du)),?_,?_⟩
 · have bS:∀ (n:Nat),n<=l.length->((List.range' (l.length - n) n).findSome? fun i=>((l[i]?).bind (qA l)).map fun e=>(e,(⟨l,gz 0 l,(eK l).take i⟩:du))).map (·.1)=(l.drop (l.length - n)).findSome? (qA l):=by
    intro n
    induction n with
    | zero=>intro _;simp
    | succ n cA=>
      intro ai
      have hi:l.length - (n+ 1) <l.length:=by omega
      rw [List.range'_succ,List.findSome?_cons,List.drop_eq_getElem_cons hi,List.findSome?_cons,List.getElem?_eq_getElem hi,Option.bind_some]
      cases qA l l[l.length - (n+ 1)] with
      | some e=>rfl
      | none=>
        simp only [Option.map_none]
        rw [show l.length - (n+ 1)+ 1 =l.length - n by omega]
        exact cA (by omega)
   have:=bS l.length (Nat.le_refl _)
   simpa [List.range_eq_range'] using this
 · refine Po (n:=l.length) (fun k i=>pM ⟨l,gz 0 l,[]⟩ k ((eK l).take i) (i:Int)) _ (eK l) (fun k i hi=>?_) (fun k=>?_) (F:=F) (by omega)
   · obtain ⟨x,al⟩:∃ x,l[i]? =some x:=⟨l[i],List.getElem?_eq_getElem hi⟩
     show pM ⟨l,gz 0 l,[]⟩ (k+ 1) ((eK l).take i) (i:Int)=_
     rw [pM]
     show cond (decide ((i:Int) <(l.length:Int))) (et (α:=List Int) ((idx l (i:Int)).bind _) _) _=_
     rw [cP hi,cond_true,cu al,Option.bind_some,al,Option.bind_some]
     have ab3:dr (gz 0 l) x.b0=(fR (kT x.b0) l).map fun n:Nat=>((n+ 0 :Nat):Int):=C6 x.b0 l 0
     have eI:(eK l).take (i+ 1)=(eK l).take i++[d_ l x.b0]:=by rw [List.take_add_one,Xx al];rfl
     have QY:eO 8 ((eK l).take i) [d_ l x.b0]=some ((eK l).take (i+ 1)):=by
      unfold eO
      rw [if_pos (by simp only [List.length_take,List.length_cons,List.length_nil];omega),eI]
     have fin:∀ n:Int,n=d_ l x.b0->et (α:=List Int) (et (α:=Int) (ρ:=Int × du) (some (.go n)) fun (rJ:Int)=>(eO 8 ((eK l).take i) [rJ]).bind fun AG=>some (.go AG)) (fun (rA:List Int)=>pM ⟨l,gz 0 l,[]⟩ k rA (av ((i:Int)+ 1)))=pM ⟨l,gz 0 l,[]⟩ k ((eK l).take (i+ 1)) ((i+ 1 :Nat):Int):=by
      intro n ai
      subst ai
      rw [oP,QY,Option.bind_some,oP,hV hi (by omega)]
     unfold qA
     by_cases bc:x.b0= []
     · rw [if_pos (.inl bc),decide_eq_true bc,cond_true]
       exact fin (-1) (by rw [bc,ah9 h])
     · rw [decide_eq_false bc,cond_false]
       cases b9:fR (kT x.b0) l with
       | none=>
         have G5:d_ l x.b0 < 0 :=ah8.2 b9
         rw [if_neg (by simp [bc];omega),ab3,b9]
         rfl
       | some j=>
         have At:d_ l x.b0=(j:Int):=by unfold d_;rw [b9];rfl
         rw [if_pos (.inr (by omega)),ab3,b9]
         exact fin _ (by rw [At];simp)
   · show pM ⟨l,gz 0 l,[]⟩ (k+ 1) ((eK l).take l.length) (l.length:Int)=_
     rw [pM]
     show cond (decide ((l.length:Int) <(l.length:Int))) _ _=_
     rw [cO,cond_false,List.take_of_length_le (by simp [eK])]
def eU (S:List Int):Nat->Int->Option (List Int)
 | 0,n=>if n < 0 then some [] else none
 | k+ 1,n=>if n < 0 then some [] else (idx S n).bind fun m=>(eU S k m).map (n:: ·)
theorem aeA {S:List Int}:∀ {k:Nat} {n:Int} {c:List Int},eU S k n=some c->eU S (k+ 1) n=some c
 | 0,n,c,h=>by
   simp only [eU] at h ⊢
   split at h
   · rename_i ai;rw [if_pos ai];exact h
   · cases h
 | k+ 1,n,c,h=>by
   rw [eU] at h ⊢
   split at h
   · rename_i ai;rw [if_pos ai];exact h
   · rename_i ai
     rw [if_neg ai]
     cases hi:idx S n with
     | none=>rw [hi] at h;cases h
     | some m=>
       rw [hi,Option.bind_some] at h
       rw [Option.bind_some]
       cases hu:eU S k m with
       | none=>rw [hu] at h;cases h
       | some dZ=>rw [hu] at h;rw [aeA hu];exact h
theorem MR {S:List Int} {k k':Nat} {n:Int} {c:List Int} (h:eU S k n=some c) (bi:k<=k'):eU S k' n=some c:=by
 obtain ⟨d,rfl⟩:∃ d,k'=k+d:=⟨k' - k,by omega⟩
 clear bi
 induction d with
 | zero=>exact h
 | succ d cA=>exact aeA cA
theorem aFw {S:List Int} {k k':Nat} {n:Int} {c dZ:List Int} (h:eU S k n=some c) (dU:eU S k' n=some dZ):c=dZ:=by
 have aI:=MR h (Nat.le_max_left k k')
 have aV:=MR dU (Nat.le_max_right k k')
 rw [aI] at aV
 exact Option.some.inj aV
theorem aez {S:List Int}:∀ {k:Nat} {n:Int} {c:List Int},eU S k n=some c->c.length<=k/\eU S c.length n=some c
 | 0,n,c,h=>by
   simp only [eU] at h
   split at h
   · rename_i ai
     injection h with h
     subst h
     simp [eU,ai]
   · cases h
 | k+ 1,n,c,h=>by
   have bH:=h
   rw [eU] at h
   split at h
   · rename_i ai
     injection h with h
     subst h
     simp [eU,ai]
   · rename_i ai
     cases hi:idx S n with
     | none=>rw [hi] at h;cases h
     | some m=>
       rw [hi,Option.bind_some] at h
       cases hu:eU S k m with
       | none=>rw [hu] at h;cases h
       | some dZ=>
         rw [hu] at h
         simp only [Option.map_some,Option.some.injEq] at h
         subst h
         obtain ⟨aI,aV⟩:=aez hu
         refine ⟨by simpa using aI,?_⟩
         rw [List.length_cons,eU,if_neg ai,hi,Option.bind_some,aV];rfl
theorem MS {S:List Int}:∀ {k:Nat} {n:Int} {c:List Int},eU S k n=some c-> ∀ x ∈ c,(0 <=x/\x <S.length)/\ ∃ k' dZ,eU S k' x=some dZ/\dZ.length<=c.length/\dZ≠ []
 | 0,n,c,h,x,al=>by
   simp only [eU] at h
   split at h
   · injection h with h;subst h;cases al
   · cases h
 | k+ 1,n,c,h,x,al=>by
   have bH:=h
   rw [eU] at h
   split at h
   · injection h with h;subst h;cases al
   · rename_i ai
     cases hi:idx S n with
     | none=>rw [hi] at h;cases h
     | some m=>
       rw [hi,Option.bind_some] at h
       cases hu:eU S k m with
       | none=>rw [hu] at h;cases h
       | some dZ=>
         rw [hu] at h
         simp only [Option.map_some,Option.some.injEq] at h
         subst h
         obtain ⟨aHQ,ln,_⟩:=uR hi
         rcases List.mem_cons.1 al with rfl | e
         · exact ⟨⟨by omega,by omega⟩,k+ 1,_,bH,Nat.le_refl _,by simp⟩
         · obtain ⟨aI,k',eH,aV,bX,eP⟩:=MS hu x e
           exact ⟨aI,k',eH,aV,by simp only [List.length_cons];omega,eP⟩
theorem aey {S:List Int}:∀ {k:Nat} {n:Int} {c:List Int},eU S k n=some c->c.Nodup
 | 0,n,c,h=>by
   simp only [eU] at h
   split at h
   · injection h with h;subst h;simp
   · cases h
 | k+ 1,n,c,h=>by
   have bH:=h
   rw [eU] at h
   split at h
   · injection h with h;subst h;simp
   · cases hi:idx S n with
     | none=>rw [hi] at h;cases h
     | some m=>
       rw [hi,Option.bind_some] at h
       cases hu:eU S k m with
       | none=>rw [hu] at h;cases h
       | some dZ=>
         rw [hu] at h
         simp only [Option.map_some,Option.some.injEq] at h
         subst h
         refine List.nodup_cons.2 ⟨fun qa=>?_,aey hu⟩
         obtain ⟨_,k',eH,aV,bX,_⟩:=MS hu n qa
         have:=aFw bH aV
         subst this
         simp only [List.length_cons] at bX
         omega
theorem Wk:∀ (n:Nat) (c:List Nat),c.Nodup->(∀ x ∈ c,x <n)->c.length<=n
 | 0,c,_,h=>by
   cases c with
   | nil=>simp
   | cons x r=>exact absurd (h x (by simp)) (by omega)
 | n+ 1,c,bY,h=>by
   by_cases ai:n ∈ c
   · have aI:=Wk n (c.erase n) (bY.erase n) (fun x al=>by
      have aV:=(bY.mem_erase_iff).1 al
      have:=h x aV.2
      omega)
     rw [List.length_erase_of_mem ai] at aI
     omega
   · have:=Wk n c bY (fun x al=>by
      have aI:=h x al
      have:x≠n:=fun e=>ai (e ▸ al)
      omega)
     omega
theorem aex {S:List Int} {k:Nat} {n:Int} {c:List Int} (h:eU S k n=some c):c.length<=S.length:=by
 have b9:=MS h
 have bY:=aey h
 have:=Wk S.length (c.map Int.toNat) (by
  rw [List.Nodup,List.pairwise_map]
  refine List.Pairwise.imp_of_mem ?_ bY
  intro a b bN a8 KX e
  have aI:=(b9 a bN).1
  have aV:=(b9 b a8).1
  exact KX (by omega)) (fun x al=>by
  obtain ⟨y,hy,rfl⟩:=List.mem_map.1 al
  have aI:=(b9 y hy).1
  omega)
 simpa using this
theorem aFv {S:List Int} {k:Nat} {n:Int} (bi:S.length<=k):eU S k n=eU S S.length n:=by
 cases h:eU S k n with
 | some c=>
   obtain ⟨_,aV⟩:=aez h
   exact (MR aV (aex h)).symm
 | none=>
   cases dU:eU S S.length n with
   | none=>rfl
   | some c=>rw [MR dU bi] at h;cases h
theorem ah3 {m:List (List UInt8 × Int)} {S:List Int} {k:Nat} {n:Int} {c:List Int} (h:eU S k n=some c) (hc:c.length<= 1000) (b4:1001 <F):vo F ⟨l,m,S⟩ n=some c:=by
 have key:∀ (k:Nat) (n:Int) (c acc:List Int) (f:Nat),eU S k n=some c->c.length <f->acc.length+c.length<= 1000 ->vp ⟨l,m,S⟩ f acc n=some (acc++c):=by
  intro k
  induction k with
  | zero=>
    intro n c acc f h I _
    obtain ⟨f,rfl⟩:∃ fm,f=fm+ 1 :=⟨f - 1,by omega⟩
    simp only [eU] at h
    split at h
    · injection h with h
      subst h
      rw [vp,decide_eq_false (by omega)]
      simp
    · cases h
  | succ k cA=>
    intro n c acc f h I aC
    obtain ⟨f,rfl⟩:∃ fm,f=fm+ 1 :=⟨f - 1,by omega⟩
    rw [eU] at h
    split at h
    · injection h with h
      subst h
      rw [vp,decide_eq_false (by omega)]
      simp
    · rename_i ai
      cases hi:idx S n with
      | none=>rw [hi] at h;cases h
      | some x=>
        rw [hi,Option.bind_some] at h
        cases hu:eU S k x with
        | none=>rw [hu] at h;cases h
        | some dZ=>
          rw [hu] at h
          simp only [Option.map_some,Option.some.injEq] at h
          subst h
          simp only [List.length_cons] at I aC
          rw [vp,decide_eq_true (by omega),cond_true]
          unfold eO
          rw [if_pos (by simp only [List.length_cons,List.length_nil];omega)]
          show ((some (acc++[n])).bind fun AD=>(idx S n).bind fun fV=>_)=_
          rw [Option.bind_some,hi,Option.bind_some,cA x dZ (acc++[n]) f hu (by omega) (by simp only [List.length_append,List.length_cons,List.length_nil];omega)]
          simp
 unfold vo
 rw [key k n c [] F h (by omega) (by simp;omega)]
 rfl
end
end J
namespace J
section
variable {F:Nat} {l:List aR}
theorem Dk:(eK l).length=l.length:=by simp [eK]
theorem vK {n:Int} (bH:0 <=n) (aI:n <l.length):∃ x,idx l n=some x/\idx (eK l) n=some (d_ l x.b0):=by
 obtain ⟨x,al⟩:∃ x,l[n.toNat]? =some x:=⟨l[n.toNat]'(by omega),List.getElem?_eq_getElem _⟩
 refine ⟨x,?_,?_⟩
 · unfold idx;rw [if_pos bH,al]
 · unfold idx;rw [if_pos bH,Xx al]
def XD (o:Option (List Int)) (acc:List Int):Way (List Int) (List Int):=match o with
 | some c=>.go (c.reverse++acc)
 | none=>.out []
def eX (l:List aR) (n:Int):List Int:=(eU (eK l) l.length n).getD []
theorem MQ (b4:1100 <F) (h:Right l) {n:Int} (aI:n <l.length):xb F l n=some (eX l n).reverse:=by
 have hlen:=h.len
 have key:∀ (d:Nat) (acc:List Int) (n:Int) (f:Nat),acc.length+d=l.length+ 1 ->d+ 1 <f->n <l.length->xc F l f n acc=some (XD (eU (eK l) d n) acc):=by
  intro d
  induction d with
  | zero=>
    intro acc n f bN I ai
    obtain ⟨f,rfl⟩:∃ fm,f=fm+ 1 :=⟨f - 1,by omega⟩
    rw [xc,eU]
    by_cases bH:n < 0
    · rw [if_pos bH,decide_eq_false (by omega)];rfl
    · rw [if_neg bH,decide_eq_true (by omega),cond_true,decide_eq_true (by omega)];rfl
  | succ d cA=>
    intro acc n f bN I ai
    obtain ⟨f,rfl⟩:∃ fm,f=fm+ 1 :=⟨f - 1,by omega⟩
    rw [xc,eU]
    by_cases bH:n < 0
    · rw [if_pos bH,decide_eq_false (by omega)];rfl
    · obtain ⟨x,al,bc⟩:=vK (l:=l) (n:=n) (by omega) ai
      rw [if_neg bH,decide_eq_true (by omega),cond_true,decide_eq_false (by omega),cond_false]
      unfold eO
      rw [if_pos (by simp only [List.length_cons,List.length_nil];omega)]
      show ((some ([n]++acc)).bind fun yo=>(idx l n).bind fun A9=>_)=_
      rw [Option.bind_some,al,Option.bind_some,wY ⟨by omega,by omega⟩,Option.bind_some,bc,Option.bind_some,cA ([n]++acc) _ f (by simp only [List.length_append,List.length_cons,List.length_nil];omega) (by omega) Qc]
      cases eU (eK l) d (d_ l x.b0) with
      | none=>rfl
      | some c=>simp [XD]
 unfold xb
 rw [key (l.length+ 1) [] n F (by simp) (by omega) aI,aFv (k:=l.length+ 1) (by rw [Dk];omega),Dk]
 unfold eX
 cases eU (eK l) l.length n with
 | none=>rfl
 | some c=>simp [XD,dD]
def ug (l:List aR) (i:Nat):Option Int:=if (eU (eK l) l.length (i:Int)).isSome then none else some 4
theorem XC {S:List Int} {k:Nat} {n:Int} {c:List Int} (h:eU S k n=some c) (bH:0 <=n):∃ r,c=n::r:=by
 cases k with
 | zero=>simp only [eU] at h;rw [if_neg (by omega)] at h;cases h
 | succ k=>
   rw [eU,if_neg (by omega)] at h
   cases hi:idx S n with
   | none=>rw [hi] at h;cases h
   | some m=>
     rw [hi,Option.bind_some] at h
     cases hu:eU S k m with
     | none=>rw [hu] at h;cases h
     | some dZ=>rw [hu] at h;simp only [Option.map_some,Option.some.injEq] at h;exact ⟨dZ,h.symm⟩
theorem aiq (b4:1100 <F) (h:Right l):wP F l F 0 =some (dF ((List.range l.length).findSome? (ug l))):=lM _ (by have:=h.len;omega) (fun k i hi=>by
 rw [wP,cP hi,cond_true,MQ b4 h (by omega),Option.bind_some]
 unfold ug eX
 cases hu:eU (eK l) l.length (i:Int) with
 | none=>rfl
 | some c=>
   obtain ⟨r,rfl⟩:=XC hu (by omega)
   rw [decide_eq_false (by simp;omega)]
   rfl) (fun k=>by rw [wP,cO];rfl) (by have:=h.len;omega)
theorem aaN (h:Right l) (m:List (List UInt8 × Int)) (s:List Int):∀ (d i f:Nat) (n:Int),i+d=l.length->d <f-> 0 <=n->n <l.length-> ∃ r,yt ⟨l,m,s⟩ (eK l) f n i=some r/\(r < 0 ↔ (eU (eK l) d n).isSome=true)
 | 0,i,f,n,hi,I,bH,ai=>by
   obtain ⟨f,rfl⟩:∃ fm,f=fm+ 1 :=⟨f - 1,by omega⟩
   have:i=l.length:=by omega
   subst this
   refine ⟨n,?_,?_⟩
   · rw [yt]
     show cond (decide ((l.length:Int) <(l.length:Int))) _ _=_
     rw [cO];rfl
   · rw [eU,if_neg (by omega)];simp;omega
 | d+ 1,i,f,n,hi,I,bH,ai=>by
   obtain ⟨f,rfl⟩:∃ fm,f=fm+ 1 :=⟨f - 1,by omega⟩
   obtain ⟨x,al,bc⟩:=vK (l:=l) (n:=n) bH ai
   have hlen:=h.len
   rw [yt]
   have hc:decide ((i:Int) <((⟨l,m,s⟩:du).l.length:Int))=true:=cP (n:=l.length) (by omega)
   rw [hc,cond_true,bc,Option.bind_some,eU,if_neg (by omega),bc,Option.bind_some]
   by_cases G5:d_ l x.b0 < 0
   · rw [decide_eq_true G5,cond_true]
     refine ⟨_,rfl,?_⟩
     have:eU (eK l) d (d_ l x.b0)=some []:=by cases d <;> simp [eU,G5]
     rw [this];simp [G5]
   · rw [decide_eq_false G5,cond_false,hV (n:=l.length) (by omega) (by omega)]
     obtain ⟨r,aI,aV⟩:=aaN h m s d (i+ 1) f (d_ l x.b0) (by omega) (by omega) (by omega) Qc
     refine ⟨r,aI,aV.trans ?_⟩
     simp
theorem aip (b4:1100 <F) (h:Right l) (m:List (List UInt8 × Int)) (s:List Int):vn F ⟨l,m,s⟩ (eK l) F 0 =some (dF (((List.range l.length).findSome? (ug l)).map fun e=>(e,(⟨l,m,eK l⟩:du)))):=by
 have hlen:=h.len
 have:=lM (n:=l.length) (L:=vn F ⟨l,m,s⟩ (eK l)) (fun i=>(ug l i).map fun e=>(e,(⟨l,m,eK l⟩:du))) (by omega) (fun k i hi=>by
  rw [vn]
  have hc:decide ((i:Int) <((⟨l,m,s⟩:du).l.length:Int))=true:=cP (n:=l.length) hi
  obtain ⟨r,aI,aV⟩:=aaN h m s l.length 0 F (i:Int) (by omega) (by omega) (by omega) (by omega)
  rw [hc,cond_true,show (0 :Int)=((0 :Nat):Int) from rfl,aI]
  simp only [Option.bind_some]
  unfold ug
  cases hu:(eU (eK l) l.length (i:Int)).isSome with
  | true=>rw [if_pos rfl,decide_eq_false (show ¬ ((0 :Nat):Int)<=r from fun b5=>by have:=aV.2 hu;omega)];rfl
  | false=>rw [if_neg (by simp),decide_eq_true (show ((0 :Nat):Int)<=r from by
   rcases Int.lt_or_le r 0 with b5 | b5
   · have:=aV.1 b5;rw [hu] at this;cases this
   · exact b5)];rfl) (fun k=>by
    rw [vn]
    show cond (decide ((l.length:Int) <(l.length:Int))) _ _=_
    rw [cO];rfl) (F:=F) (by omega)
 rw [this,KN]
structure jy (l:List aR):Prop where
 right:Right l
 aIo:zi l
 aIn:∀ c ∈ l,c.b0= []\/ 0 <=d_ l c.b0
 up:∀ i,i <l.length-> ∃ c,eU (eK l) l.length (i:Int)=some c
 top:∀ c ∈ l,s9 c=none
 obj:0 <=d_ l [79,98,106,101,99,116]
theorem jy.chain (h:jy l) {n:Int} (bH:0 <=n) (aI:n <l.length):eU (eK l) l.length n=some (eX l n)/\(eX l n).length<= 10 /\(∀ x ∈ eX l n,0 <=x/\x <l.length):=by
 obtain ⟨c,hc⟩:=h.up n.toNat (by omega)
 rw [show ((n.toNat:Nat):Int)=n by omega] at hc
 have e:eX l n=c:=by unfold eX;rw [hc];rfl
 rw [e]
 refine ⟨hc,?_,fun x al=>?_⟩
 · have:=aex hc;rw [Dk] at this;have:=h.right.len;omega
 · have:=(MS hc x al).1;rw [Dk] at this;exact this
theorem jy.V4 (h:jy l) (b4:1100 <F) (m:List (List UInt8 × Int)) {n:Int} (bH:0 <=n) (aI:n <l.length):vo F ⟨l,m,eK l⟩ n=some (eX l n):=by
 obtain ⟨hc,aC,_⟩:=h.chain bH aI
 exact ah3 (l:=l) hc (by omega) (by omega)
def ot (l:List aR) (i:Int):List Field:=((idx l i).map (·.Fields)).getD []
def ha (l:List aR) (n:Int):List Field:=(eX l n).reverse.flatMap (ot l)
theorem Qq (h:Right l) (i:Int):(ot l i).length<= 6 :=by
 unfold ot
 cases al:idx l i with
 | none=>simp
 | some x=>
   obtain ⟨_,_,aV⟩:=uR al
   exact h.fields x (List.mem_of_getElem? aV)
theorem Qr (h:Right l):∀ r:List Int,(r.flatMap (ot l)).length<= 6 *r.length
 | []=>by simp
 | x::r=>by
   have aI:=Qq h x
   have aV:=Qr h r
   simp only [List.flatMap_cons,List.length_append,List.length_cons]
   omega
theorem aa9 (h:Right l) (m:List (List UInt8 × Int)) (s:List Int):∀ (rem:List Int) (acc:List Field),(∀ x ∈ rem,0 <=x/\x <l.length)->acc.length+ 6 *rem.length<= 1000 ->yv ⟨l,m,s⟩ rem acc=some (acc++rem.flatMap (ot l))
 | [],acc,_,_=>by simp [yv]
 | x::rem,acc,al,aC=>by
   obtain ⟨c,hc,_⟩:=vK (l:=l) (al x (by simp)).1 (al x (by simp)).2
   have I:ot l x=c.Fields:=by unfold ot;rw [hc];rfl
   have aI:=Qq h x
   rw [I] at aI
   simp only [List.length_cons] at aC
   rw [yv]
   show ((idx l x).bind fun y0=>_)=_
   rw [hc,Option.bind_some]
   unfold eO
   rw [if_pos (by omega),Option.bind_some,aa9 h m s rem _ (fun y hy=>al y (by simp [hy])) (by simp only [List.length_append];omega),List.flatMap_cons,I]
   simp
theorem jy.V5 (h:jy l) (b4:1100 <F) (m:List (List UInt8 × Int)) {n:Int} (bH:0 <=n) (aI:n <l.length):yu F ⟨l,m,eK l⟩ n=some (ha l n):=by
 obtain ⟨_,aC,hm⟩:=h.chain bH aI
 unfold yu
 have:=h.V4 b4 m bH aI
 simp only at this ⊢
 rw [this,Option.bind_some]
 unfold H'
 rw [Option.bind_some,aa9 h.right m (eK l) _ [] (fun x al=>hm x (by simpa using al)) (by simp;omega)]
 simp [ha]
theorem jy.Xk (h:jy l) (b4:1100 <F) {n:Int} (bH:0 <=n) (aI:n <l.length):zj F l n=some (ha l n):=by
 obtain ⟨_,aC,hm⟩:=h.chain bH aI
 unfold zj
 rw [MQ b4 h.right aI,Option.bind_some]
 have:qY l (eX l n).reverse F [] 0 =some (ha l n):=by
  refine V7 (n:=(eX l n).reverse.length) (fun k i=>qY l (eX l n).reverse k (((eX l n).reverse.take i).flatMap (ot l)) (i:Int)) (ha l n) (fun k i hi=>?_) (fun k=>?_) (F:=F) (by simp;omega)
  · obtain ⟨x,al⟩:∃ x,(eX l n).reverse[i]? =some x:=⟨(eX l n).reverse[i],List.getElem?_eq_getElem hi⟩
    have a8:=hm x (by simpa using List.mem_of_getElem? al)
    obtain ⟨c,hc,_⟩:=vK (l:=l) a8.1 a8.2
    have I:ot l x=c.Fields:=by unfold ot;rw [hc];rfl
    have aV:=Qq h.right x
    rw [I] at aV
    have bX:=Qr h.right ((eX l n).reverse.take i)
    simp only [List.length_take,List.length_reverse] at bX hi
    show qY l (eX l n).reverse (k+ 1) (((eX l n).reverse.take i).flatMap (ot l)) (i:Int)=_
    rw [qY,cP (by simpa using hi),cond_true,cu al,Option.bind_some,hc,Option.bind_some]
    unfold eO
    rw [if_pos (by omega),Option.bind_some,hV (n:=(eX l n).length) hi (by omega),List.take_add_one,al,List.flatMap_append]
    simp [I]
  · show qY l (eX l n).reverse (k+ 1) (((eX l n).reverse.take (eX l n).reverse.length).flatMap (ot l)) ((eX l n).reverse.length:Int)=_
    rw [qY,cO,List.take_length];rfl
 rw [this];rfl
end
end J
namespace J
section
variable {F:Nat} {l:List aR}
abbrev o8:=List (List UInt8) × List Target
def pH (nm:List UInt8) (x:List UInt8):Bool:=decide (nm=x)
def tL (p:o8) (nm:List UInt8) (t:Target):o8:=match fR (pH nm) p.1 with
 | some k=>(p.1,p.2.set k t)
 | none=>(p.1 ++[nm],p.2 ++[t])
def q3 (ci:Int):List Method->Nat->o8->o8
 | [],_,p=>p
 | m::r,k,p=>q3 ci r (k+ 1) (tL p m.Name ⟨ci,k⟩)
def gx (l:List aR) (i:Int):List Method:=((idx l i).map (·.az)).getD []
def xg (l:List aR):List Int->o8->o8
 | [],p=>p
 | ci::r,p=>xg l r (q3 ci (gx l ci) 0 p)
def tab (l:List aR) (n:Int):o8:=xg l (eX l n).reverse ([],[])
theorem Pq {p:o8} {nm:List UInt8} {t:Target} (h:p.1.length=p.2.length):(tL p nm t).1.length=(tL p nm t).2.length/\(tL p nm t).1.length<=p.1.length+ 1 :=by
 unfold tL
 cases fR (pH nm) p.1 with
 | some k=>simp [h]
 | none=>simp [h]
theorem Pp {ci:Int}:∀ {r:List Method} {k:Nat} {p:o8},p.1.length=p.2.length->(q3 ci r k p).1.length=(q3 ci r k p).2.length/\(q3 ci r k p).1.length<=p.1.length+r.length
 | [],_,p,h=>⟨h,Nat.le_refl _⟩
 | m::r,k,p,h=>by
   obtain ⟨aI,aV⟩:=Pq (nm:=m.Name) (t:=⟨ci,k⟩) h
   obtain ⟨bX,eP⟩:=Pp (ci:=ci) (r:=r) (k:=k+ 1) aI
   exact ⟨bX,by simp only [q3,List.length_cons];omega⟩
theorem aCU {fq:List (List UInt8)} (h:Small F fq.length) (nm:List UInt8):Il F fq nm=some (((fR (pH nm) fq).map fun n:Nat=>(n:Int)).getD (-1)):=by
 unfold Il
 have l1:yW fq nm F 0 =some (dF ((fR (pH nm) fq).map fun n:Nat=>(n:Int))):=Qp (pH nm) _ h.1 (fun k i x al=>by
  rw [yW,cP (List.getElem?_eq_some_iff.1 al).1,cond_true,cu al,Option.bind_some];rfl) (fun k=>by rw [yW,cO];rfl) h.2
 rw [l1,k9]
 cases fR (pH nm) fq <;> rfl
theorem aer (b4:1100 <F) (ci:Int) (c:aR) (hc:c.az.length<= 8):∀ (d i f:Nat) (p:o8),i+d=c.az.length->d <f->p.1.length=p.2.length->p.1.length+d<= 1000 ->
 yB F ci c f p.1 p.2 (i:Int)=some (q3 ci (c.az.drop i) i p)
 | 0,i,f,p,hi,I,b9,_=>by
   obtain ⟨f,rfl⟩:∃ fm,f=fm+ 1 :=⟨f - 1,by omega⟩
   have:i=c.az.length:=by omega
   subst this
   rw [yB,cO,List.drop_of_length_le (Nat.le_refl _)];rfl
 | d+ 1,i,f,p,hi,I,b9,aC=>by
   obtain ⟨f,rfl⟩:∃ fm,f=fm+ 1 :=⟨f - 1,by omega⟩
   have g2:i <c.az.length:=by omega
   obtain ⟨aI,aV⟩:=Pq (nm:=c.az[i].Name) (t:=⟨ci,i⟩) b9
   have next:=aer b4 ci c hc d (i+ 1) f (tL p c.az[i].Name ⟨ci,i⟩) (by omega) (by omega) aI (by omega)
   rw [yB,cP g2,cond_true,cu (List.getElem?_eq_getElem g2),Option.bind_some,aCU ⟨by omega,by omega⟩,Option.bind_some,List.drop_eq_getElem_cons g2,q3,<-next]
   unfold tL
   cases TH:fR (pH c.az[i].Name) p.1 with
   | some k=>
     have bi:=Wm TH
     simp only [Option.map_some,Option.getD_some]
     rw [decide_eq_true (show (0 :Int)<=(k:Int) by omega),cond_true,cu (List.getElem?_eq_getElem (show k <p.2.length by omega)),Option.bind_some,Option.bind_some,Option.bind_some,hV g2 (by omega)]
     simp
   | none=>
     simp only [Option.map_none,Option.getD_none]
     rw [decide_eq_false (show ¬ (0 :Int)<= -1 by decide),cond_false]
     unfold eO
     rw [if_pos (by simp only [List.length_cons,List.length_nil];omega),Option.bind_some,if_pos (by simp only [List.length_cons,List.length_nil];omega),Option.bind_some,Option.bind_some,hV g2 (by omega)]
theorem adK (h:Right l) (i:Int):(gx l i).length<= 8 :=by
 unfold gx
 cases al:idx l i with
 | none=>simp
 | some x=>
   obtain ⟨_,_,aV⟩:=uR al
   exact h.methods x (List.mem_of_getElem? aV)
theorem aeq (b4:1100 <F) (h:Right l) (m:List (List UInt8 × Int)) (s:List Int):∀ (rem:List Int) (p:o8),(∀ x ∈ rem,0 <=x/\x <l.length)->p.1.length=p.2.length->p.1.length+ 8 *rem.length<= 900 ->
 yA F ⟨l,m,s⟩ rem p.1 p.2 =some (xg l rem p)
 | [],p,_,_,_=>by simp [yA,xg]
 | x::rem,p,al,b9,aC=>by
   obtain ⟨c,hc,_⟩:=vK (l:=l) (al x (by simp)).1 (al x (by simp)).2
   have hm:gx l x=c.az:=by unfold gx;rw [hc];rfl
   have sD:=adK h x
   have Fz:=sD
   rw [hm] at Fz
   simp only [List.length_cons] at aC
   obtain ⟨ln,mb⟩:=Pp (ci:=x) (r:=gx l x) (k:=0) b9
   rw [yA]
   show (Option.bind (α:=(List (List UInt8)) × (List Target)) ((idx l x).bind fun eY=>_) _)=_
   rw [hc,Option.bind_some]
   have:=aer b4 x c Fz c.az.length 0 F p (by omega) (by omega) b9 (by omega)
   rw [show ((0 :Nat):Int)= 0 from rfl] at this
   rw [this,List.drop_zero,Option.bind_some,Option.bind_some,xg,<-hm]
   exact aeq b4 h m s rem _ (fun y hy=>al y (by simp [hy])) ln (by omega)
theorem jy.aDl (h:jy l) (b4:1100 <F) (m:List (List UInt8 × Int)) {n:Int} (bH:0 <=n) (aI:n <l.length):HI F ⟨l,m,eK l⟩ n=some (tab l n):=by
 obtain ⟨_,aC,hm⟩:=h.chain bH aI
 unfold HI
 have:=h.V4 b4 m bH aI
 simp only at this ⊢
 rw [this,Option.bind_some]
 unfold H'
 rw [Option.bind_some,aeq b4 h.right m (eK l) _ ([],[]) (fun x al=>hm x (by simpa using al)) rfl (by simp;omega)]
 rfl
theorem aFf (fq:List (List UInt8)) (m:Method) (h:Small F fq.length):tH fq m F 0 =some (((fR (pH m.Name) fq).getD fq.length:Nat):Int):=by
 have key:∀ (d i f:Nat),i+d=fq.length->d <f->tH fq m f (i:Int)=some ((i+(fR (pH m.Name) (fq.drop i)).getD d:Nat):Int):=by
  intro d
  induction d with
  | zero=>
    intro i f hi I
    obtain ⟨f,rfl⟩:∃ fm,f=fm+ 1 :=⟨f - 1,by omega⟩
    have:i=fq.length:=by omega
    subst this
    rw [tH,cO,List.drop_of_length_le (Nat.le_refl _)];rfl
  | succ d cA=>
    intro i f hi I
    obtain ⟨f,rfl⟩:∃ fm,f=fm+ 1 :=⟨f - 1,by omega⟩
    have g2:i <fq.length:=by omega
    rw [tH,cP g2,cond_true,cu (List.getElem?_eq_getElem g2),Option.bind_some,List.drop_eq_getElem_cons g2,fR]
    by_cases e:fq[i]=m.Name
    · rw [decide_eq_true e,if_pos (by simp [pH,e])];simp
    · rw [decide_eq_false e,if_neg (by simp [pH];exact fun h=>e h.symm)]
      simp only [Bool.not_false,cond_true]
      rw [hV g2 h.1,cA (i+ 1) f (by omega) (by omega)]
      congr 2
      cases fR (pH m.Name) (fq.drop (i+ 1)) with
      | none=>simp;omega
      | some k=>simp;omega
 have:=key fq.length 0 F (by omega) h.2
 simpa using this
theorem aeu (b4:1100 <F) (n3:List Int) (n:Nat) (ci:Int) (c:aR) (b5:n3[n]? =some ci) (p_:idx l ci=some c) (hc:c.az.length<= 8):∀ (d i f:Nat) (p:o8),i+d=c.az.length->d <f->p.1.length=p.2.length->p.1.length+d<= 1000 ->
 w' F l n3 (n:Int) f p.2 p.1 (i:Int)=some ((q3 ci (c.az.drop i) i p).2,(q3 ci (c.az.drop i) i p).1)
 | 0,i,f,p,hi,I,b9,_=>by
   obtain ⟨f,rfl⟩:∃ fm,f=fm+ 1 :=⟨f - 1,by omega⟩
   have:i=c.az.length:=by omega
   subst this
   rw [w',cu b5,Option.bind_some,p_,Option.bind_some,cO,List.drop_of_length_le (Nat.le_refl _)];rfl
 | d+ 1,i,f,p,hi,I,b9,aC=>by
   obtain ⟨f,rfl⟩:∃ fm,f=fm+ 1 :=⟨f - 1,by omega⟩
   have g2:i <c.az.length:=by omega
   obtain ⟨aI,aV⟩:=Pq (nm:=c.az[i].Name) (t:=⟨ci,i⟩) b9
   have next:=aeu b4 n3 n ci c b5 p_ hc d (i+ 1) f (tL p c.az[i].Name ⟨ci,i⟩) (by omega) (by omega) aI (by omega)
   rw [w',cu b5,Option.bind_some,p_,Option.bind_some,cP g2,cond_true,Option.bind_some,p_,Option.bind_some,cu (List.getElem?_eq_getElem g2),Option.bind_some,aFf p.1 _ ⟨by omega,by omega⟩,Option.bind_some,List.drop_eq_getElem_cons g2,q3,<-next]
   unfold tL
   cases TH:fR (pH c.az[i].Name) p.1 with
   | some k=>
     have bi:=Wm TH
     simp only [Option.getD_some]
     rw [decide_eq_false (show ¬ ((k:Nat):Int)=(p.1.length:Int) by omega),cond_false,Option.bind_some]
     simp only [cu b5,Option.bind_some]
     rw [cu (List.getElem?_eq_getElem (show k <p.2.length by omega)),Option.bind_some,Option.bind_some,hV g2 (by omega)]
     simp
   | none=>
     simp only [Option.getD_none,decide_true,cond_true]
     unfold eO
     rw [if_pos (by simp only [List.length_cons,List.length_nil];omega),Option.bind_some,if_pos (by simp only [List.length_cons,List.length_nil];omega),Option.bind_some,Option.bind_some]
     simp only [cu b5,Option.bind_some]
     rw [cu (i:=p.1.length) (x:=(⟨0,0⟩:Target)) (by rw [b9];simp),Option.bind_some,Option.bind_some,hV g2 (by omega)]
     simp [b9,List.set_append]
theorem jy.aEE (h:jy l) (b4:1100 <F) {n:Int} (bH:0 <=n) (aI:n <l.length):Ez F l n=some (tab l n):=by
 obtain ⟨_,aC,hm⟩:=h.chain bH aI
 unfold Ez
 rw [MQ b4 h.right aI,Option.bind_some]
 have key:∀ (d i f:Nat) (p:o8),i+d=(eX l n).reverse.length->d <f->p.1.length=p.2.length->p.1.length+ 8 *d<= 900 ->w_ F l (eX l n).reverse f p.2 p.1 (i:Int)=some ((xg l ((eX l n).reverse.drop i) p).2,(xg l ((eX l n).reverse.drop i) p).1):=by
  intro d
  induction d with
  | zero=>
    intro i f p hi I _ _
    obtain ⟨f,rfl⟩:∃ fm,f=fm+ 1 :=⟨f - 1,by omega⟩
    have:i=(eX l n).reverse.length:=by omega
    subst this
    rw [w_,cO,List.drop_of_length_le (Nat.le_refl _)];rfl
  | succ d cA=>
    intro i f p hi I b9 aIi
    obtain ⟨f,rfl⟩:∃ fm,f=fm+ 1 :=⟨f - 1,by omega⟩
    have g2:i <(eX l n).reverse.length:=by omega
    obtain ⟨ci,p_⟩:∃ x,(eX l n).reverse[i]? =some x:=⟨(eX l n).reverse[i],List.getElem?_eq_getElem g2⟩
    have a8:=hm ci (by simpa using List.mem_of_getElem? p_)
    obtain ⟨c,hc,_⟩:=vK (l:=l) a8.1 a8.2
    have Ai:gx l ci=c.az:=by unfold gx;rw [hc];rfl
    have sD:=adK h.right ci
    have Fz:=sD
    rw [Ai] at Fz
    obtain ⟨ln,mb⟩:=Pp (ci:=ci) (r:=gx l ci) (k:=0) b9
    have t2:=aeu (l:=l) b4 (eX l n).reverse i ci c p_ hc Fz c.az.length 0 F p (by omega) (by omega) b9 (by omega)
    rw [show ((0 :Nat):Int)= 0 from rfl] at t2
    have K2:(eX l n).reverse[i]=ci:=by
     have:=List.getElem?_eq_getElem g2
     rw [p_] at this;exact (Option.some.inj this).symm
    rw [w_,cP g2,cond_true,t2,List.drop_zero,Option.bind_some,Option.bind_some,hV (n:=(eX l n).length) (by simpa using g2) (by omega),List.drop_eq_getElem_cons g2,K2,xg,Ai]
    rw [Ai] at ln mb
    exact cA (i+ 1) f _ (by omega) (by omega) ln (by omega)
 have:=key (eX l n).reverse.length 0 F ([],[]) (by omega) (by simp;omega) rfl (by simp;omega)
 rw [show ((0 :Nat):Int)= 0 from rfl,List.drop_zero] at this
 simp only at this
 rw [this];rfl
end
end J
namespace J
theorem tK {α β:Type} {l:List α} (T:Nat->List β->Nat->Option (List β)) (g:α->List β) (B M:Nat) (j':∀ x ∈ l,(g x).length<=B)
 (bc:∀ k (i:Nat) x acc,l[i]? =some x->acc.length+B<=M->T (k+ 1) acc i=T k (acc++g x) (i+ 1)) (he:∀ k acc,T (k+ 1) acc l.length=some acc) {F:Nat} (b4:l.length <F) {acc:List β} (hs:acc.length+B*l.length<=M) :
 T F acc 0 =some (acc++l.flatMap g):=by
 have key:∀ (d i k:Nat) (acc:List β),i+d=l.length->d <k->acc.length+B*d<=M->T k acc i=some (acc++(l.drop i).flatMap g):=by
  intro d
  induction d with
  | zero=>
    intro i k acc h bi _
    obtain ⟨k,rfl⟩:∃ k',k=k'+ 1 :=⟨k - 1,by omega⟩
    have hi:i=l.length:=by omega
    subst hi
    rw [he,List.drop_of_length_le (Nat.le_refl _)];simp
  | succ d cA=>
    intro i k acc h bi hm
    obtain ⟨k,rfl⟩:∃ k',k=k'+ 1 :=⟨k - 1,by omega⟩
    have hi:i <l.length:=by omega
    have a8:=j' l[i] (List.getElem_mem hi)
    rw [Nat.mul_succ] at hm
    rw [bc k i l[i] acc (List.getElem?_eq_getElem hi) (by omega),cA (i+ 1) k _ (by omega) (by omega) (by simp only [List.length_append];omega),List.drop_eq_getElem_cons hi,List.flatMap_cons,List.append_assoc]
 have:=key l.length 0 F acc (by omega) b4 hs
 simpa using this
theorem adR {α β:Type} {g:α->Option β} {a:α}:[a].findSome? g=g a:=by rw [List.findSome?_cons];cases g a <;> rfl
theorem Fv {α β X7:Type} (f:α->List β) (g:β->Option X7):∀ l:List α,(l.flatMap f).findSome? g=l.findSome? fun x=>(f x).findSome? g
 | []=>rfl
 | x::r=>by
   rw [List.flatMap_cons,List.findSome?_append,List.findSome?_cons,Fv f g r]
   cases (f x).findSome? g <;> rfl
theorem xN {α β:Type} {g:α->List β} {B:Nat}:∀ {l:List α},(∀ x ∈ l,(g x).length<=B)->(l.flatMap g).length<=B*l.length
 | [],_=>by simp
 | x::r,h=>by
   have aI:=h x (by simp)
   have aV:=xN (l:=r) (fun y hy=>h y (by simp [hy]))
   simp only [List.flatMap_cons,List.length_append,List.length_cons,Nat.mul_succ]
   omega
def kV (k:Kind):List (List UInt8):=if k.aR= [] then [] else [k.aR]
def mt (m:Method):List (List UInt8):=m.bA.flatMap kV++kV m.Returns++m.bp.map (·.aR)
def xE (c:aR):List (List UInt8):=c.Fields.flatMap (fun f=>kV f.Kind)++c.az.flatMap mt
def rW (l:List aR):List (List UInt8):=l.flatMap xE
def k_ (l:List aR) (s:List UInt8):Option Int:=if 0 <=d_ l s then none else some 5
theorem uW (k:Kind):(kV k).length<= 1 :=by unfold kV;split <;> simp
section
variable {F:Nat} {l:List aR}
theorem adL (h:Right l) {c:aR} (hc:c ∈ l) {m:Method} (hm:m ∈ c.az):(mt m).length<= 9 :=by
 have aI:=h.method c hc m hm
 have aV:=xN (l:=m.bA) (g:=kV) (B:=1) (fun k _=>uW k)
 have bX:=uW m.Returns
 unfold mt
 simp only [List.length_append,List.length_map]
 omega
theorem aaL (h:Right l) {c:aR} (hc:c ∈ l):(xE c).length<= 78 :=by
 have aI:=xN (l:=c.Fields) (g:=fun f=>kV f.Kind) (B:=1) (fun f _=>uW f.Kind)
 have aV:=xN (l:=c.az) (g:=mt) (B:=9) (fun m hm=>adL h hc hm)
 have bX:=h.fields c hc
 have eP:=h.methods c hc
 unfold xE
 simp only [List.length_append]
 omega
theorem lh {b:Nat} {α:Type} {acc r:List α} (h:(acc.length+r.length)*b<= 140737488355328):eO b acc r=some (acc++r):=by unfold eO;rw [if_pos h]
theorem XA {acc:List (List UInt8)} (h:acc.length<= 5000) (k:Kind):AH k acc=some (acc++kV k):=by
 unfold AH kV
 by_cases e:k.aR= []
 · rw [decide_eq_true e,if_pos e];simp
 · rw [decide_eq_false e,if_neg e]
   simp only [Bool.not_false,cond_true]
   rw [lh (by simp only [List.length_cons,List.length_nil];omega)];rfl
theorem aFi (b4:1100 <F) (h:Right l) (m:List (List UInt8 × Int)) (s:List Int):vu F ⟨l,m,s⟩ F [] 0 =some (rW l):=by
 have hlen:=h.len
 have:=tK (l:=l) (fun k acc i=>vu F ⟨l,m,s⟩ k acc (i:Int)) xE 78 2000 (fun c hc=>aaL h hc) (fun k i c acc al ux=>by
  have hc:=List.mem_of_getElem? al
  have ul:=h.fields c hc
  have sD:=h.methods c hc
  have hi:=(List.getElem?_eq_some_iff.1 al).1
  have g3:∀ acc:List (List UInt8),acc.length<= 2000 ->vv c F acc 0 =some (acc++c.Fields.flatMap fun f=>kV f.Kind):=fun acc bN=>
   tK (l:=c.Fields) (fun k acc i=>vv c k acc (i:Int)) (fun f=>kV f.Kind) 1 3000 (fun f _=>uW f.Kind) (fun k i f acc al ux=>by
    have hi:=(List.getElem?_eq_some_iff.1 al).1
    rw [vv,cP hi,cond_true,cu al,Option.bind_some,XA (by omega),Option.bind_some,hV hi (by omega)]) (fun k acc=>by rw [vv,cO];rfl) (by omega) (by omega)
  have pK:∀ acc:List (List UInt8),acc.length<= 2100 ->vw F c F acc 0 =some (acc++c.az.flatMap mt):=fun acc bN=>
   tK (l:=c.az) (fun k acc i=>vw F c k acc (i:Int)) mt 9 3000 (fun m hm=>adL h hc hm) (fun k i m acc al ux=>by
    have hm:=List.mem_of_getElem? al
    have hi:=(List.getElem?_eq_some_iff.1 al).1
    obtain ⟨eP,mY⟩:=h.method c hc m hm
    have AF:vx m F acc 0 =some (acc++m.bA.flatMap kV):=tK (l:=m.bA) (fun k acc i=>vx m k acc (i:Int)) kV 1 3100 (fun k _=>uW k) (fun k i x acc al ux=>by
     have hi:=(List.getElem?_eq_some_iff.1 al).1
     rw [vx,cP hi,cond_true,cu al,Option.bind_some,XA (by omega),Option.bind_some,hV hi (by omega)]) (fun k acc=>by rw [vx,cO];rfl) (by omega) (by omega)
    have bi:=xN (l:=m.bA) (g:=kV) (B:=1) (fun k _=>uW k)
    have aIe:=uW m.Returns
    have VX:∀ acc:List (List UInt8),acc.length<= 3200 ->vy m F acc 0 =some (acc++m.bp.flatMap fun h=>[h.aR]):=fun acc bN=>
     tK (l:=m.bp) (fun k acc i=>vy m k acc (i:Int)) (fun h=>[h.aR]) 1 3300 (fun k _=>by simp) (fun k i x acc al ux=>by
      have hi:=(List.getElem?_eq_some_iff.1 al).1
      rw [vy,cP hi,cond_true,cu al,Option.bind_some,lh (by simp only [List.length_cons,List.length_nil];omega),Option.bind_some,hV hi (by omega)]) (fun k acc=>by rw [vy,cO];rfl) (by omega) (by omega)
    rw [vw,cP hi,cond_true,cu al,Option.bind_some,AF,Option.bind_some,XA (k:=(⟨m.Returns.Kind,m.Returns.aR⟩:Kind)) (by simp only [List.length_append];omega),Option.bind_some,
     VX _ (by simp only [List.length_append];have:(kV (⟨m.Returns.Kind,m.Returns.aR⟩:Kind)).length<= 1 :=uW _;omega),Option.bind_some,Option.bind_some,hV hi (by omega)]
    have e:(m.bp.flatMap fun h=>[h.aR])=m.bp.map (·.aR):=by
     induction m.bp with
     | nil=>rfl
     | cons x r cA=>rw [List.flatMap_cons,cA];rfl
    rw [e]
    unfold mt
    simp only [List.append_assoc]) (fun k acc=>by rw [vw,cO];rfl) (by omega) (by omega)
  have bi:=xN (l:=c.Fields) (g:=fun f=>kV f.Kind) (B:=1) (fun f _=>uW f.Kind)
  rw [vu]
  have Gy:decide ((i:Int) <((⟨l,m,s⟩:du).l.length:Int))=true:=cP (n:=l.length) hi
  rw [Gy,cond_true]
  show (Option.bind (α:=List (List UInt8)) ((idx l (i:Int)).bind fun cr=>_) _)=_
  rw [cu al,Option.bind_some,g3 acc (by omega),Option.bind_some,pK _ (by simp only [List.length_append];omega),Option.bind_some,Option.bind_some,hV hi (by omega)]
  unfold xE
  simp only [List.append_assoc]) (fun k acc=>by
   rw [vu]
   show cond (decide ((l.length:Int) <(l.length:Int))) _ _=_
   rw [cO];rfl) (F:=F) (by omega) (acc:=[]) (by simp;omega)
 simpa [rW] using this
theorem Wa (s:List UInt8):(dr (gz 0 l) s).isSome=decide (0 <=d_ l s):=by
 rw [C6]
 unfold d_
 cases fR (kT s) l with
 | none=>simp
 | some i=>simp
theorem aFg (b4:1100 <F) (h:Right l) (s:List Int):HJ F ⟨l,gz 0 l,s⟩=some (((rW l).findSome? (k_ l)).getD 0):=by
 have hlen:=h.len
 unfold HJ
 have bV:=aFi b4 h (gz 0 l) s
 have aIk:(rW l).length<= 780 :=by
  have:=xN (l:=l) (g:=xE) (B:=78) (fun c hc=>aaL h hc)
  unfold rW;omega
 rw [bV,Option.bind_some]
 have HD:yC ⟨l,gz 0 l,s⟩ (rW l) F 0 =some (dF ((rW l).findSome? (k_ l))):=each (k_ l) (by omega) (fun k i x al=>by
  rw [yC,cP (List.getElem?_eq_some_iff.1 al).1,cond_true,cu al,Option.bind_some]
  show cond (!(dr (gz 0 l) x).isSome) _ _=_
  rw [Wa]
  unfold k_
  by_cases e:0 <=d_ l x
  · rw [decide_eq_true e,if_pos e];rfl
  · rw [decide_eq_false e,if_neg e];rfl) (fun k=>by rw [yC,cO];rfl) (by omega)
 rw [HD]
 cases (rW l).findSome? (k_ l) <;> rfl
def oB (l:List aR) (k:Kind):Option Int:=(kV k).findSome? (k_ l)
theorem aev {s:List UInt8}:k_ l s=none\/k_ l s=some 5 :=by unfold k_;split <;> simp
theorem sy {α:Type} {g:α->Option Int} {e:Int} (dt:∀ x,g x=none\/g x=some e):∀ r:List α,r.findSome? g=none\/r.findSome? g=some e
 | []=>.inl rfl
 | x::r=>by
   rw [List.findSome?_cons]
   rcases dt x with h | h
   · rw [h];exact sy dt r
   · rw [h];exact .inr rfl
theorem aC9 (k:Kind):oB l k=if k.aR= []\/ 0 <=d_ l k.aR then none else some 5 :=by
 unfold oB kV k_
 by_cases e:k.aR= []
 · simp [e]
 · by_cases cf:0 <=d_ l k.aR <;> simp [e,cf]
theorem Pl (h:Small F l.length) {CO:List Kind} (bi:Small F CO.length):zm F l CO=some (CO.findSome? (oB l)).isNone:=by
 unfold zm
 have l1:=each (l:=CO) (L:=tJ F CO l) (fun k=>(oB l k).map fun _=>false) bi.1 (fun k i x al=>by
  rw [tJ,cP (List.getElem?_eq_some_iff.1 al).1,cond_true,cu al,Option.bind_some,Option.bind_some,wY h,Option.bind_some,aC9]
  by_cases e:x.aR= []
  · rw [if_pos (.inl e),decide_eq_true e];rfl
  · rw [decide_eq_false e]
    by_cases cf:0 <=d_ l x.aR
    · rw [if_pos (.inr cf),decide_eq_false (show ¬ d_ l x.aR < 0 by omega)];rfl
    · rw [if_neg (by simp [e,cf]),decide_eq_true (show d_ l x.aR < 0 by omega)];rfl) (fun k=>by rw [tJ,cO];rfl) bi.2
 rw [l1,KN]
 cases CO.findSome? (oB l) <;> rfl
theorem Ui {o:Option Int} (h:o=none\/o=some 5) (Y:Option (Way Int Unit)):cond (!o.isNone) (some (.out 5)) Y=iR o Y:=by rcases h with h | h <;> rw [h] <;> rfl
theorem VR (k:Kind):oB l k=none\/oB l k=some 5 :=sy (fun _=>aev) _
theorem Iq {o mC:Option Int} {Y:Option (Way Int Unit)}:iR o (iR mC Y)=iR (o.or mC) Y:=by cases o <;> rfl
theorem aFh (b4:1100 <F) (h:Right l):tD F l F 0 =some (dF ((rW l).findSome? (k_ l))):=by
 have hlen:=h.len
 have:=each (l:=l) (L:=tD F l) (fun c=>(xE c).findSome? (k_ l)) (by omega) (fun k n c al=>by
  have hc:=List.mem_of_getElem? al
  have ul:=h.fields c hc
  have sD:=h.methods c hc
  have HD:wQ F l (n:Int) F 0 =some (dF (c.Fields.findSome? fun f=>oB l f.Kind)):=each (l:=c.Fields) (fun f=>oB l f.Kind) (by omega) (fun k i f hy=>by
   rw [wQ,cu al,Option.bind_some,cP (List.getElem?_eq_some_iff.1 hy).1,cond_true,Option.bind_some,cu hy,Option.bind_some,Pl ⟨by omega,by omega⟩ ⟨by simp,by simp;omega⟩,Option.bind_some]
   have e:[(⟨f.Kind.Kind,f.Kind.aR⟩:Kind)].findSome? (oB l)=oB l f.Kind:=adR
   rw [e]
   exact Ui (VR _) _) (fun k=>by rw [wQ,cu al,Option.bind_some,cO];rfl) (by omega)
  have VZ:wR F l (n:Int) F 0 =some (dF (c.az.findSome? fun m=>(mt m).findSome? (k_ l))):=each (l:=c.az) (fun m=>(mt m).findSome? (k_ l)) (by omega) (fun k i m hy=>by
   have hm:=List.mem_of_getElem? hy
   obtain ⟨eP,mY⟩:=h.method c hc m hm
   have V0:wS F l m F 0 =some (dF (m.bp.findSome? fun x=>k_ l x.aR)):=each (l:=m.bp) (fun x=>k_ l x.aR) (by omega) (fun k i x c8=>by
    rw [wS,cP (List.getElem?_eq_some_iff.1 c8).1,cond_true,cu c8,Option.bind_some,wY ⟨by omega,by omega⟩,Option.bind_some]
    unfold k_
    by_cases cf:0 <=d_ l x.aR
    · rw [if_pos cf,decide_eq_false (show ¬ d_ l x.aR < 0 by omega)];rfl
    · rw [if_neg cf,decide_eq_true (show d_ l x.aR < 0 by omega)];rfl) (fun k=>by rw [wS,cO];rfl) (by omega)
   have e:[(⟨m.Returns.Kind,m.Returns.aR⟩:Kind)].findSome? (oB l)=oB l m.Returns:=adR
   rw [wR,cu al,Option.bind_some,cP (List.getElem?_eq_some_iff.1 hy).1,cond_true,Option.bind_some,cu hy,Option.bind_some,Pl ⟨by omega,by omega⟩ ⟨by omega,by omega⟩,Option.bind_some,Pl ⟨by omega,by omega⟩ ⟨by simp,by simp;omega⟩,Option.bind_some,V0,e,oQ]
   rw [Ui (VR _),Ui (sy (fun k=>VR k) _),Iq,Iq,qH,oP]
   congr 1
   unfold mt
   rw [List.findSome?_append,List.findSome?_append,Fv,List.findSome?_map]
   cases hD:m.bA.findSome? (oB l) with
   | some a=>
     have:(m.bA.findSome? fun x=>(kV x).findSome? (k_ l))=some a:=hD
     rw [this];rfl
   | none=>
     have:(m.bA.findSome? fun x=>(kV x).findSome? (k_ l))=none:=hD
     rw [this];rfl) (fun k=>by rw [wR,cu al,Option.bind_some,cO];rfl) (by omega)
  rw [tD,cP (List.getElem?_eq_some_iff.1 al).1,cond_true,HD,VZ,oQ,oQ,Iq,qH,oP]
  congr 1
  unfold xE
  rw [List.findSome?_append,Fv,Fv]
  rfl) (fun k=>by rw [tD,cO];rfl) (F:=F) (by omega)
 rw [this,rW,Fv]
end
end J
namespace J
theorem LW {κ β:Type} [DecidableEq κ] {k:κ} {v:β}:∀ m:List (κ × β),(iM m k v).length=if (dr m k).isSome then m.length else m.length+ 1
 | []=>rfl
 | p::r=>by
   simp only [iM,dr]
   by_cases h:p.1 =k
   · simp [h]
   · simp only [if_neg h,List.length_cons,LW r]
     split <;> rfl
theorem HO {κ β:Type} [DecidableEq κ] {k s:κ} {v:β}:∀ m:List (κ × β),(dr (iM m k v) s).isSome=true ↔ s=k\/(dr m s).isSome=true
 | []=>by
   simp only [iM,dr]
   by_cases h:k=s
   · simp [h]
   · simp [h];exact fun e=>h e.symm
 | p::r=>by
   have cA:=HO (k:=k) (s:=s) (v:=v) r
   simp only [iM]
   by_cases h:p.1 =k
   · rw [if_pos h]
     simp only [dr]
     by_cases e:k=s
     · simp [e]
     · have cf: ¬ p.1 =s:=fun x=>e (h.symm.trans x)
       rw [if_neg e,if_neg cf]
       constructor
       · exact fun x=>.inr x
       · rintro (x | x)
         · exact absurd x.symm e
         · exact x
   · rw [if_neg h]
     simp only [dr]
     by_cases e:p.1 =s
     · simp [e]
     · rw [if_neg e,if_neg e];exact cA
def uh (fq:List (List UInt8)):Option Int:=if fq.Nodup then none else some 6
section
variable {F:Nat} {l:List aR}
theorem aew (b4:1100 <F) {fq:List (List UInt8)} (ai:fq.length<= 1000):CV F fq=some (decide (¬ fq.Nodup)):=by
 have key:∀ (d i k:Nat) (m:List (List UInt8 × Bool)),i+d=fq.length->d <k->(∀ s,(dr m s).isSome=true ↔ s ∈ fq.take i)->m.length<=i->(m.length=i ↔ (fq.take i).Nodup) ->
  ∃ jq,yD fq k m (i:Int)=some jq/\jq.length<=fq.length/\(jq.length=fq.length ↔ fq.Nodup):=by
  intro d
  induction d with
  | zero=>
    intro i k m hi bi aI aV bX
    obtain ⟨k,rfl⟩:∃ k',k=k'+ 1 :=⟨k - 1,by omega⟩
    have:i=fq.length:=by omega
    subst this
    rw [List.take_length] at bX
    exact ⟨m,by rw [yD,cO];rfl,aV,bX⟩
  | succ d cA=>
    intro i k m hi bi aI aV bX
    obtain ⟨k,rfl⟩:∃ k',k=k'+ 1 :=⟨k - 1,by omega⟩
    have g2:i <fq.length:=by omega
    have bS:fq.take (i+ 1)=fq.take i++[fq[i]]:=by rw [List.take_add_one,List.getElem?_eq_getElem g2];rfl
    rw [yD,cP g2,cond_true,cu (List.getElem?_eq_getElem g2),Option.bind_some,hV g2 (by omega)]
    refine cA (i+ 1) k _ (by omega) (by omega) (fun s=>?_) ?_ ?_
    · rw [HO,aI,bS,List.mem_append,List.mem_singleton]
      constructor
      · rintro (h | h)
        · exact .inr h
        · exact .inl h
      · rintro (h | h)
        · exact .inr h
        · exact .inl h
    · rw [LW];split <;> omega
    · rw [LW,bS,List.nodup_append]
      by_cases hm:(dr m fq[i]).isSome=true
      · rw [if_pos hm]
        have:=(aI fq[i]).1 hm
        constructor
        · intro h;omega
        · rintro ⟨_,_,h⟩;exact absurd rfl (h _ this _ (by simp))
      · rw [if_neg hm]
        have:fq[i] ∉ fq.take i:=fun h=>hm ((aI fq[i]).2 h)
        constructor
        · intro h
          exact ⟨bX.1 (by omega),by simp,fun a bN b a8 e=>by
           rw [List.mem_singleton] at a8;subst a8;exact this (e ▸ bN)⟩
        · rintro ⟨h,_,_⟩
          have:=bX.2 h
          omega
 obtain ⟨jq,aI,aV,bX⟩:=key fq.length 0 F [] (by omega) (by omega) (fun s=>by simp [dr]) (by simp) (by simp)
 unfold CV
 rw [show (0 :Int)=((0 :Nat):Int) from rfl,aI,Option.bind_some]
 congr 1
 by_cases bY:fq.Nodup
 · have:=bX.2 bY
   rw [decide_eq_false (by omega),decide_eq_false (by simp [bY])]
 · have:jq.length≠fq.length:=fun e=>bY (bX.1 e)
   rw [decide_eq_true (by omega),decide_eq_true bY]
def Qk {α:Type} (nm:α->List UInt8) (r:List α):Option Int:=(List.range r.length).findSome? fun k=>(List.range k).findSome? fun j=>if (r[j]?).map nm=(r[k]?).map nm then some 6 else none
theorem aaQ {α:Type} (nm:α->List UInt8) (r:List α):Qk nm r=uh (r.map nm):=by
 have ah:Qk nm r=none\/Qk nm r=some 6 :=sy (fun k=>sy (fun j=>by split <;> simp) _) _
 unfold uh
 by_cases bY:(r.map nm).Nodup
 · rw [if_pos bY]
   rcases ah with h | h
   · exact h
   · exfalso
     obtain ⟨k,bi,aI⟩:=List.exists_of_findSome?_eq_some h
     obtain ⟨j,bf,aV⟩:=List.exists_of_findSome?_eq_some aI
     simp only [List.mem_range] at bi bf
     split at aV
     · rename_i e
       have:=List.pairwise_iff_getElem.1 bY j k (by simp;omega) (by simpa using bi) bf
       apply this
       rw [List.getElem?_eq_getElem (by omega),List.getElem?_eq_getElem bi] at e
       simpa using e
     · cases aV
 · rw [if_neg bY]
   rcases ah with h | h
   · exfalso
     apply bY
     refine List.pairwise_iff_getElem.2 fun j k bf bi Ah e=>?_
     have aI:=List.findSome?_eq_none_iff.1 h k (by simpa using bi)
     have aV:=List.findSome?_eq_none_iff.1 aI j (by simpa using Ah)
     simp only [List.length_map] at bf bi
     rw [List.getElem?_eq_getElem bf,List.getElem?_eq_getElem bi] at aV
     simp only [List.getElem_map] at e
     rw [if_pos (by simp [e])] at aV
     cases aV
   · exact h
theorem aiv (b4:1100 <F) (r:List Field) (b5:r.length<= 1000):wH F r F 0 =some (dF (uh (r.map (·.Name)))):=by
 rw [<-aaQ]
 exact lM _ (by omega) (fun k i hi=>by
  have VS:wI r (i:Int) F 0 =some (dF ((List.range i).findSome? fun j=>if (r[j]?).map (·.Name)=(r[i]?).map (·.Name) then some 6 else none)):=lM _ (by omega) (fun k j bf=>by
   rw [wI,cP bf,cond_true,cu (List.getElem?_eq_getElem (show j <r.length by omega)),Option.bind_some,cu (List.getElem?_eq_getElem hi),Option.bind_some,List.getElem?_eq_getElem (show j <r.length by omega),List.getElem?_eq_getElem hi]
   simp only [Option.map_some,Option.some.injEq]
   by_cases e:r[j].Name=r[i].Name
   · rw [decide_eq_true e,if_pos e];rfl
   · rw [decide_eq_false e,if_neg e];rfl) (fun k=>by rw [wI,cO];rfl) (by omega)
  rw [wH,cP hi,cond_true,VS,oQ,qH,oP]) (fun k=>by rw [wH,cO];rfl) (by omega)
theorem aiw (b4:1100 <F) (c:aR) (b5:c.az.length<= 1000):wJ F c F 0 =some (dF (uh (c.az.map (·.Name)))):=by
 rw [<-aaQ]
 exact lM _ (by omega) (fun k i hi=>by
  have VS:wK c (i:Int) F 0 =some (dF ((List.range i).findSome? fun j=>if (c.az[j]?).map (·.Name)=(c.az[i]?).map (·.Name) then some 6 else none)):=lM _ (by omega) (fun k j bf=>by
   rw [wK,cP bf,cond_true,cu (List.getElem?_eq_getElem (show j <c.az.length by omega)),Option.bind_some,cu (List.getElem?_eq_getElem hi),Option.bind_some,List.getElem?_eq_getElem (show j <c.az.length by omega),List.getElem?_eq_getElem hi]
   simp only [Option.map_some,Option.some.injEq]
   by_cases e:c.az[j].Name=c.az[i].Name
   · rw [decide_eq_true e,if_pos e];rfl
   · rw [decide_eq_false e,if_neg e];rfl) (fun k=>by rw [wK,cO];rfl) (by omega)
  rw [wJ,cP hi,cond_true,VS,oQ,qH,oP]) (fun k=>by rw [wJ,cO];rfl) (by omega)
def yG (l:List aR) (i:Nat):Option Int:=(uh ((ha l i).map (·.Name))).or (uh ((gx l i).map (·.Name)))
theorem aba (h:jy l) {n:Int} (bH:0 <=n) (aI:n <l.length):(ha l n).length<= 60 :=by
 obtain ⟨_,aC,_⟩:=h.chain bH aI
 have:=Qr h.right (eX l n).reverse
 unfold ha
 simp only [List.length_reverse] at this
 omega
theorem aaR {fq:List (List UInt8)} {Y:Option (Way Int Unit)}:cond (decide (¬ fq.Nodup)) (some (.out 6)) Y=iR (uh fq) Y:=by
 unfold uh
 by_cases h:fq.Nodup
 · rw [if_pos h,decide_eq_false (by simp [h])];rfl
 · rw [if_neg h,decide_eq_true h];rfl
theorem adJ {i:Nat} {c:aR} (h:l[i]? =some c):gx l (i:Int)=c.az:=by unfold gx;rw [cu h];rfl
theorem aDL (b4:1100 <F) (h:jy l):wT F l F 0 =some (dF ((List.range l.length).findSome? (yG l))):=by
 have hlen:=h.right.len
 exact lM _ (by omega) (fun k i hi=>by
  obtain ⟨c,al⟩:∃ x,l[i]? =some x:=⟨l[i],List.getElem?_eq_getElem hi⟩
  have sD:=h.right.methods c (List.mem_of_getElem? al)
  have abY:=aba h (n:=(i:Int)) (by omega) (by omega)
  rw [wT,cP hi,cond_true,h.Xk b4 (by omega) (by omega),Option.bind_some,aiv b4 _ (by omega),oQ,cu al,Option.bind_some,aiw b4 c (by omega),oQ,Iq,qH,oP]
  unfold yG
  rw [adJ al]) (fun k=>by rw [wT,cO];rfl) (by omega)
theorem aDK (b4:1100 <F) (h:jy l) (m:List (List UInt8 × Int)):HH F ⟨l,m,eK l⟩=some (((List.range l.length).findSome? (yG l)).getD 0):=by
 have hlen:=h.right.len
 have:=lM (n:=l.length) (L:=yz F ⟨l,m,eK l⟩) (yG l) (by omega) (fun k i hi=>by
  obtain ⟨c,al⟩:∃ x,l[i]? =some x:=⟨l[i],List.getElem?_eq_getElem hi⟩
  have sD:=h.right.methods c (List.mem_of_getElem? al)
  have abY:=aba h (n:=(i:Int)) (by omega) (by omega)
  have g3:vr (ha l i) F [] 0 =some ((ha l i).map (·.Name)):=by
   have:=tK (l:=ha l i) (fun k acc Av=>vr (ha l i) k acc (Av:Int)) (fun f=>[f.Name]) 1 3000 (fun f _=>by simp) (fun k j x acc al ux=>by
    have bf:=(List.getElem?_eq_some_iff.1 al).1
    rw [vr,cP bf,cond_true,cu al,Option.bind_some,lh (by simp only [List.length_cons,List.length_nil];omega),Option.bind_some,hV bf (by omega)]) (fun k acc=>by rw [vr,cO];rfl) (F:=F) (by omega) (acc:=[]) (by simp;omega)
   rw [show (0 :Int)=((0 :Nat):Int) from rfl,this]
   congr 1
   rw [List.nil_append]
   induction ha l i with
   | nil=>rfl
   | cons x r cA=>rw [List.flatMap_cons,cA];rfl
  have pK:vt c F [] 0 =some (c.az.map (·.Name)):=by
   have:=tK (l:=c.az) (fun k acc Av=>vt c k acc (Av:Int)) (fun f=>[f.Name]) 1 3000 (fun f _=>by simp) (fun k j x acc al ux=>by
    have bf:=(List.getElem?_eq_some_iff.1 al).1
    rw [vt,cP bf,cond_true,cu al,Option.bind_some,lh (by simp only [List.length_cons,List.length_nil];omega),Option.bind_some,hV bf (by omega)]) (fun k acc=>by rw [vt,cO];rfl) (F:=F) (by omega) (acc:=[]) (by simp;omega)
   rw [show (0 :Int)=((0 :Nat):Int) from rfl,this]
   congr 1
   rw [List.nil_append]
   induction c.az with
   | nil=>rfl
   | cons x r cA=>rw [List.flatMap_cons,cA];rfl
  rw [yz]
  have Gy:decide ((i:Int) <((⟨l,m,eK l⟩:du).l.length:Int))=true:=cP (n:=l.length) hi
  have at6:=h.V5 b4 m (n:=(i:Int)) (by omega) (by omega)
  rw [Gy,cond_true]
  show et (α:=Unit) ((idx l (i:Int)).bind fun eN=>(yu F ⟨l,m,eK l⟩ (i:Int)).bind fun g6=>_) _=_
  rw [cu al,Option.bind_some,at6,Option.bind_some,g3,Option.bind_some,pK,Option.bind_some,aew b4 (by simp;omega),Option.bind_some,aew b4 (by simp;omega),Option.bind_some,aaR,aaR,Iq,qH,oP]
  unfold yG
  rw [adJ al]) (fun k=>by
   rw [yz]
   show cond (decide ((l.length:Int) <(l.length:Int))) _ _=_
   rw [cO];rfl) (F:=F) (by omega)
 unfold HH
 rw [this]
 cases (List.range l.length).findSome? (yG l) <;> rfl
theorem aeh {a b:List Kind} (bN:a.length<= 1000) (a8:b.length<= 1000) (b4:1100 <F):tG F a b=some (decide (a=b)):=by
 unfold tG
 by_cases aC:a.length=b.length
 · rw [decide_eq_true (show (a.length:Int)=(b.length:Int) by omega)]
   simp only [Bool.not_true,cond_false]
   have l1:o7 a b F 0 =some (dF ((List.range a.length).findSome? fun i=>if a[i]? =b[i]? then none else some false)):=lM _ (by omega) (fun k i hi=>by
    rw [o7,cP hi,cond_true,cu (List.getElem?_eq_getElem hi),Option.bind_some,cu (List.getElem?_eq_getElem (show i <b.length by omega)),Option.bind_some,List.getElem?_eq_getElem hi,List.getElem?_eq_getElem (show i <b.length by omega)]
    simp only [Option.some.injEq]
    by_cases e:a[i]=b[i]
    · rw [decide_eq_true e,if_pos e];rfl
    · rw [decide_eq_false e,if_neg e];rfl) (fun k=>by rw [o7,cO];rfl) (by omega)
   rw [l1,k9]
   cases I:(List.range a.length).findSome? fun i=>if a[i]? =b[i]? then none else some false with
   | some e=>
     obtain ⟨i,hi,aI⟩:=List.exists_of_findSome?_eq_some I
     split at aI
     · cases aI
     · rename_i fo
       injection aI with aI
       subst aI
       rw [decide_eq_false (fun e=>fo (by rw [e]))];rfl
   | none=>
     rw [decide_eq_true];rfl
     apply List.ext_getElem?
     intro i
     by_cases hi:i <a.length
     · have:=List.findSome?_eq_none_iff.1 I i (by simpa using hi)
       split at this
       · assumption
       · cases this
     · rw [List.getElem?_eq_none (by omega),List.getElem?_eq_none (by omega)]
 · rw [decide_eq_false (show ¬ (a.length:Int)=(b.length:Int) by omega),decide_eq_false (fun e=>aC (by rw [e]))];rfl
theorem aiO {a b:List Kind} (bN:a.length<= 1000) (a8:b.length<= 1000) (b4:1100 <F):Ig F a b=some (decide (a=b)):=by
 rw [<-aeh bN a8 b4]
 unfold Ig tG
 have e:∀ k n,AY a b k n=o7 a b k n:=by
  intro k
  induction k with
  | zero=>intro n;rfl
  | succ k cA=>intro n;rw [AY,o7];simp only [cA]
 rw [e]
def Qd (a b:Method):Bool:=decide (a.Name=b.Name) && (a.Static || b.Static || !decide (a.bA=b.bA) || !decide (a.Returns=b.Returns))
def p6 (a b:Method):Option Int:=if Qd a b then some 4 else none
def uc (l:List aR) (c:aR) (u:Int):Option Int:=c.az.findSome? fun a=>(gx l u).findSome? (p6 a)
def CX (l:List aR) (c:aR) (i:Nat):Option Int:=(eX l i).tail.findSome? (uc l c)
theorem ah_ (a b:Method):p6 a b=none\/p6 a b=some 4 :=by unfold p6;split <;> simp
theorem aaA (c:aR) (u:Int):uc l c u=none\/uc l c u=some 4 :=sy (fun _=>sy (fun _=>ah_ _ _) _) _
theorem aiZ {α:Type} {g:α->Option Int} {e:Int} (dt:∀ x,g x=none\/g x=some e) (r:List α):r.reverse.findSome? g=r.findSome? g:=by
 rcases sy dt r with h | h
 · rw [h,List.findSome?_eq_none_iff]
   intro x al
   exact List.findSome?_eq_none_iff.1 h x (by simpa using al)
 · rw [h]
   rcases sy dt r.reverse with aV | aV
   · obtain ⟨x,al,bX⟩:=List.exists_of_findSome?_eq_some h
     have:=List.findSome?_eq_none_iff.1 aV x (by simpa using al)
     rw [bX] at this;cases this
   · exact aV
theorem aDu (b4:1100 <F) (h:jy l) (m:List (List UInt8 × Int)):HG F ⟨l,m,eK l⟩=some (((List.range l.length).findSome? fun i=>(l[i]?).bind fun c=>CX l c i).getD 0):=by
 have hlen:=h.right.len
 have:=lM (n:=l.length) (L:=yw F ⟨l,m,eK l⟩) (fun i=>(l[i]?).bind fun c=>CX l c i) (by omega) (fun k i hi=>by
  obtain ⟨c,al⟩:∃ x,l[i]? =some x:=⟨l[i],List.getElem?_eq_getElem hi⟩
  have nK:=List.mem_of_getElem? al
  have sD:=h.right.methods c nK
  obtain ⟨Ro,ow,xX⟩:=h.chain (n:=(i:Int)) (by omega) (by omega)
  obtain ⟨r,b5⟩:=XC Ro (by omega)
  have AF:∀ (a:Method),a ∈ c.az-> ∀ (u:aR),u ∈ l->vq F a u F 0 =some (dF (u.az.findSome? (p6 a))):=fun a bN u hu=>each (p6 a) (by have:=h.right.methods u hu;omega) (fun k j b a8=>by
   have Rf:=List.mem_of_getElem? a8
   have amS:=h.right.method c nK a bN
   have aoo:=h.right.method u hu b Rf
   rw [vq,cP (List.getElem?_eq_some_iff.1 a8).1,cond_true,cu a8,Option.bind_some]
   unfold LP
   simp only
   rw [aiO (by omega) (by omega) b4]
   unfold p6 Qd
   show cond _ (Option.bind (cond _ (Option.bind _ fun r=>cond r (some (decide (a.Returns=b.Returns))) _) _) _) _=_
   by_cases ai:a.Name=b.Name
   · rw [decide_eq_true ai]
     simp only [Option.bind_some,cond_true,Bool.true_and]
     cases a.Static <;> cases b.Static <;> cases decide (a.bA=b.bA) <;> cases decide (a.Returns=b.Returns) <;> rfl
   · rw [decide_eq_false ai];rfl) (fun k=>by rw [vq,cO];rfl) (by have:=h.right.methods u hu;omega)
  have pK:∀ (x:Int),0 <=x->x <l.length->yy F ⟨l,m,eK l⟩ c x F 0 =some (dF (uc l c x)):=fun x bH aI=>each (fun a=>(gx l x).findSome? (p6 a)) (by omega) (fun k j a bN=>by
   obtain ⟨u,hu,_⟩:=vK (l:=l) bH aI
   have Ln:u ∈ l:=by obtain ⟨_,_,aV⟩:=uR hu;exact List.mem_of_getElem? aV
   have hm:gx l x=u.az:=by unfold gx;rw [hu];rfl
   rw [yy,cP (List.getElem?_eq_some_iff.1 bN).1,cond_true,cu bN,Option.bind_some]
   show et (α:=Unit) ((idx l x).bind fun gT=>_) _=_
   rw [hu,Option.bind_some,AF a (List.mem_of_getElem? bN) u Ln,oQ,qH,oP,hm]) (fun k=>by rw [yy,cO];rfl) (by omega)
  have g3:yx F ⟨l,m,eK l⟩ c (eX l i).tail F 0 =some (dF ((eX l i).tail.findSome? (uc l c))):=each (uc l c) (by simp;omega) (fun k j x Ub=>by
   have a8:=xX x (List.mem_of_mem_tail (List.mem_of_getElem? Ub))
   rw [yx,cP (List.getElem?_eq_some_iff.1 Ub).1,cond_true,cu Ub,Option.bind_some,pK x a8.1 a8.2,oQ,qH,oP]) (fun k=>by rw [yx,cO];rfl) (by simp;omega)
  rw [yw]
  have Gy:decide ((i:Int) <((⟨l,m,eK l⟩:du).l.length:Int))=true:=cP (n:=l.length) hi
  have axB:=h.V4 b4 m (n:=(i:Int)) (by omega) (by omega)
  rw [Gy,cond_true]
  show et (α:=Unit) ((idx l (i:Int)).bind fun cM=>(vo F ⟨l,m,eK l⟩ (i:Int)).bind fun pP=>_) _=_
  have asw:cut (eX l i) 1 ((eX l i).length:Int)=some (eX l i).tail:=by
   unfold cut
   rw [if_pos (by rw [b5];simp only [List.length_cons];omega)]
   rw [b5];simp
  rw [cu al,Option.bind_some,axB,Option.bind_some,asw,Option.bind_some,g3,oQ,qH,oP,al]
  rfl) (fun k=>by
   rw [yw]
   show cond (decide ((l.length:Int) <(l.length:Int))) _ _=_
   rw [cO];rfl) (F:=F) (by omega)
 unfold HG
 rw [this]
 cases (List.range l.length).findSome? (fun i=>(l[i]?).bind fun c=>CX l c i) <;> rfl
theorem aDv (b4:1100 <F) (h:jy l):wL F l F 0 =some (dF ((List.range l.length).findSome? fun i=>(l[i]?).bind fun c=>CX l c i)):=by
 have hlen:=h.right.len
 exact lM _ (by omega) (fun k i hi=>by
  obtain ⟨c,al⟩:∃ x,l[i]? =some x:=⟨l[i],List.getElem?_eq_getElem hi⟩
  have nK:=List.mem_of_getElem? al
  have sD:=h.right.methods c nK
  obtain ⟨Ro,ow,xX⟩:=h.chain (n:=(i:Int)) (by omega) (by omega)
  obtain ⟨r,b5⟩:=XC Ro (by omega)
  have azH:(eX l i).reverse=(eX l i).tail.reverse++[(i:Int)]:=by rw [b5];simp
  have aDa:wM F l (i:Int) (eX l i).reverse F 0 =some (dF ((eX l i).tail.reverse.findSome? (uc l c))):=each (l:=(eX l i).tail.reverse) (uc l c) (by simp;omega) (fun k u x Ud=>by
   have Ln:=(List.getElem?_eq_some_iff.1 Ud).1
   have a8:=xX x (List.mem_of_mem_tail (by simpa using List.mem_of_getElem? Ud))
   obtain ⟨w,hw,_⟩:=vK (l:=l) a8.1 a8.2
   have acw:w ∈ l:=by obtain ⟨_,_,aV⟩:=uR hw;exact List.mem_of_getElem? aV
   have aIl:=h.right.methods w acw
   have hm:gx l x=w.az:=by unfold gx;rw [hw];rfl
   have acI:(eX l i).reverse[u]? =some x:=by rw [azH,List.getElem?_append_left Ln];exact Ud
   have aDb:wN F l (i:Int) (eX l i).reverse (u:Int) F 0 =some (dF (uc l c x)):=each (l:=c.az) (fun a=>(gx l x).findSome? (p6 a)) (by omega) (fun k j a bN=>by
    have amV:=List.mem_of_getElem? bN
    have aDc:tB F l (i:Int) (eX l i).reverse (u:Int) (j:Int) F 0 =some (dF (w.az.findSome? (p6 a))):=each (l:=w.az) (p6 a) (by omega) (fun k q b a8=>by
     have Rf:=List.mem_of_getElem? a8
     have amS:=h.right.method c nK a amV
     have aoo:=h.right.method w acw b Rf
     rw [tB]
     simp only [cu acI,Option.bind_some,hw,cP (List.getElem?_eq_some_iff.1 a8).1,cond_true,cu al,cu bN,cu a8]
     rw [aeh (by omega) (by omega) b4]
     unfold p6 Qd
     show cond _ (cond _ _ (Option.bind _ fun r=>cond (!r) _ (cond (!decide (a.Returns=b.Returns)) _ _))) _=_
     by_cases ai:a.Name=b.Name
     · rw [decide_eq_true ai]
       simp only [Option.bind_some,cond_true,Bool.true_and]
       cases a.Static <;> cases b.Static <;> cases decide (a.bA=b.bA) <;> cases decide (a.Returns=b.Returns) <;> rfl
     · rw [decide_eq_false ai];rfl) (fun k=>by rw [tB];simp only [cu acI,Option.bind_some,hw,cO];rfl) (by omega)
    rw [wN,cu al,Option.bind_some,cP (List.getElem?_eq_some_iff.1 bN).1,cond_true,aDc,oQ,qH,oP,hm]) (fun k=>by rw [wN,cu al,Option.bind_some,cO];rfl) (by omega)
   have Gx:decide ((u:Int) <av (((eX l i).reverse.length:Int) - 1))=true:=by
    rw [e8 (by omega) (by simp;omega)]
    simp only [List.length_reverse,List.length_tail] at Ln
    exact decide_eq_true (by simp only [List.length_reverse];omega)
   rw [wM,Gx,cond_true,aDb,oQ,qH,oP]) (fun k=>by
    have Gx:decide (((eX l i).tail.reverse.length:Int) <av (((eX l i).reverse.length:Int) - 1))=false:=by
     rw [e8 (by omega) (by simp;omega)]
     exact decide_eq_false (by rw [b5];simp)
    rw [wM,Gx];rfl) (by simp;omega)
  rw [wL,cP hi,cond_true,MQ b4 h.right (by omega),Option.bind_some,aDa,oQ,qH,oP,al,aiZ (aaA c)]
  rfl) (fun k=>by rw [wL,cO];rfl) (by omega)
end
end J
namespace J
def wd (W:List Int) (i:Nat):Int:=(W[i]?).getD 0
def A1 (k:bC) (t:Int):List Field:=(k.Fields[(t - 3).toNat]?).getD []
def jH (k:bC) (t:Int):Bool:=decide (1 <=t) && decide (t<= 2 +k.aO.length)
def isLen (k:bC) (t n:Int):Bool:=decide (0 <=n) && decide (n<= 500) && (decide (t < 3) || decide (n=(A1 k t).length))
def m7 (k:bC) (t:Int) (j:Nat):Bool:=decide (t= 2) || (decide (3 <=t) && ((A1 k t)[j]?.map fun f=>!decide (f.Kind.Kind= 1)).getD false)
structure jA (k:bC):Prop where
 Qb:k.aO.length<= 1000
 ot:k.Fields.length=k.aO.length
theorem m4 {W:List Int} {i:Nat} (h:i <W.length):idx W (i:Int)=some (wd W i):=by
 rw [cu (List.getElem?_eq_getElem h)];unfold wd;rw [List.getElem?_eq_getElem h];rfl
theorem rv {W:List Int} {a:Int} {i:Nat} (e:a=(i:Int)) (h:i <W.length):idx W a=some (wd W i):=by rw [e];exact m4 h
theorem aC5 {k:bC} {t:Int}:jH k t=true ↔ 1 <=t/\t<= 2 +k.aO.length:=by simp [jH]
theorem yn {k:bC} {t n:Int}:isLen k t n=true ↔ (0 <=n/\n<= 500)/\(t < 3 \/n=(A1 k t).length):=by simp [isLen]
section
variable {k:bC}
theorem ael (h:jA k) (t:Int):uD ⟨k⟩ t=some (jH k t):=by
 have hc:=h.Qb
 unfold uD ox jH
 have e:av (av (3 +(k.aO.length:Int)) - 1)= 2 +k.aO.length:=by rw [e8 (n:=3 +(k.aO.length:Int)) (by omega) (by omega),e8 (by omega) (by omega)];omega
 simp only [e,Option.bind_some]
 by_cases aI:t= 1
 · subst aI;simp;omega
 by_cases aV:t= 2
 · subst aV;simp;omega
 rw [show ((decide (t= 1)) || (decide (t= 2)))=false by simp [aI,aV],cond_false,Option.some.injEq,Bool.eq_iff_iff]
 simp;omega
theorem ML (h:jA k) {t:Int} (bV:jH k t=true) (bX: ¬ t < 3):idx k.Fields (av (t - 3))=some (A1 k t):=by
 obtain ⟨aI,aV⟩:=aC5.1 bV
 have hc:=h.Qb;have I:=h.ot
 rw [e8 (by omega) (by omega)]
 unfold idx A1
 rw [if_pos (by omega)]
 have:(t - 3).toNat <k.Fields.length:=by omega
 rw [List.getElem?_eq_getElem this];rfl
theorem aem (h:jA k) {t:Int} (bV:jH k t=true) (n:Int):uE ⟨k⟩ t n=some (isLen k t n):=by
 unfold uE ox isLen
 simp only [Option.bind_some]
 cases a8:(decide (0 <=n) && decide (n<= 500)) with
 | false=>simp
 | true=>
   by_cases bX:t < 3
   · simp [bX]
   · rw [ML h bV bX];simp [bX]
theorem aE6 (h:jA k) {t:Int} (bV:jH k t=true) {n:Int} (ai:isLen k t n=true) {j:Nat} (bf:(j:Int) <n):xY ⟨k⟩ t (j:Int)=some (m7 k t j):=by
 unfold xY m7
 obtain ⟨_,aC⟩:=yn.1 ai
 by_cases aV:t= 2
 · simp [aV]
 by_cases bX:t < 3
 · have: ¬ 3 <=t:=by omega
   simp [aV,this]
 · have aC:=aC.resolve_left bX
   have QD:3 <=t:=by omega
   have GJ:j <(A1 k t).length:=by omega
   rw [ML h bV bX,Option.bind_some,cu (List.getElem?_eq_getElem GJ),List.getElem?_eq_getElem GJ]
   simp [aV,QD]
inductive hN (k:bC) (W:List Int) (to:Nat):Nat->List Int->Prop
 | nil:hN k W to to []
 | cons {q:Nat} {r:List Int}:jH k (wd W q)=true->isLen k (wd W q) (wd W (q+ 1))=true->q+ 3 +(wd W (q+ 1)).toNat<=to->hN k W to (q+ 3 +(wd W (q+ 1)).toNat) r->hN k W to q ((q:Int)::r)
theorem hN.inv {W:List Int} {to q:Nat} {L:List Int} (h:hN k W to q L) (eE:q <to):∃ r,L=(q:Int)::r/\jH k (wd W q)=true/\isLen k (wd W q) (wd W (q+ 1))=true/\q+ 3 +(wd W (q+ 1)).toNat<=to/\hN k W to (q+ 3 +(wd W (q+ 1)).toNat) r:=by
 cases h with
 | nil=>omega
 | cons aI aV bX eP=>exact ⟨_,rfl,aI,aV,bX,eP⟩
theorem aFe (v:cy) (bc:jA v.S.K) {to:Nat} (As:to<=v.H.Words.length) (ks:v.H.Words.length<= 5000):∀ (f q:Nat) (acc:List Int) (m:List (Int × Bool)),q<=to->to - q <f->acc.length+(to - q)<= 5000 ->(∀ p ∈ m,p.1 <(q:Int)) ->
 (∃ L,hN v.S.K v.H.Words to q L/\rm (to:Int) v f acc m (q:Int)=some (.go (acc++L,m++L.map fun a=>(a,true)))) \/
 ((∀ L,¬ hN v.S.K v.H.Words to q L)/\ ∃ jq,rm (to:Int) v f acc m (q:Int)=some (.out ([],false,{ v with dm:=jq }))):=by
 intro f
 induction f with
 | zero=>intro q acc m _ h;omega
 | succ f cA=>
   intro q acc m eE I ux hm
   rw [rm]
   by_cases ey:q <to
   case neg=>
    have:q=to:=by omega
    subst this
    refine .inl ⟨[],.nil,?_⟩
    rw [cO];simp
   rw [cP ey,cond_true,e8 (n:=(q:Int)+ 3) (by omega) (by omega)]
   by_cases bX:(to:Int) <(q:Int)+ 3
   · rw [decide_eq_true bX]
     refine .inr ⟨fun L iD=>?_,m,rfl⟩
     obtain ⟨_,_,_,_,h,_⟩:=iD.inv ey
     omega
   rw [decide_eq_false bX,cond_false,m4 (by omega),Option.bind_some,e8 (n:=(q:Int)+ 1) (by omega) (by omega),rv (i:=q+ 1) (by omega) (by omega),Option.bind_some]
   have bS:uD (⟨(⟨v.S.K.aO,v.S.K.aK,v.S.K.Fields,v.S.K.Names,v.S.K.aL⟩:bC)⟩:dI) (wd v.H.Words q)=some (jH v.S.K (wd v.H.Words q)):=ael bc _
   rw [bS,Option.bind_some]
   cases bV:jH v.S.K (wd v.H.Words q) with
   | false=>
     refine .inr ⟨fun L iD=>?_,m,rfl⟩
     obtain ⟨_,_,h,_⟩:=iD.inv ey
     rw [bV] at h;cases h
   | true=>
     have cf:uE (⟨(⟨v.S.K.aO,v.S.K.aK,v.S.K.Fields,v.S.K.Names,v.S.K.aL⟩:bC)⟩:dI) (wd v.H.Words q) (wd v.H.Words (q+ 1))=some (isLen v.S.K (wd v.H.Words q) (wd v.H.Words (q+ 1))):=aem bc bV _
     rw [cf,Option.bind_some,Bool.not_true,cond_false]
     cases aC:isLen v.S.K (wd v.H.Words q) (wd v.H.Words (q+ 1)) with
     | false=>
       refine .inr ⟨fun L iD=>?_,m,rfl⟩
       obtain ⟨_,_,_,h,_⟩:=iD.inv ey
       rw [aC] at h;cases h
     | true=>
       obtain ⟨⟨CP,l1⟩,_⟩:=yn.1 aC
       rw [Bool.not_true,Bool.false_or,e8 (n:=(q:Int)+ 3 +wd v.H.Words (q+ 1)) (by omega) (by omega)]
       by_cases uI:(to:Int) <(q:Int)+ 3 +wd v.H.Words (q+ 1)
       · rw [decide_eq_true uI]
         refine .inr ⟨fun L iD=>?_,m,rfl⟩
         obtain ⟨_,_,_,_,h,_⟩:=iD.inv ey
         omega
       rw [decide_eq_false uI,cond_false,lh (by simp;omega),Option.bind_some,e8 (n:=3 +wd v.H.Words (q+ 1)) (by omega) (by omega),e8 (n:=(q:Int)+(3 +wd v.H.Words (q+ 1))) (by omega) (by omega)]
       have Ak:dr m (q:Int)=none:=by
        clear cA bS cf
        induction m with
        | nil=>rfl
        | cons p r cA=>
          have b9:=hm p List.mem_cons_self
          rw [dr,if_neg (by omega)]
          exact cA (fun x al=>hm x (List.mem_cons_of_mem _ al))
       rw [V' Ak,show (q:Int)+(3 +wd v.H.Words (q+ 1))=((q+ 3 +(wd v.H.Words (q+ 1)).toNat:Nat):Int) by omega]
       rcases cA (q+ 3 +(wd v.H.Words (q+ 1)).toNat) (acc++[(q:Int)]) (m++[((q:Int),true)]) (by omega) (by omega) (by simp;omega) (fun p b9=>by
        rcases List.mem_append.1 b9 with b9 | b9
        · have:=hm p b9;omega
        · simp at b9;subst b9;simp;omega) with ⟨L,iD,e⟩ | ⟨ai,jq,e⟩
       · refine .inl ⟨(q:Int)::L,.cons bV aC (by omega) iD,?_⟩
         rw [e];simp
       · refine .inr ⟨fun L iD=>?_,jq,e⟩
         obtain ⟨r,_,_,_,_,h⟩:=iD.inv ey
         exact ai r h
theorem aet {F:Nat} (b4:6000 <F) (v:cy) (bc:jA v.S.K) {q to:Nat} (eE:q<=to) (As:to<=v.H.Words.length) (ks:v.H.Words.length<= 5000) (hm:∀ p ∈ v.dm,p.1 <(q:Int)) :
 (∃ L,hN v.S.K v.H.Words to q L/\nL F v (q:Int) (to:Int)=some (L,true,{ v with dm:=v.dm++L.map fun a=>(a,true) })) \/
 ((∀ L,¬ hN v.S.K v.H.Words to q L)/\ ∃ jq,nL F v (q:Int) (to:Int)=some ([],false,{ v with dm:=jq })):=by
 unfold nL
 rcases aFe v bc As ks F q [] v.dm eE (by omega) (by simp;omega) hm with ⟨L,iD,e⟩ | ⟨ai,jq,e⟩
 · exact .inl ⟨L,iD,by rw [e,qG];simp⟩
 · exact .inr ⟨ai,jq,by rw [e,aej]⟩
end
end J
namespace J
def refs (k:bC) (W:List Int) (q:Nat):List Int:=(List.range (wd W (q+ 1)).toNat).flatMap fun j=>if m7 k (wd W q) j then [((q+ 3 +j:Nat):Int)] else []
theorem V8 {k:bC} {W:List Int} {q:Nat} {x:Int}:x ∈ refs k W q ↔ ∃ j,j <(wd W (q+ 1)).toNat/\m7 k (wd W q) j=true/\x=((q+ 3 +j:Nat):Int):=by
 unfold refs
 rw [List.mem_flatMap]
 constructor
 · rintro ⟨j,bf,al⟩
   split at al
   · rename_i h;exact ⟨j,by simpa using bf,h,by simpa using al⟩
   · cases al
 · rintro ⟨j,bf,h,e⟩
   exact ⟨j,by simpa using bf,by rw [if_pos h,e];simp⟩
section
variable {F:Nat} {k:bC}
theorem aEG (b4:6000 <F) (v:cy) (bc:jA v.S.K) {q:Nat} (eE:q+ 3 +(wd v.H.Words (q+ 1)).toNat<=v.H.Words.length) (ks:v.H.Words.length<= 5000) (bV:jH v.S.K (wd v.H.Words q)=true) (aC:isLen v.S.K (wd v.H.Words q) (wd v.H.Words (q+ 1))=true) :
 p' F v (q:Int)=some (refs v.S.K v.H.Words q):=by
 obtain ⟨⟨CP,l1⟩,_⟩:=yn.1 aC
 unfold p'
 rw [e8 (n:=(q:Int)+ 1) (by omega) (by omega),rv (i:=q+ 1) (by omega) (by omega),Option.bind_some]
 generalize ai:(wd v.H.Words (q+ 1)).toNat=n at eE
 have Fq:wd v.H.Words (q+ 1)=(n:Int):=by omega
 have qd:=aC
 rw [Fq] at qd ⊢
 have l1:=tK (l:=List.range n) (fun k acc i=>sH (q:Int) v (n:Int) k acc (i:Int)) (fun j=>if m7 v.S.K (wd v.H.Words q) j then [((q+ 3 +j:Nat):Int)] else []) 1 5000 (fun x _=>by split <;> simp) (fun f i x acc al bN=>by
  have hi:i <n:=by have:=(List.getElem?_eq_some_iff.1 al).1;simpa using this
  rw [List.getElem?_range hi] at al
  simp only [Option.some.injEq] at al
  subst al
  rw [sH,cP hi,cond_true,m4 (by omega),Option.bind_some]
  have bS:xY (⟨(⟨v.S.K.aO,v.S.K.aK,v.S.K.Fields,v.S.K.Names,v.S.K.aL⟩:bC)⟩:dI) (wd v.H.Words q) (i:Int)=some (m7 v.S.K (wd v.H.Words q) i):=aE6 bc bV qd (by omega)
  rw [bS,Option.bind_some]
  show _=sH (q:Int) v (n:Int) f _ _
  cases m7 v.S.K (wd v.H.Words q) i with
  | true=>
    rw [cond_true,e8 (n:=(q:Int)+ 3) (by omega) (by omega),e8 (n:=(q:Int)+ 3 +i) (by omega) (by omega),lh (by simp;omega),Option.bind_some,Option.bind_some,hV hi (by omega),if_pos rfl]
    congr 2
  | false=>
    rw [cond_false,Option.bind_some,hV hi (by omega),if_neg (by decide),List.append_nil]) (fun f acc=>by
  rw [List.length_range,sH,cO];rfl) (F:=F) (by simp;omega) (acc:=[]) (by simp;omega)
 have l1:sH (q:Int) v (n:Int) F [] 0 =_:=l1
 rw [l1,Option.bind_some,List.nil_append,refs,ai]
theorem aaC (b4:10000 <F) {hG:List (List Int)} (aI:hG.length<= 10) (aV:hG.flatten.length<= 10000):Dj F hG=some hG.flatten:=by
 unfold Dj
 have aC_:∀ (d i f:Nat) (n:Int),i+d=hG.length->d <f-> 0 <=n->n+(hG.drop i).flatten.length<= 10000 ->vH hG f n (i:Int)=some (n+(hG.drop i).flatten.length):=by
  intro d
  induction d with
  | zero=>
    intro i f n h I ai _
    obtain ⟨f,rfl⟩:∃ fm,f=fm+ 1 :=⟨f - 1,by omega⟩
    have:i=hG.length:=by omega
    subst this
    rw [vH,cO];simp
  | succ d cA=>
    intro i f n h I ai a8
    obtain ⟨f,rfl⟩:∃ fm,f=fm+ 1 :=⟨f - 1,by omega⟩
    have hi:i <hG.length:=by omega
    rw [List.drop_eq_getElem_cons hi] at a8
    simp only [List.flatten_cons,List.length_append] at a8
    rw [vH,cP hi,cond_true,cu (List.getElem?_eq_getElem hi),Option.bind_some,e8 (n:=n+((hG[i]).length:Int)) (by omega) (by omega),show decide (n+((hG[i]).length:Int) < 0)=false from decide_eq_false (by omega),cond_false,Option.bind_some,hV hi (by omega),cA (i+ 1) f _ (by omega) (by omega) (by omega) (by omega),List.drop_eq_getElem_cons hi]
    simp only [List.flatten_cons,List.length_append]
    congr 1;omega
 have kv:=aC_ hG.length 0 F 0 (by omega) (by omega) (by omega) (by simp at aV ⊢;omega)
 have kv:vH hG F 0 0 =some (0 +((hG.drop 0).flatten.length:Int)):=kv
 rw [kv,Option.bind_some,List.drop_zero,Int.zero_add]
 have nP:Ik (hG.flatten.length:Int)=some []:=by
  unfold Ik
  rw [show decide ((hG.flatten.length:Int) < 0)=false from decide_eq_false (by omega),cond_false,Option.bind_some,e8 (n:=(hG.flatten.length:Int) - 0) (by omega) (by omega),Int.sub_zero]
  by_cases bH:(0 :Int) <(hG.flatten.length:Int)
  · rw [decide_eq_true bH,cond_true]
    unfold EB
    rw [if_pos ⟨bH,by omega⟩];rfl
  · rw [decide_eq_false bH];rfl
 rw [nP,Option.bind_some]
 have aC':∀ (d i f:Nat) (acc:List Int),i+d=hG.length->d <f->acc.length+(hG.drop i).flatten.length<= 10000 ->vI hG f acc (i:Int)=some (acc++(hG.drop i).flatten):=by
  intro d
  induction d with
  | zero=>
    intro i f n h I ai
    obtain ⟨f,rfl⟩:∃ fm,f=fm+ 1 :=⟨f - 1,by omega⟩
    have:i=hG.length:=by omega
    subst this
    rw [vI,cO];simp
  | succ d cA=>
    intro i f acc h I a8
    obtain ⟨f,rfl⟩:∃ fm,f=fm+ 1 :=⟨f - 1,by omega⟩
    have hi:i <hG.length:=by omega
    rw [List.drop_eq_getElem_cons hi] at a8
    simp only [List.flatten_cons,List.length_append] at a8
    rw [vI,cP hi,cond_true,cu (List.getElem?_eq_getElem hi),Option.bind_some,lh (by omega),Option.bind_some,hV hi (by omega),cA (i+ 1) f _ (by omega) (by omega) (by simp only [List.length_append];omega),List.drop_eq_getElem_cons hi,List.flatten_cons,List.append_assoc]
 have nP:=aC' hG.length 0 F [] (by omega) (by omega) (by simp at aV ⊢;omega)
 have nP:vI hG F [] 0 =some ([]++(hG.drop 0).flatten):=nP
 rw [nP];simp
theorem all_eq (b4:10000 <F) (v:cy) (h:v.aA.length+v.aP.length<= 10000):xZ F v=some (v.aA++v.aP):=by
 unfold xZ
 rw [aaC b4 (by simp) (by simp;omega)]
 simp
def bc (W:List Int) (a:Int):Int:=wd W (a.toNat+ 2)
def yH (l:List Int) (m:List (Int × Bool)):List (Int × Bool):=l.foldl (fun m x=>iM m x true) m
theorem adX:∀ (l:List Int) (m:List (Int × Bool)),(yH l m).length<=m.length+l.length/\((yH l m).length=m.length+l.length ↔ l.Nodup/\ ∀ x ∈ l,(dr m x).isSome=false)
 | [],m=>by simp [yH]
 | x::r,m=>by
   have cA:=adX r (iM m x true)
   have e:yH (x::r) m=yH r (iM m x true):=rfl
   rw [e]
   have aC:=LW (k:=x) (v:=true) m
   rw [List.length_cons]
   cases al:(dr m x).isSome with
   | true=>
     rw [al,if_pos rfl] at aC
     rw [aC] at cA
     refine ⟨by omega,⟨fun h=>by omega,fun h=>?_⟩⟩
     have:=h.2 x List.mem_cons_self
     rw [al] at this;cases this
   | false=>
     rw [al,if_neg (by decide)] at aC
     rw [aC] at cA
     refine ⟨by omega,?_⟩
     rw [show m.length+(r.length+ 1)=m.length+ 1 +r.length by omega,cA.2,List.nodup_cons]
     constructor
     · rintro ⟨aI,aV⟩
       refine ⟨⟨fun hm=>?_,aI⟩,fun y hy=>?_⟩
       · have:=aV x hm
         have bX:=(HO (k:=x) (s:=x) (v:=true) m).2 (.inl rfl)
         rw [this] at bX;cases bX
       · rcases List.mem_cons.1 hy with rfl | hy
         · exact al
         · cases c8:(dr m y).isSome with
           | false=>rfl
           | true=>
             have bX:=(HO (k:=x) (s:=y) (v:=true) m).2 (.inr c8)
             rw [aV y hy] at bX;cases bX
     · rintro ⟨⟨aI,aV⟩,bX⟩
       refine ⟨aV,fun y hy=>?_⟩
       cases c8:(dr (iM m x true) y).isSome with
       | false=>rfl
       | true=>
         rcases (HO (k:=x) (s:=y) (v:=true) m).1 c8 with e | e
         · subst e;exact absurd hy aI
         · rw [bX y (List.mem_cons_of_mem _ hy)] at e;cases e
def m1 (v:cy) (a:Int):Bool:=decide (bc v.H.Words a < 1) || decide (v.H.Next<=bc v.H.Words a)
theorem amY (v:cy) (r:List Int) (b5:r.length<= 10000) (a8:∀ a ∈ r,0 <=a/\a.toNat+ 3 <=v.H.Words.length) (ks:v.H.Words.length<= 5000):∀ (d i f:Nat) (m:List (Int × Bool)),i+d=r.length->d <f ->
 uF v r f m (i:Int)=if (r.drop i).any (m1 v) then some (.out 3) else some (.go (yH ((r.drop i).map (bc v.H.Words)) m)):=by
 intro d
 induction d with
 | zero=>
   intro i f m h I
   obtain ⟨f,rfl⟩:∃ fm,f=fm+ 1 :=⟨f - 1,by omega⟩
   have:i=r.length:=by omega
   subst this
   rw [uF,cO];simp [yH]
 | succ d cA=>
   intro i f m h I
   obtain ⟨f,rfl⟩:∃ fm,f=fm+ 1 :=⟨f - 1,by omega⟩
   have hi:i <r.length:=by omega
   obtain ⟨bH,aI⟩:=a8 r[i] (List.getElem_mem hi)
   rw [uF,cP hi,cond_true,cu (List.getElem?_eq_getElem hi),Option.bind_some,e8 (n:=r[i]+ 2) (by omega) (by omega),rv (i:=(r[i]).toNat+ 2) (by omega) (by omega),Option.bind_some,List.drop_eq_getElem_cons hi,List.any_cons]
   show cond (m1 v r[i]) _ _=_
   cases m1 v r[i] with
   | true=>rfl
   | false=>
     rw [cond_false,hV hi (by omega),cA (i+ 1) f _ (by omega) (by omega),Bool.false_or]
     rfl
theorem amX (b4:10000 <F) (v:cy) (h:v.aA.length+v.aP.length<= 5000) (a8:∀ a ∈ v.aA++v.aP,0 <=a/\a.toNat+ 3 <=v.H.Words.length) (ks:v.H.Words.length<= 5000) (ab6:v.dm.length=(v.aA++v.aP).length) :
 Cu F v=some (if (v.aA++v.aP).any (m1 v) then 3 else if ((v.aA++v.aP).map (bc v.H.Words)).Nodup then 0 else 6):=by
 unfold Cu
 have e:xZ F (⟨(⟨v.H.Words,v.H.aA,v.H.aP,v.H.aZ,v.H.aY,v.H.ay,v.H.Next⟩:bO),(⟨(⟨v.S.K.aO,v.S.K.aK,v.S.K.Fields,v.S.K.Names,v.S.K.aL⟩:bC)⟩:dI),v.aA,v.aP,v.dm⟩:cy)=some (v.aA++v.aP):=all_eq b4 v (by omega)
 rw [e,Option.bind_some]
 have l1:=amY v (v.aA++v.aP) (by simp;omega) a8 ks (v.aA++v.aP).length 0 F [] (by omega) (by simp;omega)
 have l1:uF v (v.aA++v.aP) F [] 0 =_:=l1
 rw [l1,List.drop_zero]
 cases (v.aA++v.aP).any (m1 v) with
 | true=>rfl
 | false=>
   rw [if_neg (by decide),if_neg (by decide),qG]
   obtain ⟨il,n0⟩:=adX ((v.aA++v.aP).map (bc v.H.Words)) []
   rw [List.length_map,List.length_nil,Nat.zero_add] at il n0
   by_cases ai:((v.aA++v.aP).map (bc v.H.Words)).Nodup
   · rw [if_pos ai]
     have:=n0.2 ⟨ai,fun _ _=>rfl⟩
     rw [decide_eq_false (by rw [this,ab6];omega)];rfl
   · rw [if_neg ai]
     have:(yH ((v.aA++v.aP).map (bc v.H.Words)) []).length≠(v.aA++v.aP).length:=fun e=>ai (n0.1 e).1
     rw [decide_eq_true (by rw [ab6];omega)];rfl
end
end J
namespace J
def zn (l:List Int):Prop:=∀ a b,a <b->b <l.length->wd l a <wd l b
theorem Xv {l:List Int} (h:∀ i,i+ 1 <l.length->wd l i <wd l (i+ 1)):zn l:=by
 intro a b KX
 induction b with
 | zero=>omega
 | succ b cA=>
   intro a8
   by_cases e:a=b
   · subst e;exact h a a8
   · exact Int.lt_trans (cA (by omega) (by omega)) (h b a8)
theorem aeG {l:List Int} {i:Nat} (h:i <l.length):wd l i ∈ l:=by unfold wd;rw [List.getElem?_eq_getElem h];exact List.getElem_mem h
theorem rZ {l:List Int} {i:Nat} {x:Int} (h:l[i]? =some x):wd l i=x:=by unfold wd;rw [h];rfl
theorem V9 {l:List Int} {x:Int} (h:x ∈ l):∃ i,i <l.length/\wd l i=x:=by
 obtain ⟨i,hi,e⟩:=List.getElem_of_mem h
 exact ⟨i,hi,rZ (by rw [List.getElem?_eq_getElem hi,e])⟩
theorem adW {α:Type} {p:α->Bool}:∀ {l:List α},(fR p l).isSome=l.any p
 | []=>rfl
 | x::r=>by
   rw [fR,List.any_cons]
   cases h:p x with
   | true=>rfl
   | false=>simp only [Bool.false_eq_true,if_false,Bool.false_or];rw [<-adW (l:=r)];cases fR p r <;> rfl
theorem aa_ {α:Type} {l:List α} {L:Nat->Int->Option (Way Int Unit)} (p:α->Bool) (aC:l.length<= 140737488355328)
 (bc:∀ k (i:Nat) x,l[i]? =some x->L (k+ 1) (i:Int)=cond (p x) (some (.out (i:Int))) (L k (av ((i:Int)+ 1))))
 (he:∀ k,L (k+ 1) (l.length:Int)=some (.go ())) {F:Nat} (b4:l.length <F):((dD (α:=Unit) (L F 0) fun (_:Unit)=>some (-1)).bind fun r=>some (decide ((0 :Int)<=r)))=some (l.any p):=by
 rw [Qp p (fun n:Nat=>(n:Int)) aC bc he b4,<-adW]
 cases fR p l with
 | none=>rfl
 | some i=>
   show some (decide ((0 :Int)<=(i:Int)))=_
   rw [decide_eq_true (by omega)];rfl
section
variable {F:Nat}
theorem aE4 {l:List Int} (aC:l.length<= 10000) (t:Int):∀ (f i j:Nat),i<=j->j<=l.length->j - i <f->(∀ a,a <i->wd l a <t)->(∀ a,j<=a->a <l.length->t<=wd l a)->zn l ->
 ∃ p:Nat,s8 t l f (i:Int) (j:Int)=some (p:Int)/\p<=l.length/\(∀ a,a <p->wd l a <t)/\(∀ a,p<=a->a <l.length->t<=wd l a):=by
 intro f
 induction f with
 | zero=>intro i j _ _ h;omega
 | succ f cA=>
   intro i j K4 bf I aI aV bc
   rw [s8]
   by_cases h:i <j
   case neg=>
    have:i=j:=by omega
    subst this
    rw [cO]
    exact ⟨i,rfl,bf,aI,aV⟩
   have em:av (nr (ns (av ((i:Int)+(j:Int)))) 1)=(((i+j) / 2 :Nat):Int):=by
    rw [e8 (n:=(i:Int)+j) (by omega) (by omega)]
    unfold ns nr
    rw [e8 (by omega) (by omega)]
    omega
   have hm:(i+j) / 2 <j:=by omega
   have hv:i<=(i+j) / 2 :=by omega
   rw [cP h,cond_true,em,m4 (by omega),Option.bind_some]
   unfold KE Fp
   rw [Option.bind_some,show (!decide (wd l ((i+j) / 2)=wd l ((i+j) / 2)))=false by simp,cond_false,Option.bind_some]
   by_cases hc:wd l ((i+j) / 2) <t
   · rw [decide_eq_true hc,cond_true,Option.bind_some]
     show ∃ p:Nat,s8 t l f (av ((((i+j) / 2 :Nat):Int)+ 1)) (j:Int)=_/\_
     rw [e8 (n:=(((i+j) / 2 :Nat):Int)+ 1) (by omega) (by omega),show (((i+j) / 2 :Nat):Int)+ 1 =(((i+j) / 2 + 1 :Nat):Int) by omega]
     refine cA ((i+j) / 2 + 1) j (by omega) bf (by omega) (fun a bN=>?_) aV bc
     by_cases e:a=(i+j) / 2
     · subst e;exact hc
     · exact Int.lt_trans (bc a ((i+j) / 2) (by omega) (by omega)) hc
   · rw [decide_eq_false hc,cond_false,Option.bind_some]
     show ∃ p:Nat,s8 t l f (i:Int) (((i+j) / 2 :Nat):Int)=_/\_
     refine cA i ((i+j) / 2) (by omega) (by omega) (by omega) aI (fun a bN a8=>?_) bc
     by_cases e:a=(i+j) / 2
     · subst e;omega
     · have:=bc ((i+j) / 2) a (by omega) a8
       omega
theorem aE3 (b4:10000 <F) {l:List Int} (aC:l.length<= 10000) (bc:zn l) (t:Int) :
 ∃ p:Nat,Di F l t=some ((p:Int),decide (t ∈ l))/\p<=l.length/\(∀ a,a <p->wd l a <t)/\(∀ a,p<=a->a <l.length->t<=wd l a):=by
 obtain ⟨p,e,b9,aI,aV⟩:=aE4 aC t F 0 l.length (by omega) (Nat.le_refl _) (by omega) (fun a bN=>by omega) (fun a bN a8=>by omega) bc
 refine ⟨p,?_,b9,aI,aV⟩
 unfold Di
 have e:s8 t l F 0 (l.length:Int)=some (p:Int):=e
 rw [e,Option.bind_some]
 by_cases ey:p <l.length
 · rw [cP ey,cond_true,m4 ey,Option.bind_some]
   by_cases bV:wd l p=t
   · rw [decide_eq_true bV,cond_true,decide_eq_true (bV ▸ aeG ey)]
   · have ai: ¬ t ∈ l:=fun hm=>by
      obtain ⟨a,bN,aaV⟩:=V9 hm
      by_cases QX:a <p
      · have:=aI a QX;omega
      · have bX:=aV p (Nat.le_refl _) ey
        by_cases e:a=p
        · subst e;exact bV aaV
        · have:=bc p a (by omega) bN;omega
     rw [decide_eq_false bV,cond_false,Option.bind_some,decide_eq_false ai]
     unfold Im
     rw [Option.bind_some,show (!decide (wd l p=wd l p))=false by simp,cond_false]
 · have:p=l.length:=by omega
   subst this
   have ai: ¬ t ∈ l:=fun hm=>by
    obtain ⟨a,bN,aaV⟩:=V9 hm
    have:=aI a bN;omega
   rw [cO,cond_false,decide_eq_false ai]
structure q2 (v:cy) (a:Int):Prop where
 pos:0 <=a
 fit:a.toNat+ 3 +(wd v.H.Words (a.toNat+ 1)).toNat<=v.H.Words.length
 tag:jH v.S.K (wd v.H.Words a.toNat)=true
 len:isLen v.S.K (wd v.H.Words a.toNat) (wd v.H.Words (a.toNat+ 1))=true
structure o9 (v:cy):Prop where
 Xs:jA v.S.K
 n6:v.H.Words.length<= 4900
 ud:v.aA.length+v.aP.length<= 5000
 rV:∀ a ∈ v.aA++v.aP,q2 v a
 dm:∀ x,(dr v.dm x).getD false=decide (x ∈ v.aA++v.aP)
theorem q2.Xn {v:cy} {a:Int} (ah:o9 v) (h:q2 v a) (b4:6000 <F):p' F v a=some (refs v.S.K v.H.Words a.toNat):=by
 have:=aEG b4 v ah.Xs h.fit (by have:=ah.n6;omega) h.tag h.len
 rwa [show ((a.toNat:Nat):Int)=a by have:=h.pos;omega] at this
theorem q2.Mr {v:cy} {a w:Int} (h:q2 v a) (hw:w ∈ refs v.S.K v.H.Words a.toNat):idx v.H.Words w=some (wd v.H.Words w.toNat):=by
 obtain ⟨j,bf,_,e⟩:=V8.1 hw
 have:=h.fit
 subst e
 exact m4 (by omega)
theorem Ms {v:cy} {a:Int} (ah:o9 v) (h:q2 v a):(refs v.S.K v.H.Words a.toNat).length<= 5000 :=by
 have:(refs v.S.K v.H.Words a.toNat).length<= 1 *(List.range (wd v.H.Words (a.toNat+ 1)).toNat).length:=xN fun x _=>by split <;> simp
 have aI:=h.fit;have aV:=ah.n6
 rw [List.length_range] at this
 omega
def ta (v:cy) (w:Int):Bool:=!decide (wd v.H.Words w.toNat= 0) && !decide (wd v.H.Words w.toNat ∈ v.aA++v.aP)
def oM (v:cy) (a:Int):Bool:=(refs v.S.K v.H.Words a.toNat).any (ta v)
def free (h:bO):List Int:=h.Words.take 1 ++((h.Words.take (h.aA+ 1).toNat).drop h.aZ.toNat++h.Words.drop h.aY.toNat)
theorem ou {α:Type} {p:α->Bool} {e:Int}:∀ l:List α,l.findSome? (fun x=>if p x then some e else none)=if l.any p then some e else none
 | []=>rfl
 | x::r=>by
   rw [List.findSome?_cons,List.any_cons]
   cases p x with
   | true=>rfl
   | false=>simp only [Bool.false_eq_true,if_false,Bool.false_or];exact ou r
theorem aFC (b4:10000 <F) {v:cy} (ah:o9 v) (bH:0 <=v.H.aA) (aI:0 <=v.H.aZ/\v.H.aZ<=v.H.aA+ 1 /\v.H.aA+ 1 <=v.H.Words.length) (aV:0 <=v.H.aY/\v.H.aY<=v.H.Words.length) :
 Cw F v=some (if (v.aA++v.aP).any (oM v) then 5 else if (free v.H).any (fun x=>!decide (x= 0)) then 1 else 0):=by
 have hc:=ah.ud;have hw:=ah.n6
 unfold Cw
 have e:xZ F (⟨(⟨v.H.Words,v.H.aA,v.H.aP,v.H.aZ,v.H.aY,v.H.ay,v.H.Next⟩:bO),(⟨(⟨v.S.K.aO,v.S.K.aK,v.S.K.Fields,v.S.K.Names,v.S.K.aL⟩:bC)⟩:dI),v.aA,v.aP,v.dm⟩:cy)=some (v.aA++v.aP):=all_eq b4 v (by omega)
 rw [e,Option.bind_some]
 have l1:x0 F v (v.aA++v.aP) F 0 =some (dF ((v.aA++v.aP).findSome? fun a=>if oM v a then some 5 else none)):=each _ (by simp;omega) (fun f i a bN=>by
  have hm:=List.mem_of_getElem? bN
  have bV:=ah.rV a hm
  rw [x0,cP (List.getElem?_eq_some_iff.1 bN).1,cond_true,cu bN,Option.bind_some]
  have cf:p' F (⟨(⟨v.H.Words,v.H.aA,v.H.aP,v.H.aZ,v.H.aY,v.H.ay,v.H.Next⟩:bO),(⟨(⟨v.S.K.aO,v.S.K.aK,v.S.K.Fields,v.S.K.Names,v.S.K.aL⟩:bC)⟩:dI),v.aA,v.aP,v.dm⟩:cy) a=some (refs v.S.K v.H.Words a.toNat):=bV.Xn ah (by omega)
  have T0:=Ms ah bV
  rw [cf,Option.bind_some]
  have g3:uH v (refs v.S.K v.H.Words a.toNat) F 0 =some (dF ((refs v.S.K v.H.Words a.toNat).findSome? fun w=>if ta v w then some 5 else none)):=each _ (by omega) (fun fm Av w ig=>by
   have hv:=List.mem_of_getElem? ig
   rw [uH,cP (List.getElem?_eq_some_iff.1 ig).1,cond_true,cu ig,Option.bind_some,bV.Mr hv,Option.bind_some,ah.dm]
   unfold ta
   cases decide (wd v.H.Words w.toNat= 0) <;> cases decide (wd v.H.Words w.toNat ∈ v.aA++v.aP) <;> rfl) (fun fm=>by rw [uH,cO];rfl) (by omega)
  rw [g3,ou]
  show _=iR (if (refs v.S.K v.H.Words a.toNat).any (ta v) then some 5 else none) _
  cases (refs v.S.K v.H.Words a.toNat).any (ta v) <;> rfl) (fun f=>by rw [x0,cO];rfl) (by simp;omega)
 rw [l1,ou]
 cases (v.aA++v.aP).any (oM v) with
 | true=>rfl
 | false=>
   simp only [Bool.false_eq_true,if_false,dF,qG]
   have eD:cut v.H.Words 0 1 =some (v.H.Words.take 1):=by
    unfold cut;rw [if_pos ⟨by omega,by omega,by omega⟩];rfl
   have eH:cut v.H.Words v.H.aZ (av (v.H.aA+ 1))=some ((v.H.Words.take (v.H.aA+ 1).toNat).drop v.H.aZ.toNat):=by
    rw [e8 (by omega) (by omega)]
    unfold cut;rw [if_pos ⟨by omega,by omega,by omega⟩]
   have gK:cut v.H.Words v.H.aY (v.H.Words.length:Int)=some (v.H.Words.drop v.H.aY.toNat):=by
    unfold cut;rw [if_pos ⟨by omega,by omega,by omega⟩,Int.toNat_natCast,List.take_length]
   have abY:(free v.H).length<= 10000 :=by unfold free;simp;omega
   rw [eD,eH,gK,Option.bind_some,Option.bind_some,Option.bind_some,aaC b4 (by simp) (by simp;omega),Option.bind_some]
   have aiB:[v.H.Words.take 1,(v.H.Words.take (v.H.aA+ 1).toNat).drop v.H.aZ.toNat,v.H.Words.drop v.H.aY.toNat].flatten=free v.H:=by simp [free]
   rw [aiB]
   unfold ME MG
   rw [aa_ (l:=free v.H) (L:=yV (free v.H)) (fun x=>!decide (x= 0)) (by omega) (fun f i x al=>by
    rw [yV,cP (List.getElem?_eq_some_iff.1 al).1,cond_true,cu al,Option.bind_some]
    rfl) (fun f=>by rw [yV,cO];rfl) (by omega),Option.bind_some]
   cases (free v.H).any (fun x=>!decide (x= 0)) <;> rfl
def lz (v:cy) (x:Int):Bool:=decide (0 <x) && decide (x<=v.H.aA)
def rK (v:cy) (x:Int):Bool:=!decide (x ∈ v.aA++v.aP) || lz v x || (refs v.S.K v.H.Words x.toNat).isEmpty
def kA (v:cy) (i:Nat):Bool:=(decide (0 <i) && decide (wd v.H.ay i<=wd v.H.ay (i - 1))) || rK v (wd v.H.ay i)
def pW (v:cy) (x:Int):Bool:=!decide (x ∈ v.H.ay) && (refs v.S.K v.H.Words x.toNat).any fun w=>lz v (wd v.H.Words w.toNat)
theorem aDH (b4:10000 <F) {v:cy} (ah:o9 v) (x:Int) (Y:Option (Way Int Unit)):(cond (!((dr v.dm x).getD false)) (some (.out 4)) ((Ct v x).bind fun C9=>
 cond (C9) (some (.out 4)) ((p' F v x).bind fun H4=>
 cond (decide ((H4.length:Int)= 0)) (some (.out 4)) Y)))=iR (if rK v x then some 4 else none) Y:=by
 rw [ah.dm]
 unfold rK
 by_cases hm:x ∈ v.aA++v.aP
 · rw [decide_eq_true hm,(ah.rV x hm).Xn ah (by omega)]
   show cond (lz v x) _ ((some _).bind _)=_
   cases lz v x with
   | true=>rfl
   | false=>
     rw [cond_false,Option.bind_some]
     cases refs v.S.K v.H.Words x.toNat with
     | nil=>rfl
     | cons a r=>rw [decide_eq_false (by simp;omega)];rfl
 · rw [decide_eq_false hm];rfl
theorem aDG (b4:10000 <F) {v:cy} (ah:o9 v) (ai:v.H.ay.length<= 140737488355328) (Aj:v.H.ay.length <F) (azL:(∀ i,i <v.H.ay.length->kA v i=false)->v.H.ay.length<= 10000) :
 Cv F v=some (if (List.range v.H.ay.length).any (kA v) || v.aP.any (pW v) then 4 else 0):=by
 have hc:=ah.ud;have hw:=ah.n6
 unfold Cv
 have l1:sI F v F 0 =some (dF ((List.range v.H.ay.length).findSome? fun i=>if kA v i then some 4 else none)):=lM _ ai (fun f i hi=>by
  have b5:=aDH b4 ah (wd v.H.ay i) (sI F v f (av ((i:Int)+ 1)))
  rw [sI,cP hi,cond_true,m4 hi,Option.bind_some]
  unfold kA
  by_cases bH:0 <i
  · rw [show decide ((0 :Int) <(i:Int))=true from decide_eq_true (by omega),cond_true,e8 (n:=(i:Int) - 1) (by omega) (by omega),rv (i:=i - 1) (by omega) (by omega),Option.bind_some,decide_eq_true bH,Bool.true_and]
    cases decide (wd v.H.ay i<=wd v.H.ay (i - 1)) with
    | true=>rfl
    | false=>exact b5
  · rw [show decide ((0 :Int) <(i:Int))=false from decide_eq_false (by omega),cond_false,decide_eq_false bH,Bool.false_and,Bool.false_or]
    exact b5) (fun f=>by rw [sI,cO];rfl) Aj
 rw [l1,ou]
 cases a8:(List.range v.H.ay.length).any (kA v) with
 | true=>rfl
 | false=>
   have ps:∀ i,i <v.H.ay.length->kA v i=false:=fun i hi=>by
    rw [List.any_eq_false] at a8
    simpa using a8 i (by simpa using hi)
   have hlen:=azL ps
   have azN:zn v.H.ay:=Xv fun i hi=>by
    have:=ps (i+ 1) hi
    unfold kA at this
    simp only [Bool.or_eq_false_iff,Bool.and_eq_false_iff,decide_eq_false_iff_not,Nat.add_sub_cancel] at this
    rcases this.1 with h | h <;> omega
   simp only [Bool.false_eq_true,if_false,dF,qG,Bool.false_or]
   have g3:uG F v F 0 =some (dF (v.aP.findSome? fun x=>if pW v x then some 4 else none)):=each _ (by omega) (fun f i x al=>by
    have hm:x ∈ v.aA++v.aP:=List.mem_append_right _ (List.mem_of_getElem? al)
    have bV:=ah.rV x hm
    obtain ⟨p,b9,_⟩:=aE3 b4 hlen azN x
    rw [uG,cP (List.getElem?_eq_some_iff.1 al).1,cond_true,cu al,Option.bind_some,b9,Option.bind_some]
    unfold pW
    by_cases qa:x ∈ v.H.ay
    · rw [decide_eq_true qa];rfl
    · rw [decide_eq_false qa]
      have cf:p' F (⟨(⟨v.H.Words,v.H.aA,v.H.aP,v.H.aZ,v.H.aY,v.H.ay,v.H.Next⟩:bO),(⟨(⟨v.S.K.aO,v.S.K.aK,v.S.K.Fields,v.S.K.Names,v.S.K.aL⟩:bC)⟩:dI),v.aA,v.aP,v.dm⟩:cy) x=some (refs v.S.K v.H.Words x.toNat):=bV.Xn ah (by omega)
      have T0:=Ms ah bV
      simp only [Bool.not_false,cond_true,Bool.true_and]
      rw [cf,Option.bind_some]
      unfold MD MF
      rw [aa_ (l:=refs v.S.K v.H.Words x.toNat) (L:=yU (refs v.S.K v.H.Words x.toNat) v) (fun w=>lz v (wd v.H.Words w.toNat)) (by omega) (fun fm Av w ig=>by
       rw [yU,cP (List.getElem?_eq_some_iff.1 ig).1,cond_true,cu ig,Option.bind_some]
       unfold K0
       rw [bV.Mr (List.mem_of_getElem? ig)]
       rfl) (fun fm=>by rw [yU,cO];rfl) (by omega),Option.bind_some]
      cases (refs v.S.K v.H.Words x.toNat).any (fun w=>lz v (wd v.H.Words w.toNat)) <;> rfl) (fun f=>by rw [uG,cO];rfl) (by omega)
   rw [g3,ou]
   cases v.aP.any (pW v) <;> rfl
end
end J
namespace J
def L0:bC:=⟨[],[],[],[],[]⟩
def rows {β:Type} (f:Int->β) (i:Nat):List β:=(List.range i).map fun j:Nat=>f (j:Int)
theorem Dd {β:Type} (f:Int->β) (i:Nat):rows f (i+ 1)=rows f i++[f (i:Int)]:=by simp [rows,List.range_succ]
def linked (l:List aR):bC:=⟨l,eK l,rows (ha l) l.length,rows (fun i=>(tab l i).1) l.length,rows (fun i=>(tab l i).2) l.length⟩
def BS (l:List aR) (i:Nat):Option (bC × Int):=if 12 <(ha l i).length\/ 16 <(tab l i).1.length then some (L0,2) else none
section
variable {F:Nat} {l:List aR}
theorem Zb (x y:Nat):((decide ((12 :Int) <(x:Int))) || (decide ((16 :Int) <(y:Int))))=decide (12 <x\/ 16 <y):=by
 rw [Bool.eq_iff_iff];simp;omega
theorem aDk (b4:1100 <F) (h:jy l) (s5 rN:Int × du) (QC:s5.2.cF=gz 0 l) (Fx:rN.2.b7=eK l) :
 qy F l s5 rN F [] [] [] 0 =some (A7 ((List.range l.length).findSome? (BS l)) (rows (fun i=>(tab l i).2) l.length,rows (fun i=>(tab l i).1) l.length,rows (ha l) l.length)):=by
 have hlen:=h.right.len
 refine Po (n:=l.length) (fun k i=>qy F l s5 rN k (rows (fun i=>(tab l i).2) i) (rows (fun i=>(tab l i).1) i) (rows (ha l) i) (i:Int)) _ _ (fun k i hi=>?_) (fun k=>?_) (F:=F) (by omega)
 · show qy F l s5 rN (k+ 1) (rows (fun i=>(tab l i).2) i) (rows (fun i=>(tab l i).1) i) (rows (ha l) i) (i:Int)=_
   rw [qy,cP hi,cond_true,QC,Fx,h.aDl b4 (gz 0 l) (by omega) (by omega),Option.bind_some,h.V5 b4 (gz 0 l) (by omega) (by omega),Option.bind_some,
    lh (by simp only [rows,List.length_map,List.length_range,List.length_cons,List.length_nil];omega),Option.bind_some,lh (by simp only [rows,List.length_map,List.length_range,List.length_cons,List.length_nil];omega),Option.bind_some,
    lh (by simp only [rows,List.length_map,List.length_range,List.length_cons,List.length_nil];omega),Option.bind_some,cu (i:=i) (x:=ha l i) (by simp [rows]),Option.bind_some,Zb,hV hi (by omega),<-Dd (ha l),<-Dd (fun i=>(tab l i).1),<-Dd (fun i=>(tab l i).2)]
   unfold BS
   by_cases a8:12 <(ha l i).length\/ 16 <(tab l i).1.length
   · rw [decide_eq_true a8,if_pos a8];rfl
   · rw [decide_eq_false a8,if_neg a8];rfl
 · show qy F l s5 rN (k+ 1) (rows (fun i=>(tab l i).2) l.length) (rows (fun i=>(tab l i).1) l.length) (rows (ha l) l.length) (l.length:Int)=_
   rw [qy,cO];rfl
theorem aED (b4:1100 <F) (h:jy l) :
 q0 F l F [] [] [] [] 0 =some (A7 ((List.range l.length).findSome? (BS l)) (rows (fun i=>(tab l i).2) l.length,rows (fun i=>(tab l i).1) l.length,rows (ha l) l.length,eK l)):=by
 have hlen:=h.right.len
 refine Po (n:=l.length) (fun k i=>q0 F l k (rows (fun i=>(tab l i).2) i) (rows (fun i=>(tab l i).1) i) (rows (ha l) i) ((eK l).take i) (i:Int)) _ _ (fun k i hi=>?_) (fun k=>?_) (F:=F) (by omega)
 · obtain ⟨x,al⟩:∃ x,l[i]? =some x:=⟨l[i],List.getElem?_eq_getElem hi⟩
   have eI:(eK l).take i++[d_ l x.b0]=(eK l).take (i+ 1):=by rw [List.take_add_one,Xx al];rfl
   show q0 F l (k+ 1) (rows (fun i=>(tab l i).2) i) (rows (fun i=>(tab l i).1) i) (rows (ha l) i) ((eK l).take i) (i:Int)=_
   rw [q0,cP hi,cond_true,h.Xk b4 (by omega) (by omega),Option.bind_some,h.aEE b4 (by omega) (by omega),Option.bind_some,Zb,cu al,Option.bind_some,wY ⟨by omega,by omega⟩,Option.bind_some,
    lh (by simp only [List.length_take,Dk,List.length_cons,List.length_nil];omega),Option.bind_some,
    lh (by simp only [rows,List.length_map,List.length_range,List.length_cons,List.length_nil];omega),Option.bind_some,lh (by simp only [rows,List.length_map,List.length_range,List.length_cons,List.length_nil];omega),Option.bind_some,
    lh (by simp only [rows,List.length_map,List.length_range,List.length_cons,List.length_nil];omega),Option.bind_some,hV hi (by omega),<-Dd (ha l),<-Dd (fun i=>(tab l i).1),<-Dd (fun i=>(tab l i).2),eI]
   unfold BS
   by_cases a8:12 <(ha l i).length\/ 16 <(tab l i).1.length
   · rw [decide_eq_true a8,if_pos a8];rfl
   · rw [decide_eq_false a8,if_neg a8];rfl
 · show q0 F l (k+ 1) (rows (fun i=>(tab l i).2) l.length) (rows (fun i=>(tab l i).1) l.length) (rows (ha l) l.length) ((eK l).take l.length) (l.length:Int)=_
   rw [q0,cO,List.take_of_length_le (by rw [Dk];omega)];rfl
theorem rL {α:Type} {e:Int} (h:e≠ 0) {x y:α}:cond (!decide (e= 0)) x y=x:=by rw [decide_eq_false h];rfl
theorem sx {α:Type} {x y:α}:cond (!decide ((0 :Int)= 0)) x y=y:=rfl
theorem aFl {e:Int} (h:l.findSome? s9=some e):e= 4 :=by
 obtain ⟨x,_,al⟩:=List.exists_of_findSome?_eq_some h
 unfold s9 at al
 split at al
 · cases al
 · injection al with al;exact al.symm
theorem aDy {e:Int} (h:l.findSome? (qA l)=some e):e= 5 :=by
 obtain ⟨x,_,al⟩:=List.exists_of_findSome?_eq_some h
 unfold qA at al
 split at al
 · cases al
 · injection al with al;exact al.symm
theorem air {e:Int} (h:(List.range l.length).findSome? (ug l)=some e):e= 4 :=by
 obtain ⟨x,_,al⟩:=List.exists_of_findSome?_eq_some h
 unfold ug at al
 split at al
 · cases al
 · injection al with al;exact al.symm
theorem aFu {nm:List UInt8} (h:0 <=d_ l nm):(dr (gz 0 l) nm).getD 0 =d_ l nm:=by
 rw [C6]
 unfold d_ at h ⊢
 cases b9:fR (kT nm) l with
 | none=>rw [b9] at h;simp at h
 | some i=>simp
theorem ah4 (b4:1100 <F) (I:Fits F l):∃ e,Ex F l=some e /\
 ((e≠ 0 /\yr F l=some (L0,e)) \/
  (e= 0 /\jy l/\ ∃ s5 rN:Int × du,s5.2.cF=gz 0 l/\rN.2.b7=eK l /\
   yr F l=dD (α:=(List (List Target)) × (List (List (List UInt8))) × (List (List Field))) (qy F l s5 rN F [] [] [] 0) fun ((oF,oG,oH):(List (List Target)) × (List (List (List UInt8))) × (List (List Field)))=>some ((⟨l,rN.2.b7,oH,oG,oF⟩:bC),0))):=by
 unfold Ex yr
 rw [af_ I,aCP I,Option.bind_some,Option.bind_some]
 by_cases bH:ub l= 0
 case neg=>exact ⟨ub l,by rw [rL bH],.inl ⟨bH,by rw [rL bH];rfl⟩⟩
 rw [bH,sx,sx]
 have jG:=ah7 bH
 have hlen:=jG.len
 rw [aDQ (by omega) jG,Option.bind_some]
 rcases aDB (F:=F) (by omega) jG with ⟨nI,CY,HP⟩ | ⟨_,⟨m,CY⟩,HP⟩
 case inr=>
  unfold CT
  simp only
  rw [CY,HP]
  exact ⟨6,rfl,.inl ⟨by decide,rfl⟩⟩
 rw [HP,qG,wY ⟨by omega,by omega⟩,Option.bind_some,wY ⟨by omega,by omega⟩,Option.bind_some]
 have axG:CT F ⟨l,[],[]⟩=some (cond (decide (0 <=d_ l [79,98,106,101,99,116]) && decide (0 <=d_ l [69,114,114,111,114])) 0 5,⟨l,gz 0 l,[]⟩):=by
  unfold CT
  simp only
  rw [CY,qG,Wa,Wa]
  cases decide (0 <=d_ l [79,98,106,101,99,116]) <;> cases decide (0 <=d_ l [69,114,114,111,114]) <;> rfl
 rw [axG,Option.bind_some]
 by_cases TF:0 <=d_ l [79,98,106,101,99,116]
 case neg=>
  rw [decide_eq_true (show d_ l [79,98,106,101,99,116] < 0 by omega),decide_eq_false TF]
  exact ⟨5,rfl,.inl ⟨by decide,rfl⟩⟩
 rw [decide_eq_false (show ¬ d_ l [79,98,106,101,99,116] < 0 by omega),decide_eq_true TF,cond_false]
 by_cases Cy:0 <=d_ l [69,114,114,111,114]
 case neg=>
  rw [decide_eq_true (show d_ l [69,114,114,111,114] < 0 by omega),decide_eq_false Cy]
  exact ⟨5,rfl,.inl ⟨by decide,rfl⟩⟩
 rw [decide_eq_false (show ¬ d_ l [69,114,114,111,114] < 0 by omega),decide_eq_true Cy,cond_false,Bool.and_self,cond_true]
 simp only [Option.bind_some,decide_true,Bool.not_true,cond_false]
 unfold LQ
 simp only
 rw [aFj (by omega) jG,aFk (by omega) jG,k9,k9]
 cases bV:l.findSome? s9 with
 | some e=>
   have:=aFl bV
   subst this
   exact ⟨4,rfl,.inl ⟨by decide,rfl⟩⟩
 | none=>
 simp only [Option.map_none,pO]
 obtain ⟨o,bu,hm⟩:=aDw (F:=F) (by omega) jG
 rw [aDx (by omega) jG,k9,hm,<-bu]
 cases o with
 | some r=>
   simp only [Option.map_some] at bu
   have:=aDy bu.symm
   refine ⟨5,by simp only [Option.map_some,pO];rw [this],.inl ⟨by decide,?_⟩⟩
   obtain ⟨a,b⟩:=r
   simp only at this
   subst this
   rfl
 | none=>
 simp only [Option.map_none,pO,A7,qG]
 simp only [Option.map_none] at bu
 rw [aiq b4 jG,k9,aip b4 jG,k9]
 cases hc:(List.range l.length).findSome? (ug l) with
 | some e=>
   have:=air hc
   subst this
   exact ⟨4,rfl,.inl ⟨by decide,rfl⟩⟩
 | none=>
 simp only [Option.map_none,pO,Option.bind_some,decide_true,Bool.not_true,cond_false]
 have axE:∀ c ∈ l,c.b0= []\/ 0 <=d_ l c.b0:=fun c ow=>by
  have:=List.findSome?_eq_none_iff.1 bu.symm c ow
  unfold qA at this
  split at this
  · assumption
  · cases this
 have azS:∀ i,i <l.length-> ∃ c,eU (eK l) l.length (i:Int)=some c:=fun i hi=>by
  have:=List.findSome?_eq_none_iff.1 hc i (by simpa using hi)
  unfold ug at this
  split at this
  · rename_i aI;exact Option.isSome_iff_exists.1 aI
  · cases this
 have mf:jy l:=⟨jG,nI,axE,azS,fun c ow=>List.findSome?_eq_none_iff.1 bV c ow,TF⟩
 have GD:d_ l [69,114,114,111,114] <l.length:=Qc
 obtain ⟨x,al,_⟩:=vK (l:=l) Cy GD
 unfold LR
 simp only [aFu Cy]
 rw [mf.Xk b4 Cy GD,Option.bind_some,mf.V5 b4 (gz 0 l) Cy GD,Option.bind_some,al,Option.bind_some,Option.bind_some]
 by_cases bc:((!decide (x.b0= [79,98,106,101,99,116])) || (decide (((ha l (d_ l [69,114,114,111,114])).length:Int)= 0)))=true
 · rw [bc]
   exact ⟨4,rfl,.inl ⟨by decide,rfl⟩⟩
 rw [Bool.eq_false_iff.2 bc,cond_false,cond_false]
 have fo:0 <(ha l (d_ l [69,114,114,111,114])).length:=by
  simp only [Bool.or_eq_true,decide_eq_true_eq,not_or] at bc
  omega
 have az_:idx (ha l (d_ l [69,114,114,111,114])) 0 =some ((ha l (d_ l [69,114,114,111,114]))[0]):=by
  have:=cu (l:=ha l (d_ l [69,114,114,111,114])) (i:=0) (List.getElem?_eq_getElem fo)
  exact this
 rw [az_,Option.bind_some,Option.bind_some]
 by_cases bi:((ha l (d_ l [69,114,114,111,114]))[0]).Kind.Kind= 1
 case neg=>
  rw [decide_eq_false bi]
  exact ⟨4,rfl,.inl ⟨by decide,rfl⟩⟩
 rw [decide_eq_true bi]
 simp only [Bool.not_true,cond_false,Option.bind_some,decide_true]
 rw [aFh b4 jG,k9,aFg b4 jG,Option.bind_some]
 cases As:(rW l).findSome? (k_ l) with
 | some e=>
   have:e= 5 :=by
    obtain ⟨s,_,aI⟩:=List.exists_of_findSome?_eq_some As
    rcases aev (l:=l) (s:=s) with aV | aV
    · rw [aV] at aI;cases aI
    · rw [aV] at aI;injection aI with aI;exact aI.symm
   subst this
   exact ⟨5,rfl,.inl ⟨by decide,rfl⟩⟩
 | none=>
 simp only [pO,Option.getD_none,decide_true,Bool.not_true,cond_false]
 rw [aDL b4 mf,k9,aDK b4 mf,Option.bind_some]
 cases axM:(List.range l.length).findSome? (yG l) with
 | some e=>
   have:e= 6 :=by
    obtain ⟨s,_,aI⟩:=List.exists_of_findSome?_eq_some axM
    unfold yG uh at aI
    split at aI
    · split at aI
      · cases aI
      · simp at aI;exact aI.symm
    · simp at aI;exact aI.symm
   subst this
   exact ⟨6,rfl,.inl ⟨by decide,rfl⟩⟩
 | none=>
 simp only [pO,Option.getD_none,decide_true,Bool.not_true,cond_false]
 rw [aDv b4 mf,k9,aDu b4 mf,Option.bind_some]
 cases TB:(List.range l.length).findSome? (fun i=>(l[i]?).bind fun c=>CX l c i) with
 | some e=>
   have:e= 4 :=by
    obtain ⟨i,_,aI⟩:=List.exists_of_findSome?_eq_some TB
    cases CG:l[i]? with
    | none=>rw [CG] at aI;cases aI
    | some c=>
      rw [CG,Option.bind_some] at aI
      unfold CX at aI
      rcases sy (aaA (l:=l) c) (eX l i).tail with aV | aV
      · rw [aV] at aI;cases aI
      · rw [aV] at aI;injection aI with aI;exact aI.symm
   subst this
   exact ⟨4,rfl,.inl ⟨by decide,rfl⟩⟩
 | none=>
 simp only [pO,Option.getD_none,decide_true,Bool.not_true,cond_false]
 exact ⟨0,rfl,.inr ⟨rfl,mf,(0,⟨l,gz 0 l,[]⟩),(0,⟨l,gz 0 l,eK l⟩),rfl,rfl,rfl⟩⟩
theorem aDj (b4:1100 <F) (I:Fits F l):∃ r:bC × Int,yr F l=some r/\Ey F l=some r/\(r.2 = 0 ->jy l/\r.1 =linked l)/\(r.2 ≠ 0 ->r.1 =L0):=by
 obtain ⟨e,aI,aV⟩:=ah4 b4 I
 unfold Ey
 rw [aI,Option.bind_some]
 rcases aV with ⟨he,aV⟩ | ⟨rfl,mf,s5,rN,QC,Fx,aV⟩
 · exact ⟨_,aV,by rw [rL he];rfl,fun h=>absurd h he,fun _=>rfl⟩
 · rw [sx,aV,aDk b4 mf s5 rN QC Fx,aED b4 mf]
   cases a8:(List.range l.length).findSome? (BS l) with
   | some r=>
     have:r=(L0,2):=by
      obtain ⟨i,_,aI⟩:=List.exists_of_findSome?_eq_some a8
      unfold BS at aI
      split at aI
      · injection aI with aI;exact aI.symm
      · cases aI
     subst this
     exact ⟨_,rfl,rfl,fun h=>absurd h (by decide),fun _=>rfl⟩
   | none=>
     refine ⟨_,rfl,?_,fun _=>⟨mf,?_⟩,fun h=>absurd rfl h⟩
     · simp only [A7,qG,Fx]
     · simp only [Fx];rfl
end
end J
