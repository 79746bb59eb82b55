/- Part 4 of the proof that is ended in the last text: small logic, what the functions compute, walks, plain laws. -/
import Derived.Test.YtpkhpagplommoaaGreatZs3
namespace Go.Proofs.YtpkhpagplommoaaGreat
open Go Go.RowKit a2
set_option maxHeartbeats 4000000
set_option maxRecDepth 20000
theorem aj8 {W:World} {X:List Nat} {F:Nat} {x_:J.dk} {r:Int × J.dk} {ba:Nat} {bi:aT} {bs:Nat} {cb:Nat} {aS:aT} {aV:Nat} {M0:List Nat} (hm:aw W M0 X W [ap.map dt (Value.int .i64) cb x_.cK] [ak.cZ ba [.q bi bs x_.l,.map (some cb),.q aS aV x_.b9],U J.bc bi bs x_.l,U (ai .i64) aS aV x_.b9]) (h:J.Dx F x_=some r) :
 Calls Tryz.prog 75 [.aK ba].toArray W (fun e aF=>e= .returned (.i r.1)/\aw W M0 X aF [ap.map dt (Value.int .i64) cb r.2.cK] []):=by
 refine enter Tryz.func75 rfl Tryz.ntmps75 rfl fun a I=>?_;rw [J.Dx] at h;refine bd [] [] I fun a I=>wp_seq_k fun K bO=>wp_seq_k fun K cc=>eH [0,0] [(14,.q bi bs x_.l),(15,.i (x_.l.length:Int)),(16,.i 0)] [ba,0] (ay (hm.d 0 rfl).2.2 ax) I fun a I=>cc _ _ ?_;obtain ⟨rs,h,rk⟩:=J.ei h
 refine cd (fun a w=>∃ (p':List ((List UInt8) × Int)),Fr ⟨62,[]⟩ [(0,.aK ba)] a/\aw W M0 X w [ap.map dt (Value.int .i64) cb p'] [ak.cZ ba [.q bi bs x_.l,.map (some cb),.q aS aV x_.b9],U J.bc bi bs x_.l,U (ai .i64) aS aV x_.b9]/\rs=(.go p')) (fun K cT=>?_) ?_
 · refine cB (fun (bw:Nat) a w=>∃ (jW:List ((List UInt8) × Int)) (kW:Int),Fr ⟨62,[]⟩ [(0,.aK ba),(14,.q bi bs x_.l),(15,.i (x_.l.length:Int)),(16,.i kW)] a/\aw W M0 X w [ap.map dt (Value.int .i64) cb jW] [ak.cZ ba [.q bi bs x_.l,.map (some cb),.q aS aV x_.b9],U J.bc bi bs x_.l,U (ai .i64) aS aV x_.b9]/\J.rB x_ bw jW kW=some rs) F ⟨x_.cK,0,I.cut,hm,h⟩ ?_ ?_
   · rintro a w ⟨jW,kW,I,hm,h⟩;exact absurd h (by simp [J.rB])
   rintro bw a w ⟨jW,kW,I,hm,h⟩ K cn;rw [J.rB] at h;refine bd [] [(17,.bool (decide (kW <(x_.l.length:Int))))] I fun a I=>wp_seq_k fun K dm=>bn (I.g rfl) h (fun asg h=>?_) (fun asg h=>?_)
   · refine wp_skip <| dm _ _ <| wp_seq_k fun K cM=>wp_block <| wp_seq_k fun K dj=>aZ <| aN 1 [] [(18,.i kW)] I fun a I=>?_;obtain ⟨k3,aFk,h⟩:=J.aI h;obtain ⟨aov,azl,_,⟨B3,CK,mo,mw,rfl,Su,au'⟩,au4⟩:=b3 _ (hm.d 1 rfl) aFk;have hm:=hm.more (y:=U J.aW B3 CK k3.Fields) Su;have hm:=hm.more (y:=U J.b' mo mw k3.aU) au';refine bU wn (bI Tryz.underlying25 Tryz.sizeOf136 rfl (I.g rfl) (I.g rfl) aov azl) I rfl rfl fun a I=>?_
     refine bf 1 [0,0] [(20,.agg #[ao k3.Name,ao k3.b2,.q B3 CK k3.Fields,.q mo mw k3.aU])] [bG bi,bH bi+(kW).toNat* 4] (ay au4 ax) I fun a I=>cz (cs:=[ao [],ao [],.slice none 0 0,.slice none 0 0]) wn (eL Tryz.zeroValue136 rfl rfl) I hm rfl rfl fun a adj w _ I hm=>aN 1 [] [(3,.i kW)] I fun a I=>cA (vs:=[ao k3.Name,ao k3.b2,.q B3 CK k3.Fields,.q mo mw k3.aU]) 0 hm rfl wn rfl Tryz.sizeOf136 rfl rfl rfl rfl (I.g rfl) (I.g rfl) rfl fun w hm=>wpList_nil <| dj _ _ ?_
     refine wp_seq_k fun K df=>wp_seq_k fun K dy=>h5 (by kernel_rfl) (by kernel_rfl) <| dQ 6 [0,1,1,0] [(25,.map (some cb)),(27,ao k3.Name)] [adj,0,ba,1] (fun a5 ad=>(ay (b6 ad (hm.d 2 rfl).2.2) (ay (b6 ad (a1 (hm.e 0 rfl))) ax))) I fun a I=>eK wn (fun a5 ad=>JS (K:=dt) (ev:=(Value.int .i64)) Tryz.underlying120 Tryz.underlying9 Tryz.zeroValue3 (LC ad ((hm.e 1 rfl))) rfl (I.g rfl) (I.g rfl)) I rfl rfl fun a I=>dQ 5 [] [(6,.bool ((J.du jW k3.Name).isSome))] [] (fun a5 ad=>ax) I fun a I=>wpQuiet_nil fun w ad=>?_;have hm:=hm.dz ad;clear ad;refine dy _ _ <| wp_seq_k fun K dO=>?_
     refine cg [] [(31,.bool ((J.du jW k3.Name).isSome))] I fun a I=>dO _ _ <| bn (I.g rfl) h (fun R0 h=>?_) (fun R0 h=>?_)
     · refine bu [] [(2,.i 6)] I fun a I=>wp_ret ?_;obtain rfl:=aC h;obtain rfl:=aC rk;refine al (a' (al (al (a' (al (al ?_))))));refine bq Tryz.results75 I rfl ?_;exact ⟨rfl,hm.aX [1] []⟩
     refine wp_skip <| df _ _ <| g1 (m:=8) 7 (a7 []) (by kernel_rfl) rfl fun w ad=>?_;have hm:=hm.dz ad;clear ad;have a8:=hm;have ar:=a7.refl [] w;refine b7 [0,1,2,3,4,5,6] 7 [0,1,1,0] [(35,.map (some cb)),(37,ao k3.Name),(38,.i kW)] [adj,0,ba,1] (fun a5 ad=>(ay (b6 ad (a8.d 2 rfl).2.2) (ay (b6 ad (a1 (a8.e 0 rfl))) ax))) I ar fun a I=>cy 7 rfl (by kernel_rfl) (fun _=>ar) <| NY (K:=dt) (ev:=(Value.int .i64)) 1 hm rfl wn Tryz.underlying120 Tryz.underlying9 (.inl rfl) (I.g rfl) (I.g rfl) (I.g rfl) rfl fun w hm=>cq ?_;clear a8 ar;have a8:=hm;have ar:=a7.refl [] w
     refine dT.next 8 (a7 [] w) (by kernel_rfl) <| eU (by kernel_rfl) ?_ (fun _=>ar);clear a8 ar;have I:=I.cut (l':=[(0,.aK ba),(14,.q bi bs x_.l),(15,.i (x_.l.length:Int)),(16,.i kW)]);refine cM _ _ <| cg [] [(16,.i (J.av (kW+ 1)))] I fun a I=>?_;exact cn _ _ ⟨J.hO jW k3.Name kW,J.av (kW+ 1),I.cut,hm.aX [1] [2,3,4],h⟩
   refine wp_exit <| bC (bC (cv ?_));exact cT _ _ ⟨jW,I.cut,hm,(os h)⟩
 rintro a w ⟨p',I,hm,bb⟩;subst rs;have h:=rk;clear rk;dsimp only [J.ec] at h;refine bO _ _ <| wp_seq_k fun K fo=>aZ <| bf 4 [0,1] [(44,.map (some cb))] [ba,1] (ay (hm.d 0 rfl).2.2 ax) I fun a I=>bU wn (JS (K:=dt) (ev:=(Value.int .i64)) Tryz.underlying120 Tryz.underlying9 Tryz.zeroValue3 ((hm.e 0 rfl)) rfl (I.g rfl) (c0 _ _)) I rfl rfl fun a I=>aN 5 [] [(8,.bool ((J.du p' [79,98,106,101,99,116]).isSome))] I fun a I=>wpList_nil (fo _ _ ?_);refine wp_seq_k fun K fa=>aZ <| bf 4 [0,1] [(52,.map (some cb))] [ba,1] (ay (hm.d 0 rfl).2.2 ax) I fun a I=>?_
 refine bU wn (JS (K:=dt) (ev:=(Value.int .i64)) Tryz.underlying120 Tryz.underlying9 Tryz.zeroValue3 ((hm.e 0 rfl)) rfl (I.g rfl) (c0 _ _)) I rfl rfl fun a I=>aN 5 [] [(10,.bool ((J.du p' [69,114,114,111,114]).isSome))] I fun a I=>wpList_nil (fa _ _ ?_);refine wp_seq_k fun K gE=>bu [0,0,0] [(61,.bool ((!((J.du p' [79,98,106,101,99,116]).isSome)) || (!((J.du p' [69,114,114,111,114]).isSome))))] I fun a I=>bn (I.g rfl) h (fun R1 h=>?_) (fun R1 h=>?_)
 · refine bu [] [(2,.i 5)] I fun a I=>wp_ret ?_;obtain rfl:=aC h;refine al <| bq Tryz.results75 I rfl ?_;exact ⟨rfl,hm.aX [0] []⟩
 refine wp_skip <| gE _ _ <| bu [] [(2,.i 0)] I fun a I=>wp_ret ?_;obtain rfl:=aC h;refine bq Tryz.results75 I rfl ?_;exact ⟨rfl,hm.aX [0] []⟩
theorem aj5 {W:World} {X:List Nat} {F:Nat} {x_:J.dk} {r:Int × J.dk} {ba:Nat} {bi:aT} {bs:Nat} {cb:Nat} {aS:aT} {aV:Nat} {qD:List Value} {M0:List Nat} (hm:aw W M0 X W [ap.bm ba 122 [.q bi bs x_.l,.map (some cb),.q aS aV x_.b9],ap.row 3 1 (.q aS aV x_.b9) x_.b9 qD] [U J.bc bi bs x_.l,ak.map dt (Value.int .i64) cb x_.cK,ak.rows (ai .i64) qD x_.b9]) (h:J.MW F x_=some r) :
 Calls Tryz.prog 76 [.aK ba].toArray W (fun e aF=>∃ ZV:Option Addr,∃ abo:Nat,∃ ahC:List Value,e= .returned (.i r.1)/\aw W M0 X aF [ap.bm ba 122 [.q bi bs x_.l,.map (some cb),.q ZV abo r.2.b9],ap.row 3 1 (.q ZV abo r.2.b9) r.2.b9 ahC] [ak.rows (ai .i64) ahC r.2.b9]):=by
 refine enter Tryz.func76 rfl Tryz.ntmps76 rfl fun a I=>?_;rw [J.MW] at h;refine bd [] [] I fun a I=>wp_seq_k fun K bO=>wp_seq_k fun K cc=>eH [0,0] [(14,.q bi bs x_.l),(15,.i (x_.l.length:Int)),(16,.i 0)] [ba,0] (ay (a1 (hm.e 0 rfl)) ax) I fun a I=>cc _ _ ?_;obtain ⟨WE,h,T9⟩:=J.ei h
 refine cd (fun a w=>Fr ⟨94,[]⟩ [(0,.aK ba)] a/\aw W M0 X w [ap.bm ba 122 [.q bi bs x_.l,.map (some cb),.q aS aV x_.b9],ap.row 3 1 (.q aS aV x_.b9) x_.b9 qD] [U J.bc bi bs x_.l,ak.map dt (Value.int .i64) cb x_.cK,ak.rows (ai .i64) qD x_.b9]/\WE=(.go ())) (fun K cT=>?_) ?_
 · refine cB (fun (bw:Nat) a w=>∃ (qo:Int),Fr ⟨94,[]⟩ [(0,.aK ba),(14,.q bi bs x_.l),(15,.i (x_.l.length:Int)),(16,.i qo)] a/\aw W M0 X w [ap.bm ba 122 [.q bi bs x_.l,.map (some cb),.q aS aV x_.b9],ap.row 3 1 (.q aS aV x_.b9) x_.b9 qD] [U J.bc bi bs x_.l,ak.map dt (Value.int .i64) cb x_.cK,ak.rows (ai .i64) qD x_.b9]/\J.vq x_ bw qo=some WE) F ⟨0,I.cut,hm,h⟩ ?_ ?_
   · rintro a w ⟨qo,I,hm,h⟩;exact absurd h (by simp [J.vq])
   rintro bw a w ⟨qo,I,hm,h⟩ K cn;rw [J.vq] at h;refine bd [] [(17,.bool (decide (qo <(x_.l.length:Int))))] I fun a I=>wp_seq_k fun K dm=>bn (I.g rfl) h (fun asa h=>?_) (fun asa h=>?_)
   · refine wp_skip <| dm _ _ <| wp_seq_k fun K cM=>wp_block <| wp_seq_k fun K dj=>aZ ?_;obtain ⟨np,aFh,h⟩:=J.aI h;obtain ⟨aos,azi,_,⟨ww,xy,Qm,Q3,rfl,awx,au9⟩,au1⟩:=b3 _ (hm.d 0 rfl) aFh;have hm:=hm.more (y:=U J.aW ww xy np.Fields) awx;have hm:=hm.more (y:=U J.b' Qm Q3 np.aU) au9;refine bU wn (bI Tryz.underlying25 Tryz.sizeOf136 rfl (I.g rfl) (I.g rfl) aos azi) I rfl rfl fun a I=>?_
     refine bf 1 [0,0] [(19,.agg #[ao np.Name,ao np.b2,.q ww xy np.Fields,.q Qm Q3 np.aU])] [bG bi,bH bi+(qo).toNat* 4] (ay au1 ax) I fun a I=>cz (cs:=[ao [],ao [],.slice none 0 0,.slice none 0 0]) wn (eL Tryz.zeroValue136 rfl rfl) I hm rfl rfl fun a adi w _ I hm=>cA (vs:=[ao np.Name,ao np.b2,.q ww xy np.Fields,.q Qm Q3 np.aU]) 0 hm rfl wn rfl Tryz.sizeOf136 rfl rfl rfl rfl (I.g rfl) (I.g rfl) rfl fun w hm=>wpList_nil <| dj _ _ <| wp_seq_k fun K df=>?_
     refine eH [0,0,0,1] [(26,.bool (!((decide (np.Name= [79,98,106,101,99,116])) == (decide (np.b2= [])))))] [adi,1,adi,0] (ay (a1 (hm.e 0 rfl)) ax) I fun a I=>df _ _ <| bn (I.g rfl) h (fun uo h=>?_) (fun uo h=>?_)
     · refine bu [] [(2,.i 4)] I fun a I=>wp_ret ?_;obtain rfl:=aC h;obtain rfl:=aC T9;refine a' (al (al (a' (al (al ?_)))));refine bq Tryz.results76 I rfl ?_;exact ⟨aS,aV,qD,rfl,hm.aX [1,2] [4]⟩
     refine wp_skip <| cM _ _ <| cg [] [(16,.i (J.av (qo+ 1)))] I fun a I=>?_;exact cn _ _ ⟨J.av (qo+ 1),I.cut,hm.aX [1,2] [2,3,4],h⟩
   refine wp_exit <| bC (bC (cv ?_));exact cT _ _ ⟨I.cut,hm,(os h)⟩
 rintro a w ⟨I,hm,bb⟩;subst WE;have h:=T9;clear T9;dsimp only [J.ec] at h;refine bO _ _ <| wp_seq_k fun K dO=>wp_seq_k fun K dS=>eH [0,0] [(31,.q bi bs x_.l),(32,.i (x_.l.length:Int)),(33,.i 0)] [ba,0] (ay (a1 (hm.e 0 rfl)) ax) I fun a I=>dS _ _ ?_;obtain ⟨Wb,h,TB⟩:=J.ei h
 refine cd (fun a w=>∃ (jJ:aT) (kL:Nat) (fq:eI) (lG:dD),Fr ⟨94,[]⟩ [(0,.aK ba)] a/\aw W M0 X w [ap.bm ba 122 [.q bi bs x_.l,.map (some cb),.q jJ kL fq],ap.row 3 1 (.q jJ kL fq) fq lG] [ak.rows (ai .i64) lG fq,U J.bc bi bs x_.l,ak.map dt (Value.int .i64) cb x_.cK]/\Wb=(.go fq)) (fun K fo=>?_) ?_
 · refine cB (fun (c7:Nat) a w=>∃ (qI:aT) (q0:Nat) (jB:eI) (tb:dD) (nd:Int),Fr ⟨94,[]⟩ [(0,.aK ba),(31,.q bi bs x_.l),(32,.i (x_.l.length:Int)),(33,.i nd)] a/\aw W M0 X w [ap.bm ba 122 [.q bi bs x_.l,.map (some cb),.q qI q0 jB],ap.row 3 1 (.q qI q0 jB) jB tb] [ak.rows (ai .i64) tb jB,U J.bc bi bs x_.l,ak.map dt (Value.int .i64) cb x_.cK]/\J.o1 x_ c7 jB nd=some Wb) F ⟨aS,aV,x_.b9,qD,0,I.cut,hm.eg [2,0,1],h⟩ ?_ ?_
   · rintro a w ⟨qI,q0,jB,tb,nd,I,hm,h⟩;exact absurd h (by simp [J.o1])
   rintro c7 a w ⟨qI,q0,jB,tb,nd,I,hm,h⟩ K fa;rw [J.o1] at h;refine bd [] [(34,.bool (decide (nd <(x_.l.length:Int))))] I fun a I=>wp_seq_k fun K hk=>bn (I.g rfl) h (fun R9 h=>?_) (fun R9 h=>?_)
   · refine wp_skip <| hk _ _ <| wp_seq_k fun K fx=>?_;obtain ⟨afC,h,T3⟩:=J.e3 h;refine cd (fun a w=>∃ (J7:aT) (KT:Nat) (rv:eI) (Pr:dD),Fr ⟨94,[]⟩ [(0,.aK ba),(31,.q bi bs x_.l),(32,.i (x_.l.length:Int)),(33,.i nd)] a/\aw W M0 X w [ap.bm ba 122 [.q bi bs x_.l,.map (some cb),.q J7 KT rv],ap.row 3 1 (.q J7 KT rv) rv Pr] [ak.rows (ai .i64) Pr rv,U J.bc bi bs x_.l,ak.map dt (Value.int .i64) cb x_.cK]/\afC=(.go rv)) (fun K fN=>?_) ?_
     · refine wp_seq_k fun K fW=>aZ ?_;obtain ⟨gW,aEw,h⟩:=J.aI h;obtain ⟨anB,ayr,_,⟨zm,zI,zn,zJ,rfl,av4,av5⟩,at8⟩:=b3 _ (hm.d 1 rfl) aEw;have hm:=hm.more (y:=U J.aW zm zI gW.Fields) av4;have hm:=hm.more (y:=U J.b' zn zJ gW.aU) av5;refine bU wn (bI Tryz.underlying25 Tryz.sizeOf136 rfl (I.g rfl) (I.g rfl) anB ayr) I rfl rfl fun a I=>bf 1 [0,0] [(36,.agg #[ao gW.Name,ao gW.b2,.q zm zI gW.Fields,.q zn zJ gW.aU])] [bG bi,bH bi+(nd).toNat* 4] (ay at8 ax) I fun a I=>?_
       refine cz (cs:=[ao [],ao [],.slice none 0 0,.slice none 0 0]) wn (eL Tryz.zeroValue136 rfl rfl) I hm rfl rfl fun a LP w _ I hm=>cA (vs:=[ao gW.Name,ao gW.b2,.q zm zI gW.Fields,.q zn zJ gW.aU]) 0 hm rfl wn rfl Tryz.sizeOf136 rfl rfl rfl rfl (I.g rfl) (I.g rfl) rfl fun w hm=>wpList_nil <| fW _ _ <| wp_seq_k fun K gv=>h5 (by kernel_rfl) (by kernel_rfl) ?_
       refine dQ 6 [0,1,1,1] [(41,.map (some cb)),(43,ao gW.b2)] [LP,1,ba,1] (fun a5 ad=>(ay (b6 ad (a1 (hm.e 1 rfl))) (ay (b6 ad (a1 (hm.e 0 rfl))) ax))) I fun a I=>eK wn (fun a5 ad=>JS (K:=dt) (ev:=(Value.int .i64)) Tryz.underlying120 Tryz.underlying9 Tryz.zeroValue3 (LC ad ((hm.d 4 rfl).2.2)) rfl (I.g rfl) (I.g rfl)) I rfl rfl fun a I=>dQ 5 [] [(7,.i ((J.du x_.cK gW.b2).getD 0)),(8,.bool ((J.du x_.cK gW.b2).isSome))] [] (fun a5 ad=>ax) I fun a I=>wpQuiet_nil fun w ad=>?_;have hm:=hm.dz ad;clear ad;refine gv _ _ ?_;obtain ⟨afD,h,T6⟩:=J.e3 h
       refine q6 (fun a w=>∃ (rF:Int),Fr ⟨94,[]⟩ [(0,.aK ba),(7,.i rF),(31,.q bi bs x_.l),(32,.i (x_.l.length:Int)),(33,.i nd)] a/\aw W M0 X w [ap.bm LP 136 [ao gW.Name,ao gW.b2,.q zm zI gW.Fields,.q zn zJ gW.aU],ap.bm ba 122 [.q bi bs x_.l,.map (some cb),.q qI q0 jB],ap.row 3 1 (.q qI q0 jB) jB tb] [U J.b' zn zJ gW.aU,U J.aW zm zI gW.Fields,ak.rows (ai .i64) tb jB,U J.bc bi bs x_.l,ak.map dt (Value.int .i64) cb x_.cK]/\afD=(.go rF)) (fun K gQ=>?_) ?_
       · obtain ⟨afE,h,T8⟩:=J.e3 h
         refine cd (fun a w=>∃ (DL:Int),Fr ⟨94,[]⟩ [(0,.aK ba),(7,.i DL),(31,.q bi bs x_.l),(32,.i (x_.l.length:Int)),(33,.i nd)] a/\aw W M0 X w [ap.bm LP 136 [ao gW.Name,ao gW.b2,.q zm zI gW.Fields,.q zn zJ gW.aU],ap.bm ba 122 [.q bi bs x_.l,.map (some cb),.q qI q0 jB],ap.row 3 1 (.q qI q0 jB) jB tb] [U J.b' zn zJ gW.aU,U J.aW zm zI gW.Fields,ak.rows (ai .i64) tb jB,U J.bc bi bs x_.l,ak.map dt (Value.int .i64) cb x_.cK]/\afE=(.go DL)) (fun K hM=>?_) ?_
         · refine wp_seq_k fun K h6=>eH [0,1] [(47,.bool (decide (gW.b2= [])))] [LP,1] (ay (a1 (hm.e 0 rfl)) ax) I fun a I=>h6 _ _ <| bn (I.g rfl) h (fun arF h=>?_) (fun arF h=>?_)
           · refine cg [] [(7,.i (-1))] I fun a I=>?_;exact hM _ _ ⟨(-1),I.cut,hm,(os h)⟩
           refine bd [] [(51,.bool (!((J.du x_.cK gW.b2).isSome)))] I fun a I=>bn (I.g rfl) h (fun arG h=>?_) (fun arG h=>?_)
           · refine bu [] [(2,.i 5)] I fun a I=>wp_ret ?_;obtain rfl:=aC h;obtain rfl:=aC T8;obtain rfl:=aC T6;obtain rfl:=aC T3;obtain rfl:=aC TB;refine a' (al (al (a' (al (al (al (a' (al (al ?_)))))))));refine bq Tryz.results76 I rfl ?_;exact ⟨qI,q0,tb,rfl,hm.aX [1,2] [2]⟩
           refine wp_skip ?_;exact hM _ _ ⟨(J.du x_.cK gW.b2).getD 0,I.cut,hm,(os h)⟩
         rintro a w ⟨DL,I,hm,bb⟩;subst afE;have h:=T8;clear T8;dsimp only [J.eV] at h;exact gQ _ _ ⟨DL,I.cut,hm,(os h)⟩
       rintro a w ⟨rF,I,hm,bb⟩;subst afD;have h:=T6;clear T6;dsimp only [J.eV] at h;refine aZ <| bf 6 [0,2] [(54,.aK ba),(58,.q qI q0 jB),(59,.i rF)] [ba,2] (ay (a1 (hm.e 1 rfl)) ax) I fun a I=>gy (cs:=[.i rF]) wn (fU (vs:=[(0,.i rF)]) Tryz.underlying22 Tryz.sizeOf3 Tryz.zeroValue3 rfl rfl rfl ⟨⟨(I.g rfl),rfl⟩,trivial⟩ (by kernel_rfl)) I hm rfl rfl fun a aK4 w _ I hm=>?_;obtain ⟨Dv,az5,h⟩:=J.aI h;refine iQ (T:=(ai .i64)) (ml:=[rF]) 3 0 2 hm rfl rfl rfl Tryz.underlying22 jb rfl rfl az5 rfl rfl ⟨_,_,rfl,rfl,rfl⟩ wn rfl (I.g rfl) (I.g rfl) I rfl rfl fun a aae abL aIZ w I hm=>?_
       refine aN 2 [] [(63,.pointer (some ⟨ba,2,none⟩))] I fun a I=>cA (vs:=[.q aae abL Dv]) 1 hm rfl wn rfl Tryz.sizeOf22 rfl rfl rfl rfl (I.g rfl) (I.g rfl) rfl fun w hm=>wpList_nil ?_;exact fN _ _ ⟨aae,abL,Dv,aIZ,I.cut,hm.aX [1,2] [0,4,5],(os h)⟩
     rintro a w ⟨J7,KT,rv,Pr,I,hm,bb⟩;subst afC;have h:=T3;clear T3;dsimp only [J.eV] at h;refine fx _ _ <| cg [] [(33,.i (J.av (nd+ 1)))] I fun a I=>?_;exact fa _ _ ⟨J7,KT,rv,Pr,J.av (nd+ 1),I.cut,hm,h⟩
   refine wp_exit <| bC (bC (cv ?_));exact fo _ _ ⟨qI,q0,jB,tb,I.cut,hm,(os h)⟩
 rintro a w ⟨jJ,kL,fq,lG,I,hm,bb⟩;subst Wb;have h:=TB;clear TB;dsimp only [J.ec] at h;refine dO _ _ <| wp_seq_k fun K hC=>wp_seq_k fun K jM=>eH [0,0] [(69,.i (x_.l.length:Int)),(70,.i 0)] [ba,0] (ay (a1 (hm.e 0 rfl)) ax) I fun a I=>jM _ _ ?_;obtain ⟨VG,h,S5⟩:=J.ei h;refine cd (fun a w=>Fr ⟨94,[]⟩ [] a/\aw W M0 X w [ap.bm ba 122 [.q bi bs x_.l,.map (some cb),.q jJ kL fq],ap.row 3 1 (.q jJ kL fq) fq lG] [ak.rows (ai .i64) lG fq,U J.bc bi bs x_.l,ak.map dt (Value.int .i64) cb x_.cK]/\VG=(.go ())) (fun K jy=>?_) ?_
 · refine cB (fun (eB:Nat) a w=>∃ (kS:Int),Fr ⟨94,[]⟩ [(0,.aK ba),(69,.i (x_.l.length:Int)),(70,.i kS)] a/\aw W M0 X w [ap.bm ba 122 [.q bi bs x_.l,.map (some cb),.q jJ kL fq],ap.row 3 1 (.q jJ kL fq) fq lG] [ak.rows (ai .i64) lG fq,U J.bc bi bs x_.l,ak.map dt (Value.int .i64) cb x_.cK]/\J.vr F x_ fq eB kS=some VG) F ⟨0,I.cut,hm,h⟩ ?_ ?_
   · rintro a w ⟨kS,I,hm,h⟩;exact absurd h (by simp [J.vr])
   rintro eB a w ⟨kS,I,hm,h⟩ K mI;rw [J.vr] at h;refine bd [] [(71,.bool (decide (kS <(x_.l.length:Int))))] I fun a I=>wp_seq_k fun K jO=>bn (I.g rfl) h (fun ap6 h=>?_) (fun ap6 h=>?_)
   · refine wp_skip <| jO _ _ <| wp_seq_k fun K kn=>?_;obtain ⟨afj,h,Tg⟩:=J.e3 h;refine cd (fun a w=>Fr ⟨94,[]⟩ [(0,.aK ba),(69,.i (x_.l.length:Int)),(70,.i kS)] a/\aw W M0 X w [ap.bm ba 122 [.q bi bs x_.l,.map (some cb),.q jJ kL fq],ap.row 3 1 (.q jJ kL fq) fq lG] [ak.rows (ai .i64) lG fq,U J.bc bi bs x_.l,ak.map dt (Value.int .i64) cb x_.cK]/\afj=(.go ())) (fun K ko=>?_) ?_
     · refine bd [] [(9,.i kS)] I fun a I=>bd [] [(10,.i kS)] I fun a I=>?_;obtain ⟨afk,h,Ti⟩:=J.aI h;refine q6 (fun a w=>∃ (DH:Int),Fr ⟨94,[]⟩ [(0,.aK ba),(10,.i DH),(69,.i (x_.l.length:Int)),(70,.i kS)] a/\aw W M0 X w [ap.bm ba 122 [.q bi bs x_.l,.map (some cb),.q jJ kL fq],ap.row 3 1 (.q jJ kL fq) fq lG] [ak.rows (ai .i64) lG fq,U J.bc bi bs x_.l,ak.map dt (Value.int .i64) cb x_.cK]/\afk=DH) (fun K lW=>?_) ?_
       · clear Ti;refine wp_seq_k fun K oM=>eH [0,0] [(78,.i (x_.l.length:Int)),(79,.i 0)] [ba,0] (ay (a1 (hm.e 0 rfl)) ax) I fun a I=>oM _ _ ?_;obtain ⟨VU,h,Tk⟩:=J.aI h;refine cd (fun a w=>∃ (DI:Int),Fr ⟨94,[]⟩ [(0,.aK ba),(10,.i DI),(69,.i (x_.l.length:Int)),(70,.i kS)] a/\aw W M0 X w [ap.bm ba 122 [.q bi bs x_.l,.map (some cb),.q jJ kL fq],ap.row 3 1 (.q jJ kL fq) fq lG] [ak.rows (ai .i64) lG fq,U J.bc bi bs x_.l,ak.map dt (Value.int .i64) cb x_.cK]/\VU=DI) (fun K lX=>?_) ?_
         · clear Tk;refine cB (fun (fB:Nat) a w=>∃ (sW:Int) (sX:Int),Fr ⟨94,[]⟩ [(0,.aK ba),(10,.i sW),(69,.i (x_.l.length:Int)),(70,.i kS),(78,.i (x_.l.length:Int)),(79,.i sX)] a/\aw W M0 X w [ap.bm ba 122 [.q bi bs x_.l,.map (some cb),.q jJ kL fq],ap.row 3 1 (.q jJ kL fq) fq lG] [ak.rows (ai .i64) lG fq,U J.bc bi bs x_.l,ak.map dt (Value.int .i64) cb x_.cK]/\J.yr x_ fq fB sW sX=some VU) F ⟨kS,0,I.cut,hm,h⟩ ?_ ?_
           · rintro a w ⟨sW,sX,I,hm,h⟩;exact absurd h (by simp [J.yr])
           rintro fB a w ⟨sW,sX,I,hm,h⟩ K mJ;rw [J.yr] at h;refine bd [] [(80,.bool (decide (sX <(x_.l.length:Int))))] I fun a I=>wp_seq_k fun K zZ=>bn (I.g rfl) h (fun aql h=>?_) (fun aql h=>?_)
           · refine wp_skip <| zZ _ _ <| wp_seq_k fun K mK=>wp_block <| wp_seq_k fun K uf=>aZ <| bf 5 [0,2] [(84,.q jJ kL fq),(85,.i sW)] [ba,2] (ay (a1 (hm.e 0 rfl)) ax) I fun a I=>?_;obtain ⟨zc,aDq,h⟩:=J.aI h;obtain ⟨amp,axh,_,rfl,asW⟩:=gk (hm.e 1 rfl) (hm.d 0 rfl) aDq;refine bU wn (bI Tryz.underlying22 Tryz.sizeOf3 rfl (I.g rfl) (I.g rfl) amp axh) I rfl rfl fun a I=>bf 2 [0,0] [(10,.i zc)] [bG jJ,bH jJ+(sW).toNat* 1] (ay asW ax) I fun a I=>wpList_nil (uf _ _ ?_);refine bd [] [(89,.bool (decide (zc < 0)))] I fun a I=>?_
             refine bn (I.g rfl) h (fun aqm h=>?_) (fun aqm h=>?_)
             · refine wp_exit <| aIB rfl (bC (bC (cv ?_)));exact lX _ _ ⟨zc,I.cut,hm,(os h)⟩
             refine wp_skip <| mK _ _ <| cg [] [(79,.i (J.av (sX+ 1)))] I fun a I=>?_;exact mJ _ _ ⟨zc,J.av (sX+ 1),I.cut,hm,h⟩
           refine wp_exit <| bC (bC (cv ?_));exact lX _ _ ⟨sW,I.cut,hm,(os h)⟩
         rintro a w ⟨DI,I,hm,bb⟩;subst VU;have h:=Tk;clear Tk;exact lW _ _ ⟨DI,I.cut,hm,(os h)⟩
       rintro a w ⟨DH,I,hm,bb⟩;subst afk;have h:=Ti;clear Ti;refine bd [] [(92,.bool (decide (0 <=DH)))] I fun a I=>bn (I.g rfl) h (fun aqn h=>?_) (fun aqn h=>?_)
       · refine bu [] [(2,.i 4)] I fun a I=>wp_ret ?_;obtain rfl:=aC h;obtain rfl:=aC Tg;obtain rfl:=aC S5;refine a' (al (al (al (a' (al (al ?_))))));refine bq Tryz.results76 I rfl ?_;exact ⟨jJ,kL,lG,rfl,hm.aX [0,1] [0]⟩
       refine wp_skip ?_;exact ko _ _ ⟨I.cut,hm,(os h)⟩
     rintro a w ⟨I,hm,bb⟩;subst afj;have h:=Tg;clear Tg;dsimp only [J.eV] at h;refine kn _ _ <| cg [] [(70,.i (J.av (kS+ 1)))] I fun a I=>?_;exact mI _ _ ⟨J.av (kS+ 1),I.cut,hm,h⟩
   refine wp_exit <| bC (bC (cv ?_));exact jy _ _ ⟨I.cut,hm,(os h)⟩
 rintro a w ⟨I,hm,bb⟩;subst VG;have h:=S5;clear S5;dsimp only [J.ec] at h;refine hC _ _ <| bu [] [(2,.i 0)] I fun a I=>wp_ret ?_;obtain rfl:=aC h;refine bq Tryz.results76 I rfl ?_;exact ⟨jJ,kL,lG,rfl,hm.aX [0,1] [0]⟩
theorem Q_ {W:World} {X:List Nat} {F:Nat} {x_:J.dk} {bS:Int} {r:List Int} {ba:Nat} {bi:aT} {bs:Nat} {cb:Nat} {aS:aT} {aV:Nat} {M0:List Nat} (hm:aw W M0 X W [] [ak.cZ ba [.q bi bs x_.l,.map (some cb),.q aS aV x_.b9],U J.bc bi bs x_.l,ak.map dt (Value.int .i64) cb x_.cK,U (ai .i64) aS aV x_.b9]) (h:J.vt F x_ bS=some r) :
 Calls Tryz.prog 105 [.aK ba,.i bS].toArray W (fun e aF=>∃ ZI:Option Addr,∃ aba:Nat,∃ ahx:List Value,e= .returned (.q ZI aba r)/\aw W M0 X aF [ap.row 3 1 (.q ZI aba r) r ahx] [ak.rows (ai .i64) ahx r]):=by
 refine enter Tryz.func105 rfl Tryz.ntmps105 rfl fun a I=>?_;rw [J.vt] at h;refine bd [] [] I fun a I=>bd [] [(5,.slice none 0 0)] I fun a I=>wp_seq_k fun K cc=>?_;have hm:=hm.cU (α:=Int) 3 1;have hm:=hm.more (y:=ak.rows (ai .i64) [] []) rfl;obtain ⟨VE,h,S3⟩:=J.aI h
 refine cd (fun a w=>∃ (ED:aT) (Fy:Nat) (lp:eI) (O_:dD),Fr ⟨20,[]⟩ [(5,.q ED Fy lp)] a/\aw W M0 X w [ap.row 3 1 (.q ED Fy lp) lp O_] [ak.rows (ai .i64) O_ lp,ak.cZ ba [.q bi bs x_.l,.map (some cb),.q aS aV x_.b9],U J.bc bi bs x_.l,ak.map dt (Value.int .i64) cb x_.cK,U (ai .i64) aS aV x_.b9]/\VE=lp) (fun K cT=>?_) ?_
 · clear S3;refine cB (fun (bw:Nat) a w=>∃ (jr:aT) (jt:Nat) (pN:eI) (Ep:dD) (m9:Int),Fr ⟨20,[]⟩ [(0,.aK ba),(1,.i m9),(5,.q jr jt pN)] a/\aw W M0 X w [ap.row 3 1 (.q jr jt pN) pN Ep] [ak.rows (ai .i64) Ep pN,ak.cZ ba [.q bi bs x_.l,.map (some cb),.q aS aV x_.b9],U J.bc bi bs x_.l,ak.map dt (Value.int .i64) cb x_.cK,U (ai .i64) aS aV x_.b9]/\J.vu x_ bw pN m9=some VE) F ⟨none,0,[],[],bS,I.cut,hm,h⟩ ?_ ?_
   · rintro a w ⟨jr,jt,pN,Ep,m9,I,hm,h⟩;exact absurd h (by simp [J.vu])
   rintro bw a w ⟨jr,jt,pN,Ep,m9,I,hm,h⟩ K cn;rw [J.vu] at h;refine wp_seq_k fun K dK=>bd [] [(7,.bool (decide (0 <=m9)))] I fun a I=>bn (I.g rfl) h (fun ap0 h=>?_) (fun ap0 h=>?_)
   · refine wp_skip <| dK _ _ <| wp_seq_k fun K cM=>wp_block <| aZ <| aN 2 [] [(15,.q jr jt pN),(16,.i m9)] I fun a I=>gy (cs:=[.i m9]) wn (fU (vs:=[(0,.i m9)]) Tryz.underlying22 Tryz.sizeOf3 Tryz.zeroValue3 rfl rfl rfl ⟨⟨(I.g rfl),rfl⟩,trivial⟩ (by kernel_rfl)) I hm rfl rfl fun a aKS w _ I hm=>?_;obtain ⟨Ip,azF,h⟩:=J.aI h;refine iQ (T:=(ai .i64)) (ml:=[m9]) 1 0 0 hm rfl rfl rfl Tryz.underlying22 jb rfl rfl azF rfl rfl ⟨_,_,rfl,rfl,rfl⟩ wn rfl (I.g rfl) (I.g rfl) I rfl rfl fun a ZG aa9 aIJ w I hm=>?_
     refine aN 1 [] [(5,.q ZG aa9 Ip)] I fun a I=>wpList_nil (cM _ _ ?_);refine aZ <| bf 5 [0,2] [(11,.q aS aV x_.b9),(12,.i m9)] [ba,2] (ay (hm.d 2 rfl).2.2 ax) I fun a I=>?_;obtain ⟨gU,Vk,h⟩:=J.aI h;obtain ⟨RF,SS,_,rfl,Sm⟩:=b3 _ (hm.d 5 rfl) Vk;refine bU wn (bI Tryz.underlying22 Tryz.sizeOf3 rfl (I.g rfl) (I.g rfl) RF SS) I rfl rfl fun a I=>bf 2 [0,0] [(1,.i gU)] [bG aS,bH aS+(m9).toNat* 1] (ay Sm ax) I fun a I=>wpList_nil ?_;exact cn _ _ ⟨ZG,aa9,Ip,aIJ,gU,I.cut,hm.eg [0,2,3,4,5],h⟩
   refine wp_exit <| bC (bC (cv ?_));exact cT _ _ ⟨jr,jt,pN,Ep,I.cut,hm,(os h)⟩
 rintro a w ⟨ED,Fy,lp,O_,I,hm,bb⟩;subst VE;have h:=S3;clear S3;refine cc _ _ <| bu [] [(4,.q ED Fy lp)] I fun a I=>wp_ret ?_;obtain rfl:=aC h;refine bq Tryz.results105 I rfl ?_;exact ⟨ED,Fy,O_,rfl,hm.aX [0] [0]⟩
theorem acx {W:World} {X:List Nat} {s_:List Int} {r:Unit} {ag:aT} {ah:Nat} {M0:List Nat} (hm:aw W M0 X W [] [U (ai .i64) ag ah s_]) (h:J.I3 s_=some r) :
 Calls Tryz.prog 107 [.q ag ah s_].toArray W (fun e aF=>∃ g:Nat,e= .returned (.func (.func 134) #[] #[.aK g])/\aw W M0 X aF [ap.bm g 22 [.q ag ah s_]] []):=by
 refine enter Tryz.func107 rfl Tryz.ntmps107 rfl fun a I=>?_;clear h;refine wp_seq_k fun K c2=>aZ <| cz (cs:=[.q ag ah s_]) wn (ef rfl rfl (I.g rfl)) I hm rfl rfl fun a fM w _ I hm=>aN 1 [] [] I fun a I=>wpList_nil (c2 _ _ ?_);refine bu [] [(2,.func (.func 134) #[] #[.aK fM])] I fun a I=>wp_ret <| bq Tryz.results107 I rfl ?_;exact ⟨fM,rfl,hm.aX [0] []⟩
theorem acu:aaE Tryz.prog 134 :=by
 intro lM jV A c km L iS a6 hy bJ
 refine ak6 (vs:=[.func (.yield L) #[] #[],.aK km]) Tryz.func134 rfl Tryz.ntmps134 rfl (by rintro w ⟨⟨v,h⟩,_⟩;cases h) ?_
 intro a I
 obtain ⟨W,M0,X,E,hm⟩:=a6 _ _ bJ
 have hlen:jV.length<=maxLen:=by
  obtain ⟨g',dF,bL,b8,dR,_⟩:=(hm.d 1 rfl:(aH (ai .i64)).rd _ _ _ _)
  omega
 refine nn ?_
 intro K c2
 refine pn (by kernel_rfl) ?_
 refine hh 4 [0,1,3] [0,0] (fr':=[(0,.func (.yield L) #[] #[]),(1,.aK km),(3,.i (J.av ((jV.length:Int) - 1)))]) (L:=[km,0]) nK (ay (hm.d 0 rfl).2.2 ax) I (by kernel_rfl) ?_
 intro a I
 rw [ag5 hlen] at I
 refine wpList_nil ?_
 refine c2 _ _ ?_
 refine Y3 ?_
 refine ahf (fun k a w=>∃ (rem:eI),k=rem.length+ 1 /\(∃ pre,jV=rem.reverse++pre)/\Fr ⟨19,[]⟩ [(0,.func (.yield L) #[] #[]),(1,.aK km),(3,.i ((rem.length:Int) - 1))] a/\lM rem w) (jV.length+ 1) ⟨jV.reverse,by simp,⟨[],by simp⟩,by rw [List.length_reverse];exact I,bJ⟩ (by rintro a w ⟨rem,h,_⟩;omega) ?_
 rintro k a w ⟨rem,bh,⟨pre,H6⟩,I,zY⟩ K hz
 refine nn ?_
 intro aKa bO
 refine nn ?_
 intro aKb cc
 refine pn (by kernel_rfl) ?_
 refine hh 2 [0,1,3,8] [] (fr':=[(0,.func (.yield L) #[] #[]),(1,.aK km),(3,.i ((rem.length:Int) - 1)),(8,.bool (decide (0 <=(rem.length:Int) - 1)))]) (L:=[]) nK ax I (by kernel_rfl) ?_
 intro a I
 refine wpList_nil ?_
 refine cc _ _ ?_
 refine Y5 (I.g rfl) (fun aY=>?_) (fun aY=>?_)
 · have aY:=of_decide_eq_true aY
   match rem,aY,H6,I,zY,bh with
   | x::rem,_,H6,I,zY,bh=>
   have aj:=aFC H6
   have e:((x::rem).length:Int) - 1 =(rem.length:Int):=by simp
   rw [e] at I
   refine N_ ?_
   refine bO _ _ ?_
   refine nn ?_
   intro aKc cT
   refine Y3 ?_
   refine nn ?_
   intro aKd cn
   refine aIz fun gw=>?_
   refine aGa 6 (by kernel_rfl) ?_
   obtain ⟨W,M0,X,E,hm⟩:=a6 _ _ zY
   refine hh 4 [0,1,3,11,12,13,14] [0,0] (fr':=[(0,.func (.yield L) #[] #[]),(1,.aK km),(3,.i (rem.length:Int)),(11,.func (.yield L) #[] #[]),(12,.i (rem.length:Int)),(13,.q A c jV),(14,.i (rem.length:Int))]) (L:=[km,0]) nK (ay (hm.d 0 rfl).2.2 ax) I (by kernel_rfl) ?_
   intro a I
   obtain ⟨gf,hi,_,rfl,hc⟩:=b3 _ (hm.d 1 rfl) aj
   refine bU wn (bI Tryz.underlying22 Tryz.sizeOf3 rfl (I.g rfl) (I.g rfl) gf hi) I rfl rfl ?_
   intro a I
   refine hh 1 [0,1,3,11,12,16] [0,0] (fr':=[(0,.func (.yield L) #[] #[]),(1,.aK km),(3,.i (rem.length:Int)),(11,.func (.yield L) #[] #[]),(12,.i (rem.length:Int)),(16,.i x)]) (L:=[bG A,bH A+(rem.length:Int).toNat* 1]) nK (ay hc ax) I (by kernel_rfl) ?_
   intro a I
   refine wpList_nil ?_
   refine aJY (vs:=[.i (rem.length:Int),.i x]) wn rfl (I.g rfl) ⟨I.g rfl,I.g rfl,trivial⟩ (hy x rem _ zY) I rfl rfl ?_
   rintro _ w ⟨rfl,zY⟩
   refine ⟨_,rfl,fun a I=>?_⟩
   refine MY gw (by kernel_rfl) ?_
   refine hh 1 [0,1,3,18] [] (fr':=[(0,.func (.yield L) #[] #[]),(1,.aK km),(3,.i (rem.length:Int)),(18,.bool false)]) (L:=[]) nK ax I (by kernel_rfl) ?_
   intro a I
   refine wpList_nil ?_
   refine cn _ _ ?_
   refine aIy (I.g rfl) rfl ?_
   refine N_ ?_
   refine cT _ _ ?_
   refine pn (by kernel_rfl) ?_
   refine hh 3 [0,1,3] [] (fr':=[(0,.func (.yield L) #[] #[]),(1,.aK km),(3,.i (J.av ((rem.length:Int) - 1)))]) (L:=[]) nK ax I (by kernel_rfl) ?_
   intro a I
   have hle:rem.length<=maxLen:=by
    have:=congrArg List.length H6
    simp at this
    omega
   rw [ag5 hle] at I
   refine wpList_nil ?_
   exact hz _ _ ⟨rem,by simpa using bh,⟨x::pre,by rw [H6];simp⟩,I,zY⟩
 · have aY:=of_decide_eq_false aY
   have bQ:rem= []:=by
    cases rem with
    | nil=>rfl
    | cons x r=>exact absurd aY (by simp)
   subst bQ
   refine Y6 ?_
   refine bC ?_
   refine bC ?_
   refine cv ?_
   refine zF ?_
   refine A8 Tryz.results134 I ?_
   exact ⟨⟨_,rfl⟩,zY⟩
theorem Q' {W:World} {X:List Nat} {F:Nat} {x_:J.dk} {bS:Int} {r:List J.Field} {ba:Nat} {bi:aT} {bs:Nat} {cb:Nat} {aS:aT} {aV:Nat} {M0:List Nat} (hm:aw W M0 X W [] [ak.cZ ba [.q bi bs x_.l,.map (some cb),.q aS aV x_.b9],U J.bc bi bs x_.l,ak.map dt (Value.int .i64) cb x_.cK,U (ai .i64) aS aV x_.b9]) (h:J.yt F x_ bS=some r) :
 Calls Tryz.prog 82 [.aK ba,.i bS].toArray W (fun e aF=>∃ B3:Option Addr,∃ CK:Nat,∃ ahn:List Value,e= .returned (.q B3 CK r)/\aw W M0 X aF [ap.row 105 3 (.q B3 CK r) r ahn] [ak.rows J.aW ahn r]):=by
 refine ac0 Tryz.func82 rfl Tryz.ntmps82 rfl fun a I=>?_;rw [J.yt] at h;refine wp_seq_k fun K c2=>aZ <| cz (cs:=[.aK ba]) wn (ef rfl rfl (I.g rfl)) I hm rfl rfl fun a dh w _ I hm=>aN 1 [] [] I fun a I=>wpList_nil (c2 _ _ ?_);refine wp_seq_k fun K bO=>aZ <| cz (cs:=[.slice none 0 0]) wn (eL Tryz.zeroValue106 rfl rfl) I hm rfl rfl fun a hx w _ I hm=>wpList_nil <| bO _ _ <| wp_seq_k fun K cc=>wp_seq_k fun K cT=>aZ ?_
 refine bf 2 [0,0] [(8,.aK ba),(9,.i bS)] [dh,0] (ay (a1 (hm.e 1 rfl)) ax) I fun a I=>?_;obtain ⟨rQ,UW,h⟩:=J.aI h;have hc:=hm;refine bR (vs:=[.aK ba,.i bS]) wn rfl Tryz.call105 ⟨(I.g rfl),(I.g rfl),trivial⟩ (Q_ ((hc.into 0).pick ⟨⟨0,rfl⟩,⟨1,rfl⟩,⟨2,rfl⟩,⟨3,rfl⟩,trivial⟩) UW) I rfl rfl ?_;rintro _ w ⟨bz,bA,Eo,rfl,af⟩;refine ⟨_,rfl,fun a I=>?_⟩;have hm:=hc.back 0 af;clear af hc;obtain ⟨IQ,UY,h⟩:=J.aI h;have hc:=hm;have az:=hc.freeze 0 0 rfl rfl
 refine bR (vs:=[.q bz bA rQ]) wn rfl Tryz.call107 ⟨(I.g rfl),trivial⟩ (acx ((az.into 0).pick ⟨⟨0,rfl⟩,trivial⟩) UY) I rfl rfl ?_;rintro _ w ⟨cx,rfl,af⟩;refine ⟨_,rfl,fun a I=>?_⟩;have ad:a7 [] _ w:=af.ev;have hm:=hc.fS 0 (by exact trivial) af;clear af hc az;clear ad;refine wpList_nil ?_;have I:=I.cut (l':=[(2,.aK dh),(5,.aK hx),(11,.func (.func 134) #[] #[.aK cx])]);refine cT _ _ <| wp_block ?_;have hm:=hm.freeze 1 0 rfl rfl;have hm:=hm.lR 0 rfl;have hm:=hm.cU (α:=J.Field) 105 3
 have hm:=hm.more (y:=ak.rows J.aW [] []) rfl;obtain ⟨aFU,UE,h⟩:=J.aI h
 refine ach (c:=bA) (A:=bz) (β:=(Option Addr) × (Nat) × (List J.Field) × (List Value)) (l1:=fun _ zb=>[(2,.aK dh),(5,.aK hx),(7,.i zb)]) (fun ((ms,mA,lq,By):(Option Addr) × (Nat) × (List J.Field) × (List Value))=>[ap.row 105 3 (.q ms mA lq) lq By,ap.bm hx 106 [.q ms mA lq],ap.bm dh 118 [.aK ba]]) (fun ((ms,mA,lq,By):(Option Addr) × (Nat) × (List J.Field) × (List Value))=>[ak.rows J.aW By lq,ak.cZ cx [.q bz bA rQ],U (ai .i64) bz bA rQ,ak.cZ ba [.q bi bs x_.l,.map (some cb),.q aS aV x_.b9],U J.bc bi bs x_.l,ak.map dt (Value.int .i64) cb x_.cK,U (ai .i64) aS aV x_.b9]) (fun (NI:eI) ((ms,mA,lq,By):(Option Addr) × (Nat) × (List J.Field) × (List Value))=>J.yu x_ NI lq=some aFU) rQ (none,0,[],[]) 1 2 acu Tryz.call134 I rfl rfl rfl (hm.eg [0,1,2,4,5,6,7]) UE (fun b=>by obtain ⟨_,_,_,_⟩:=b;rfl) (fun b=>by obtain ⟨_,_,_,_⟩:=b;rfl) ?_ ?_ ?_
 · clear h UE hm I;intro L aFA zb w a K I hz;refine pn (by kernel_rfl) <| aN 1 [] [(7,.i zb)] I fun a I=>wpList_nil ?_;exact hz _ I.cut
 · clear h UE hm I;intro L iH qt jL qu b aFA zb NI w a K h I hm hz;obtain ⟨ms,mA,lq,By⟩:=b;dsimp only at h hm;rw [J.yu] at h;refine Y3 <| ahe (m:=11) 9 (a7 []) (by kernel_rfl) rfl (by kernel_rfl) fun w ad=>?_;have hm:=hm.dz ad;clear ad;have a8:=hm;have ar:=a7.refl [] w;refine b7 [0,1,2,3,4,5] 6 [0,0,1,0,2,0] [(14,.q ms mA lq),(18,.q bi bs x_.l),(19,.i zb)] [ba,0,dh,0,hx,0] (fun a5 ad=>(ay (b6 ad (a1 (a8.e 3 rfl))) (ay (b6 ad (a1 (a8.e 4 rfl))) (ay (b6 ad (a8.d 3 rfl).2.2) ax)))) I ar fun a I=>?_;obtain ⟨zf,aE7,h⟩:=J.aI h
   obtain ⟨aog,ay8,_,⟨tq,tW,aaw,ab8,rfl,LZ,ad5⟩,auP⟩:=b3 _ (a8.d 4 rfl) aE7;have a8:=a8.more (y:=U J.aW tq tW zf.Fields) LZ;have hm:=hm.more (y:=U J.aW tq tW zf.Fields) LZ;have a8:=a8.more (y:=U J.b' aaw ab8 zf.aU) ad5;have hm:=hm.more (y:=U J.b' aaw ab8 zf.aU) ad5;refine eM 6 rfl (by kernel_rfl) wn (fun a5=>bI Tryz.underlying25 Tryz.sizeOf136 rfl (I.g rfl) (I.g rfl) aog ay8) ar I rfl rfl fun a I=>?_
   refine b7 [7,8] 2 [0,2] [(22,.q tq tW zf.Fields)] [bG bi,bH bi+(zb).toNat* 4 + 2] (fun a5 ad=>(ay (b6 ad auP) ax)) I ar fun a I=>cy 9 rfl (by kernel_rfl) (fun _=>ar) ?_;obtain ⟨MU,aAf,h⟩:=J.aI h;refine n3 (T:=J.aW) 2 2 1 hm rfl rfl rfl Tryz.underlying106 Vu rfl rfl aAf rfl wn rfl (I.g rfl) (I.g rfl) I rfl rfl fun a ww xy ahS w I hm=>cq ?_;clear a8 ar;have a8:=hm;have ar:=a7.refl [] w;refine dT.next 10 (a7 [] w) (by kernel_rfl) <| cy 10 rfl (by kernel_rfl) (fun _=>ar) ?_
   refine cA (vs:=[.q ww xy MU]) 3 hm rfl wn rfl Tryz.sizeOf106 rfl rfl rfl rfl (I.g rfl) (I.g rfl) rfl fun w hm=>cq ?_;clear a8 ar;have a8:=hm;have ar:=a7.refl [] w;refine dT.next 11 (a7 [] w) (by kernel_rfl) <| eU (by kernel_rfl) ?_ (fun _=>ar);clear a8 ar;have I:=I.cut (l':=[]);exact hz (ww,xy,MU,ahS) _ _ h (hm.eg [0,4,5,6,7,8,9])
 clear hm I;intro aK' b a w UF I hm;obtain ⟨ms,mA,lq,By⟩:=b;dsimp only at UF hm;rw [J.yu] at UF;obtain rfl:=aC UF;have I:=I.cut (l':=[(5,.aK hx)]);refine cc _ _ <| wp_seq_k fun K cn=>rg [0,0] [(4,.q ms mA lq)] [hx,0] (ay (a1 (hm.e 2 rfl)) ax) I fun a I=>cn _ _ <| wp_ret ?_;obtain rfl:=aC h;refine aGf 0 Tryz.results82 I hm rfl rfl fun w hm=>?_;exact ⟨ms,mA,By,rfl,hm.aX [1] [0]⟩
theorem aj6 {W:World} {X:List Nat} {F:Nat} {x_:J.dk} {r:Int} {ba:Nat} {bi:aT} {bs:Nat} {cb:Nat} {aS:aT} {aV:Nat} {M0:List Nat} (hm:aw W M0 X W [] [ak.cZ ba [.q bi bs x_.l,.map (some cb),.q aS aV x_.b9],U J.bc bi bs x_.l,ak.map dt (Value.int .i64) cb x_.cK,U (ai .i64) aS aV x_.b9]) (h:J.MX F x_=some r) :
 Calls Tryz.prog 77 [.aK ba].toArray W (fun e aF=>e= .returned (.i r)/\aw W M0 X aF [] []):=by
 refine enter Tryz.func77 rfl Tryz.ntmps77 rfl fun a I=>?_;rw [J.MX] at h;refine bd [] [] I fun a I=>wp_seq_k fun K bO=>aZ <| bf 4 [0,1] [(8,.map (some cb))] [ba,1] (ay (hm.d 0 rfl).2.2 ax) I fun a I=>bU wn (JR (K:=dt) (ev:=(Value.int .i64)) Tryz.underlying120 Tryz.underlying9 Tryz.zeroValue3 ((hm.d 2 rfl).2.2) rfl (I.g rfl) (c0 _ _)) I rfl rfl fun a I=>aN 1 [] [(3,.i ((J.du x_.cK [69,114,114,111,114]).getD 0))] I fun a I=>wpList_nil (bO _ _ ?_);refine wp_seq_k fun K cc=>aZ ?_
 refine aN 2 [] [(10,.aK ba),(11,.i ((J.du x_.cK [69,114,114,111,114]).getD 0))] I fun a I=>?_;obtain ⟨dJ,AG,h⟩:=J.aI h;have hc:=hm;refine bR (vs:=[.aK ba,.i ((J.du x_.cK [69,114,114,111,114]).getD 0)]) wn rfl Tryz.call82 ⟨(I.g rfl),(I.g rfl),trivial⟩ (Q' ((hc.into 0).pick ⟨⟨0,rfl⟩,⟨1,rfl⟩,⟨2,rfl⟩,⟨3,rfl⟩,trivial⟩) AG) I rfl rfl ?_;rintro _ w ⟨bg,bj,zg,rfl,af⟩;refine ⟨_,rfl,fun a I=>?_⟩;have hm:=hc.back 0 af;clear af hc;refine aN 1 [] [(4,.q bg bj dJ)] I fun a I=>wpList_nil (cc _ _ ?_)
 refine wp_seq_k fun K cT=>wp_seq_k fun K cn=>aZ <| bf 5 [0,0] [(16,.q bi bs x_.l),(17,.i ((J.du x_.cK [69,114,114,111,114]).getD 0))] [ba,0] (ay (hm.d 1 rfl).2.2 ax) I fun a I=>?_;obtain ⟨D',aC2,h⟩:=J.aI h;obtain ⟨al6,aw0,_,⟨e8,fk,c9,dp,rfl,avu,avv⟩,asJ⟩:=b3 _ (hm.d 2 rfl) aC2;have hm:=hm.more (y:=U J.aW e8 fk D'.Fields) avu;have hm:=hm.more (y:=U J.b' c9 dp D'.aU) avv;refine bU wn (bI Tryz.underlying25 Tryz.sizeOf136 rfl (I.g rfl) (I.g rfl) al6 aw0) I rfl rfl fun a I=>?_
 refine bf 9 [0,1,0,0,0,0] [(27,.bool ((!decide (D'.b2= [79,98,106,101,99,116])) || (decide ((dJ.length:Int)= 0))))] [bG bi,bH bi+((J.du x_.cK [69,114,114,111,114]).getD 0).toNat* 4 + 1] (ay asJ ax) I fun a I=>?_;rcases Bool.eq_false_or_eq_true ((!decide (D'.b2= [79,98,106,101,99,116])) || (decide ((dJ.length:Int)= 0))) with Ac | Ac
 · have h:=J.c5 Ac h;have I:=I.b1 27 rfl Ac;refine ek 7 [1,1,1,1,1,1,1] [(34,.bool true)] I fun a I=>wpList_nil (cn _ _ ?_);refine eJ (I.g rfl) rfl <| bu [] [(2,.i 4)] I fun a I=>wp_ret ?_;obtain rfl:=aC h;refine al <| bq Tryz.results77 I rfl ?_;exact ⟨rfl,hm.aX [] []⟩
 have h:=J.c4 Ac h;have I:=I.b1 27 rfl Ac;refine aN 1 [1] [(28,.q bg bj dJ)] I fun a I=>?_;obtain ⟨Y8,aDF,h⟩:=J.aI h;obtain ⟨amH,axz,_,rfl,ate⟩:=gk (hm.e 0 rfl) (hm.d 2 rfl) aDF;refine bU (cS I rfl rfl rfl rfl) (bI Tryz.underlying106 Tryz.sizeOf105 rfl (I.g rfl) (c0 _ _) amH axz) I rfl rfl fun a I=>kH 5 [1,1,1,0,1,1,1] [(34,.bool (!decide (Y8.Kind.Kind= 1)))] [bG bg,bH bg+(0 :Int).toNat* 3 + 1 + 0] (ay ate ax) I fun a I=>wpList_nil (cn _ _ ?_);refine bn (I.g rfl) h (fun Ad h=>?_) (fun Ad h=>?_)
 · refine bu [] [(2,.i 4)] I fun a I=>wp_ret ?_;obtain rfl:=aC h;refine al <| bq Tryz.results77 I rfl ?_;exact ⟨rfl,hm.aX [] []⟩
 refine wp_skip <| cT _ _ <| bu [] [(2,.i 0)] I fun a I=>wp_ret ?_;obtain rfl:=aC h;refine bq Tryz.results77 I rfl ?_;exact ⟨rfl,hm.aX [] []⟩
theorem Ra {W:World} {X:List Nat} {aa:J.Kind} {q1_:List (List UInt8)} {r:List (List UInt8)} {lc:Nat} {aJ:aT} {aQ:Nat} {Py:List Value} {M0:List Nat} (hm:aw W M0 X W [ap.bm lc 125 [.q aJ aQ q1_],ap.row 9 1 (.q aJ aQ q1_) q1_ Py] [ak.rows bF Py q1_]) (h:J.AW aa q1_=some r) :
 Calls Tryz.prog 103 [.agg #[.i aa.Kind,ao aa.aO],.aK lc].toArray W (fun e aF=>∃ cE:Option Addr,∃ cF:Nat,∃ Pf:List Value,e= .returned (.tuple #[])/\aw W M0 X aF [ap.bm lc 125 [.q cE cF r],ap.row 9 1 (.q cE cF r) r Pf] [ak.rows bF Pf r]):=by
 refine enter Tryz.func103 rfl Tryz.ntmps103 rfl fun a I=>?_;rw [J.AW] at h;refine wp_seq_k fun K c2=>aZ <| cz (cs:=[.i aa.Kind,ao aa.aO]) wn (ef rfl rfl (I.g rfl)) I hm rfl rfl fun a LQ w _ I hm=>wpList_nil <| c2 _ _ <| wp_seq_k fun K bO=>eH [0,1] [(5,.bool (!decide (aa.aO= [])))] [LQ,1] (ay (a1 (hm.e 0 rfl)) ax) I fun a I=>bO _ _ <| bn (I.g rfl) h (fun Hs h=>?_) (fun Hs h=>?_)
 · refine aZ <| bf 3 [0,0,1,1] [(6,.q aJ aQ q1_),(8,ao aa.aO)] [LQ,1,lc,0] (ay (a1 (hm.e 1 rfl)) (ay (a1 (hm.e 0 rfl)) ax)) I fun a I=>gy (cs:=[ao aa.aO]) wn (fU (vs:=[(0,ao aa.aO)]) Tryz.underlying125 Tryz.sizeOf9 Tryz.zeroValue9 rfl rfl rfl ⟨⟨(I.g rfl),rfl⟩,trivial⟩ (by kernel_rfl)) I hm rfl rfl fun a hx w _ I hm=>?_;obtain ⟨m6,HW,h⟩:=J.aI h;refine iQ (T:=bF) (ml:=[aa.aO]) 3 0 0 hm rfl rfl rfl Tryz.underlying125 yn rfl rfl HW rfl rfl ⟨_,_,rfl,rfl,rfl⟩ wn rfl (I.g rfl) (I.g rfl) I rfl rfl fun a bz bA Eo w I hm=>?_
   refine cA (vs:=[.q bz bA m6]) 1 hm rfl wn rfl Tryz.sizeOf125 rfl rfl rfl rfl (I.g rfl) (I.g rfl) rfl fun w hm=>wpList_nil ?_;have I:=I.cut (l':=[]);refine zF ?_;obtain rfl:=aC h;refine A8 Tryz.results103 I ?_;exact ⟨bz,bA,Eo,rfl,hm.aX [1,2] [0]⟩
 refine wp_skip <| zF ?_;obtain rfl:=aC h;refine A8 Tryz.results103 I ?_;exact ⟨aJ,aQ,Py,rfl,hm.aX [1,2] [0]⟩
theorem aj' {W:World} {X:List Nat} {F:Nat} {x_:J.dk} {r:Int} {ba:Nat} {bi:aT} {bs:Nat} {cb:Nat} {aS:aT} {aV:Nat} {M0:List Nat} (hm:aw W M0 X W [] [ak.cZ ba [.q bi bs x_.l,.map (some cb),.q aS aV x_.b9],U J.bc bi bs x_.l,ak.map dt (Value.int .i64) cb x_.cK,U (ai .i64) aS aV x_.b9]) (h:J.Ix F x_=some r) :
 Calls Tryz.prog 78 [.aK ba].toArray W (fun e aF=>e= .returned (.i r)/\aw W M0 X aF [] []):=by
 refine enter Tryz.func78 rfl Tryz.ntmps78 rfl fun a I=>?_;rw [J.Ix] at h;refine bd [] [] I fun a I=>wp_seq_k fun K bO=>aZ <| cz (cs:=[.slice none 0 0]) wn (eL Tryz.zeroValue125 rfl rfl) I hm rfl rfl fun a dh w _ I hm=>wpList_nil <| bO _ _ <| bd [] [(4,.func (.func 103) #[] #[.aK dh])] I fun a I=>wp_seq_k fun K cT=>wp_seq_k fun K cn=>eH [0,0] [(23,.q bi bs x_.l),(24,.i (x_.l.length:Int)),(25,.i 0)] [ba,0] (ay (hm.d 0 rfl).2.2 ax) I fun a I=>cn _ _ ?_
 have hm:=hm.cU (α:=List UInt8) 9 1;have hm:=hm.more (y:=ak.rows bF [] []) rfl;obtain ⟨Wp,h,TS⟩:=J.aI h;refine cd (fun a w=>∃ (qJ:aT) (tQ:Nat) (hV:List (List UInt8)) (Bw:dD),Fr ⟨96,[]⟩ [(0,.aK ba),(3,.aK dh)] a/\aw W M0 X w [ap.row 9 1 (.q qJ tQ hV) hV Bw,ap.bm dh 125 [.q qJ tQ hV]] [ak.rows bF Bw hV,ak.cZ ba [.q bi bs x_.l,.map (some cb),.q aS aV x_.b9],U J.bc bi bs x_.l,ak.map dt (Value.int .i64) cb x_.cK,U (ai .i64) aS aV x_.b9]/\Wp=hV) (fun K dK=>?_) ?_
 · clear TS
   refine cB (fun (bw:Nat) a w=>∃ (BT:aT) (CB:Nat) (p2:List (List UInt8)) (Eu:dD) (hY:Int),Fr ⟨96,[]⟩ [(0,.aK ba),(3,.aK dh),(4,.func (.func 103) #[] #[.aK dh]),(23,.q bi bs x_.l),(24,.i (x_.l.length:Int)),(25,.i hY)] a/\aw W M0 X w [ap.row 9 1 (.q BT CB p2) p2 Eu,ap.bm dh 125 [.q BT CB p2]] [ak.rows bF Eu p2,ak.cZ ba [.q bi bs x_.l,.map (some cb),.q aS aV x_.b9],U J.bc bi bs x_.l,ak.map dt (Value.int .i64) cb x_.cK,U (ai .i64) aS aV x_.b9]/\J.vy F x_ bw p2 hY=some Wp) F ⟨none,0,[],[],0,I.cut,hm,h⟩ ?_ ?_
   · rintro a w ⟨BT,CB,p2,Eu,hY,I,hm,h⟩;exact absurd h (by simp [J.vy])
   rintro bw a w ⟨BT,CB,p2,Eu,hY,I,hm,h⟩ K dm;rw [J.vy] at h;refine bd [] [(26,.bool (decide (hY <(x_.l.length:Int))))] I fun a I=>wp_seq_k fun K dj=>bn (I.g rfl) h (fun arJ h=>?_) (fun arJ h=>?_)
   · refine wp_skip <| dj _ _ <| wp_seq_k fun K df=>?_;obtain ⟨afF,h,Ua⟩:=J.aI h
     refine cd (fun a w=>∃ (J9:aT) (KV:Nat) (u6:List (List UInt8)) (Pv:dD),Fr ⟨96,[]⟩ [(0,.aK ba),(3,.aK dh),(4,.func (.func 103) #[] #[.aK dh]),(23,.q bi bs x_.l),(24,.i (x_.l.length:Int)),(25,.i hY)] a/\aw W M0 X w [ap.row 9 1 (.q J9 KV u6) u6 Pv,ap.bm dh 125 [.q J9 KV u6]] [ak.rows bF Pv u6,ak.cZ ba [.q bi bs x_.l,.map (some cb),.q aS aV x_.b9],U J.bc bi bs x_.l,ak.map dt (Value.int .i64) cb x_.cK,U (ai .i64) aS aV x_.b9]/\afF=u6) (fun K dy=>?_) ?_
     · clear Ua;refine wp_seq_k fun K dO=>aZ ?_;obtain ⟨cP,aEC,h⟩:=J.aI h;obtain ⟨anJ,ayy,_,⟨hU,iq,gB,g0,rfl,av8,av9⟩,aue⟩:=b3 _ (hm.d 2 rfl) aEC;have hm:=hm.more (y:=U J.aW hU iq cP.Fields) av8;have hm:=hm.more (y:=U J.b' gB g0 cP.aU) av9;refine bU wn (bI Tryz.underlying25 Tryz.sizeOf136 rfl (I.g rfl) (I.g rfl) anJ ayy) I rfl rfl fun a I=>?_
       refine bf 1 [0,0] [(28,.agg #[ao cP.Name,ao cP.b2,.q hU iq cP.Fields,.q gB g0 cP.aU])] [bG bi,bH bi+(hY).toNat* 4] (ay aue ax) I fun a I=>cz (cs:=[ao [],ao [],.slice none 0 0,.slice none 0 0]) wn (eL Tryz.zeroValue136 rfl rfl) I hm rfl rfl fun a nJ w _ I hm=>cA (vs:=[ao cP.Name,ao cP.b2,.q hU iq cP.Fields,.q gB g0 cP.aU]) 0 hm rfl wn rfl Tryz.sizeOf136 rfl rfl rfl rfl (I.g rfl) (I.g rfl) rfl fun w hm=>wpList_nil <| dO _ _ <| wp_seq_k fun K dS=>?_
       refine wp_seq_k fun K fo=>eH [0,2] [(30,.q hU iq cP.Fields),(31,.i (cP.Fields.length:Int)),(32,.i 0)] [nJ,2] (ay (a1 (hm.e 0 rfl)) ax) I fun a I=>fo _ _ ?_;obtain ⟨WI,h,Ub⟩:=J.aI h
       refine cd (fun a w=>∃ (J_:aT) (KW:Nat) (u7:List (List UInt8)) (Pw:dD),Fr ⟨96,[]⟩ [(0,.aK ba),(3,.aK dh),(4,.func (.func 103) #[] #[.aK dh]),(6,.aK nJ),(23,.q bi bs x_.l),(24,.i (x_.l.length:Int)),(25,.i hY)] a/\aw W M0 X w [ap.bm nJ 136 [ao cP.Name,ao cP.b2,.q hU iq cP.Fields,.q gB g0 cP.aU],ap.row 9 1 (.q J_ KW u7) u7 Pw,ap.bm dh 125 [.q J_ KW u7]] [ak.rows bF Pw u7,U J.b' gB g0 cP.aU,U J.aW hU iq cP.Fields,ak.cZ ba [.q bi bs x_.l,.map (some cb),.q aS aV x_.b9],U J.bc bi bs x_.l,ak.map dt (Value.int .i64) cb x_.cK,U (ai .i64) aS aV x_.b9]/\WI=u7) (fun K fa=>?_) ?_
       · clear Ub
         refine cB (fun (c7:Nat) a w=>∃ (E4:aT) (F1:Nat) (ry:List (List UInt8)) (JL:dD) (pb:Int),Fr ⟨96,[]⟩ [(0,.aK ba),(3,.aK dh),(4,.func (.func 103) #[] #[.aK dh]),(6,.aK nJ),(23,.q bi bs x_.l),(24,.i (x_.l.length:Int)),(25,.i hY),(30,.q hU iq cP.Fields),(31,.i (cP.Fields.length:Int)),(32,.i pb)] a/\aw W M0 X w [ap.bm nJ 136 [ao cP.Name,ao cP.b2,.q hU iq cP.Fields,.q gB g0 cP.aU],ap.row 9 1 (.q E4 F1 ry) ry JL,ap.bm dh 125 [.q E4 F1 ry]] [ak.rows bF JL ry,U J.b' gB g0 cP.aU,U J.aW hU iq cP.Fields,ak.cZ ba [.q bi bs x_.l,.map (some cb),.q aS aV x_.b9],U J.bc bi bs x_.l,ak.map dt (Value.int .i64) cb x_.cK,U (ai .i64) aS aV x_.b9]/\J.vz cP c7 ry pb=some WI) F ⟨BT,CB,p2,Eu,0,I.cut,hm.eg [2,0,1,3,4,5,6],h⟩ ?_ ?_
         · rintro a w ⟨E4,F1,ry,JL,pb,I,hm,h⟩;exact absurd h (by simp [J.vz])
         rintro c7 a w ⟨E4,F1,ry,JL,pb,I,hm,h⟩ K gE;rw [J.vz] at h;refine bd [] [(33,.bool (decide (pb <(cP.Fields.length:Int))))] I fun a I=>wp_seq_k fun K fx=>bn (I.g rfl) h (fun arM h=>?_) (fun arM h=>?_)
         · refine wp_skip <| fx _ _ <| wp_seq_k fun K fN=>wp_block <| wp_seq_k fun K fW=>aZ ?_;obtain ⟨pq,aED,h⟩:=J.aI h;obtain ⟨anK,ayA,_,rfl,auf⟩:=b3 _ (hm.d 2 rfl) aED;refine bU wn (bI Tryz.underlying106 Tryz.sizeOf105 rfl (I.g rfl) (I.g rfl) anK ayA) I rfl rfl fun a I=>bf 1 [0,0] [(35,.agg #[ao pq.Name,.i pq.Kind.Kind,ao pq.Kind.aO])] [bG hU,bH hU+(pb).toNat* 3] (ay auf ax) I fun a I=>cz (cs:=[ao [],.i 0,ao []]) wn (eL Tryz.zeroValue105 rfl rfl) I hm rfl rfl fun a alH w _ I hm=>?_
           refine cA (vs:=[ao pq.Name,.i pq.Kind.Kind,ao pq.Kind.aO]) 0 hm rfl wn rfl Tryz.sizeOf105 rfl rfl rfl rfl (I.g rfl) (I.g rfl) rfl fun w hm=>wpList_nil <| fW _ _ <| aZ <| bf 3 [0,1] [(36,.func (.func 103) #[] #[.aK dh]),(38,.agg #[.i pq.Kind.Kind,ao pq.Kind.aO])] [alH,1] (ay (a1 (hm.e 0 rfl)) ax) I fun a I=>?_;obtain ⟨Yp,aB5,h⟩:=J.aI h;have hc:=hm.k1 [3,2,0,1] rfl rfl
           refine lD (f:=103) (vs:=[.agg #[.i pq.Kind.Kind,ao pq.Kind.aO]]) (us:=[]) (cs:=[.aK dh]) wn rfl Tryz.call103 (I.g rfl) ⟨(I.g rfl),trivial⟩ (Ra ((hc.into 2).pick ⟨⟨0,rfl⟩,trivial⟩) aB5) I rfl rfl ?_;rintro _ w ⟨aij,ajf,aI0,rfl,af⟩;refine ⟨_,rfl,fun a I=>?_⟩;have hm:=hc.back 2 af;clear af hc;refine wpList_nil ?_
           have I:=I.cut (l':=[(0,.aK ba),(3,.aK dh),(4,.func (.func 103) #[] #[.aK dh]),(6,.aK nJ),(23,.q bi bs x_.l),(24,.i (x_.l.length:Int)),(25,.i hY),(30,.q hU iq cP.Fields),(31,.i (cP.Fields.length:Int)),(32,.i pb)]);refine fN _ _ <| cg [] [(32,.i (J.av (pb+ 1)))] I fun a I=>?_;exact gE _ _ ⟨aij,ajf,Yp,aI0,J.av (pb+ 1),I.cut,hm.aX [3,1,0] [0,2,3,4,5,6,7],h⟩
         refine wp_exit <| bC (bC (cv ?_));exact fa _ _ ⟨E4,F1,ry,JL,I.cut,hm,(os h)⟩
       rintro a w ⟨J_,KW,u7,Pw,I,hm,bb⟩;subst WI;have h:=Ub;clear Ub;refine dS _ _ <| wp_seq_k fun K gv=>eH [0,3] [(42,.q gB g0 cP.aU),(43,.i (cP.aU.length:Int)),(44,.i 0)] [nJ,3] (ay (a1 (hm.e 0 rfl)) ax) I fun a I=>gv _ _ ?_;obtain ⟨WK,h,Uf⟩:=J.aI h
       refine cd (fun a w=>∃ (J':aT) (KX:Nat) (u9:List (List UInt8)) (Pz:dD),Fr ⟨96,[]⟩ [(0,.aK ba),(3,.aK dh),(4,.func (.func 103) #[] #[.aK dh]),(23,.q bi bs x_.l),(24,.i (x_.l.length:Int)),(25,.i hY)] a/\aw W M0 X w [ap.bm nJ 136 [ao cP.Name,ao cP.b2,.q hU iq cP.Fields,.q gB g0 cP.aU],ap.row 9 1 (.q J' KX u9) u9 Pz,ap.bm dh 125 [.q J' KX u9]] [ak.rows bF Pz u9,U J.b' gB g0 cP.aU,U J.aW hU iq cP.Fields,ak.cZ ba [.q bi bs x_.l,.map (some cb),.q aS aV x_.b9],U J.bc bi bs x_.l,ak.map dt (Value.int .i64) cb x_.cK,U (ai .i64) aS aV x_.b9]/\WK=u9) (fun K gQ=>?_) ?_
       · clear Uf
         refine cB (fun (eB:Nat) a w=>∃ (BX:aT) (CF:Nat) (p6:List (List UInt8)) (Ex:dD) (jZ:Int),Fr ⟨96,[]⟩ [(0,.aK ba),(3,.aK dh),(4,.func (.func 103) #[] #[.aK dh]),(23,.q bi bs x_.l),(24,.i (x_.l.length:Int)),(25,.i hY),(42,.q gB g0 cP.aU),(43,.i (cP.aU.length:Int)),(44,.i jZ)] a/\aw W M0 X w [ap.bm nJ 136 [ao cP.Name,ao cP.b2,.q hU iq cP.Fields,.q gB g0 cP.aU],ap.row 9 1 (.q BX CF p6) p6 Ex,ap.bm dh 125 [.q BX CF p6]] [ak.rows bF Ex p6,U J.b' gB g0 cP.aU,U J.aW hU iq cP.Fields,ak.cZ ba [.q bi bs x_.l,.map (some cb),.q aS aV x_.b9],U J.bc bi bs x_.l,ak.map dt (Value.int .i64) cb x_.cK,U (ai .i64) aS aV x_.b9]/\J.vA F cP eB p6 jZ=some WK) F ⟨J_,KW,u7,Pw,0,I.cut,hm,h⟩ ?_ ?_
         · rintro a w ⟨BX,CF,p6,Ex,jZ,I,hm,h⟩;exact absurd h (by simp [J.vA])
         rintro eB a w ⟨BX,CF,p6,Ex,jZ,I,hm,h⟩ K hM;rw [J.vA] at h;refine bd [] [(45,.bool (decide (jZ <(cP.aU.length:Int))))] I fun a I=>wp_seq_k fun K hA=>bn (I.g rfl) h (fun arR h=>?_) (fun arR h=>?_)
         · refine wp_skip <| hA _ _ <| wp_seq_k fun K hB=>?_;obtain ⟨afH,h,Ug⟩:=J.aI h
           refine cd (fun a w=>∃ (Ka:aT) (KY:Nat) (u_:List (List UInt8)) (PA:dD),Fr ⟨96,[]⟩ [(0,.aK ba),(3,.aK dh),(4,.func (.func 103) #[] #[.aK dh]),(23,.q bi bs x_.l),(24,.i (x_.l.length:Int)),(25,.i hY),(42,.q gB g0 cP.aU),(43,.i (cP.aU.length:Int)),(44,.i jZ)] a/\aw W M0 X w [ap.bm nJ 136 [ao cP.Name,ao cP.b2,.q hU iq cP.Fields,.q gB g0 cP.aU],ap.row 9 1 (.q Ka KY u_) u_ PA,ap.bm dh 125 [.q Ka KY u_]] [ak.rows bF PA u_,U J.b' gB g0 cP.aU,U J.aW hU iq cP.Fields,ak.cZ ba [.q bi bs x_.l,.map (some cb),.q aS aV x_.b9],U J.bc bi bs x_.l,ak.map dt (Value.int .i64) cb x_.cK,U (ai .i64) aS aV x_.b9]/\afH=u_) (fun K hC=>?_) ?_
           · clear Ug;refine wp_seq_k fun K jM=>aZ ?_;obtain ⟨c1,aEJ,h⟩:=J.aI h;obtain ⟨anP,ayF,_,⟨lJ,nz,lK,nA,rfl,av_,av'⟩,aul⟩:=b3 _ (hm.d 1 rfl) aEJ;have hm:=hm.more (y:=U J.dw lJ nz c1.bK) av_;have hm:=hm.more (y:=U J.er lK nA c1.bN) av';refine bU wn (bI Tryz.underlying134 Tryz.sizeOf133 rfl (I.g rfl) (I.g rfl) anP ayF) I rfl rfl fun a I=>?_
             refine bf 1 [0,0] [(47,.agg #[ao c1.Name,.bool c1.Static,.q lJ nz c1.bK,.i c1.Returns.Kind,ao c1.Returns.aO,.i c1.cY,.i c1.cX,ao c1.Code,.q lK nA c1.bN])] [bG gB,bH gB+(jZ).toNat* 9] (ay aul ax) I fun a I=>cz (cs:=[ao [],.bool false,.slice none 0 0,.i 0,ao [],.i 0,.i 0,ao [],.slice none 0 0]) wn (eL Tryz.zeroValue133 rfl rfl) I hm rfl rfl fun a q' w _ I hm=>?_
             refine cA (vs:=[ao c1.Name,.bool c1.Static,.q lJ nz c1.bK,.i c1.Returns.Kind,ao c1.Returns.aO,.i c1.cY,.i c1.cX,ao c1.Code,.q lK nA c1.bN]) 0 hm rfl wn rfl Tryz.sizeOf133 rfl rfl rfl rfl (I.g rfl) (I.g rfl) rfl fun w hm=>wpList_nil <| jM _ _ <| wp_seq_k fun K jy=>wp_seq_k fun K mI=>eH [0,2] [(49,.q lJ nz c1.bK),(50,.i (c1.bK.length:Int)),(51,.i 0)] [q',2] (ay (a1 (hm.e 0 rfl)) ax) I fun a I=>mI _ _ ?_;obtain ⟨WL,h,Uh⟩:=J.aI h
             refine cd (fun a w=>∃ (Qd:aT) (QT:Nat) (yp:List (List UInt8)) (Zk:dD),Fr ⟨96,[]⟩ [(0,.aK ba),(3,.aK dh),(4,.func (.func 103) #[] #[.aK dh]),(10,.aK q'),(23,.q bi bs x_.l),(24,.i (x_.l.length:Int)),(25,.i hY),(42,.q gB g0 cP.aU),(43,.i (cP.aU.length:Int)),(44,.i jZ)] a/\aw W M0 X w [ap.bm q' 133 [ao c1.Name,.bool c1.Static,.q lJ nz c1.bK,.i c1.Returns.Kind,ao c1.Returns.aO,.i c1.cY,.i c1.cX,ao c1.Code,.q lK nA c1.bN],ap.bm nJ 136 [ao cP.Name,ao cP.b2,.q hU iq cP.Fields,.q gB g0 cP.aU],ap.row 9 1 (.q Qd QT yp) yp Zk,ap.bm dh 125 [.q Qd QT yp]] [ak.rows bF Zk yp,U J.er lK nA c1.bN,U J.dw lJ nz c1.bK,U J.b' gB g0 cP.aU,U J.aW hU iq cP.Fields,ak.cZ ba [.q bi bs x_.l,.map (some cb),.q aS aV x_.b9],U J.bc bi bs x_.l,ak.map dt (Value.int .i64) cb x_.cK,U (ai .i64) aS aV x_.b9]/\WL=yp) (fun K jN=>?_) ?_
             · clear Uh
               refine cB (fun (fB:Nat) a w=>∃ (E5:aT) (F3:Nat) (rz:List (List UInt8)) (JM:dD) (pd:Int),Fr ⟨96,[]⟩ [(0,.aK ba),(3,.aK dh),(4,.func (.func 103) #[] #[.aK dh]),(10,.aK q'),(23,.q bi bs x_.l),(24,.i (x_.l.length:Int)),(25,.i hY),(42,.q gB g0 cP.aU),(43,.i (cP.aU.length:Int)),(44,.i jZ),(49,.q lJ nz c1.bK),(50,.i (c1.bK.length:Int)),(51,.i pd)] a/\aw W M0 X w [ap.bm q' 133 [ao c1.Name,.bool c1.Static,.q lJ nz c1.bK,.i c1.Returns.Kind,ao c1.Returns.aO,.i c1.cY,.i c1.cX,ao c1.Code,.q lK nA c1.bN],ap.bm nJ 136 [ao cP.Name,ao cP.b2,.q hU iq cP.Fields,.q gB g0 cP.aU],ap.row 9 1 (.q E5 F3 rz) rz JM,ap.bm dh 125 [.q E5 F3 rz]] [ak.rows bF JM rz,U J.er lK nA c1.bN,U J.dw lJ nz c1.bK,U J.b' gB g0 cP.aU,U J.aW hU iq cP.Fields,ak.cZ ba [.q bi bs x_.l,.map (some cb),.q aS aV x_.b9],U J.bc bi bs x_.l,ak.map dt (Value.int .i64) cb x_.cK,U (ai .i64) aS aV x_.b9]/\J.vB c1 fB rz pd=some WL) F ⟨BX,CF,p6,Ex,0,I.cut,hm.eg [2,0,1,3,4,5,6,7,8],h⟩ ?_ ?_
               · rintro a w ⟨E5,F3,rz,JM,pd,I,hm,h⟩;exact absurd h (by simp [J.vB])
               rintro fB a w ⟨E5,F3,rz,JM,pd,I,hm,h⟩ K jO;rw [J.vB] at h;refine bd [] [(52,.bool (decide (pd <(c1.bK.length:Int))))] I fun a I=>wp_seq_k fun K ko=>bn (I.g rfl) h (fun arS h=>?_) (fun arS h=>?_)
               · refine wp_skip <| ko _ _ <| wp_seq_k fun K nL=>wp_block <| wp_seq_k fun K oL=>aZ ?_;obtain ⟨r0,aEK,h⟩:=J.aI h;obtain ⟨anQ,ayG,_,rfl,aum⟩:=b3 _ (hm.d 2 rfl) aEK;refine bU wn (bI Tryz.underlying130 Tryz.sizeOf103 rfl (I.g rfl) (I.g rfl) anQ ayG) I rfl rfl fun a I=>bf 1 [0,0] [(54,.agg #[.i r0.Kind,ao r0.aO])] [bG lJ,bH lJ+(pd).toNat* 2] (ay aum ax) I fun a I=>cz (cs:=[.i 0,ao []]) wn (eL Tryz.zeroValue103 rfl rfl) I hm rfl rfl fun a alI w _ I hm=>?_
                 refine cA (vs:=[.i r0.Kind,ao r0.aO]) 0 hm rfl wn rfl Tryz.sizeOf103 rfl rfl rfl rfl (I.g rfl) (I.g rfl) rfl fun w hm=>wpList_nil <| oL _ _ <| aZ <| bf 2 [0,0] [(55,.func (.func 103) #[] #[.aK dh]),(56,.agg #[.i r0.Kind,ao r0.aO])] [alI,0] (ay (a1 (hm.e 0 rfl)) ax) I fun a I=>?_;obtain ⟨Ys,aB_,h⟩:=J.aI h;have hc:=hm.k1 [4,3,0,1,2] rfl rfl
                 refine lD (f:=103) (vs:=[.agg #[.i r0.Kind,ao r0.aO]]) (us:=[]) (cs:=[.aK dh]) wn rfl Tryz.call103 (I.g rfl) ⟨(I.g rfl),trivial⟩ (Ra ((hc.into 2).pick ⟨⟨0,rfl⟩,trivial⟩) aB_) I rfl rfl ?_;rintro _ w ⟨aik,ajg,aI2,rfl,af⟩;refine ⟨_,rfl,fun a I=>?_⟩;have hm:=hc.back 2 af;clear af hc;refine wpList_nil ?_
                 have I:=I.cut (l':=[(0,.aK ba),(3,.aK dh),(4,.func (.func 103) #[] #[.aK dh]),(10,.aK q'),(23,.q bi bs x_.l),(24,.i (x_.l.length:Int)),(25,.i hY),(42,.q gB g0 cP.aU),(43,.i (cP.aU.length:Int)),(44,.i jZ),(49,.q lJ nz c1.bK),(50,.i (c1.bK.length:Int)),(51,.i pd)]);refine nL _ _ <| cg [] [(51,.i (J.av (pd+ 1)))] I fun a I=>?_
                 exact jO _ _ ⟨aik,ajg,Ys,aI2,J.av (pd+ 1),I.cut,hm.aX [3,4,1,0] [0,2,3,4,5,6,7,8,9],h⟩
               refine wp_exit <| bC (bC (cv ?_));exact jN _ _ ⟨E5,F3,rz,JM,I.cut,hm,(os h)⟩
             rintro a w ⟨Qd,QT,yp,Zk,I,hm,bb⟩;subst WL;have h:=Uh;clear Uh;refine jy _ _ <| wp_seq_k fun K lW=>aZ <| bf 3 [0,3] [(59,.func (.func 103) #[] #[.aK dh]),(61,.agg #[.i c1.Returns.Kind,ao c1.Returns.aO])] [q',3] (ay (a1 (hm.e 0 rfl)) ax) I fun a I=>?_;obtain ⟨Yt,aB',h⟩:=J.aI h;have hc:=hm.k1 [3,2,0,1] rfl rfl;refine lD (f:=103) (vs:=[.agg #[.i c1.Returns.Kind,ao c1.Returns.aO]]) (us:=[]) (cs:=[.aK dh]) wn rfl Tryz.call103 (I.g rfl) ⟨(I.g rfl),trivial⟩ (Ra ((hc.into 2).pick ⟨⟨0,rfl⟩,trivial⟩) aB') I rfl rfl ?_;rintro _ w ⟨ail,ajh,aI3,rfl,af⟩;refine ⟨_,rfl,?_⟩
             intro a I;have hm:=hc.back 2 af;clear af hc;refine wpList_nil ?_;have I:=I.cut (l':=[(0,.aK ba),(3,.aK dh),(4,.func (.func 103) #[] #[.aK dh]),(10,.aK q'),(23,.q bi bs x_.l),(24,.i (x_.l.length:Int)),(25,.i hY),(42,.q gB g0 cP.aU),(43,.i (cP.aU.length:Int)),(44,.i jZ)]);refine lW _ _ <| wp_seq_k fun K oM=>?_
             refine eH [0,8] [(64,.q lK nA c1.bN),(65,.i (c1.bN.length:Int)),(66,.i 0)] [q',8] (ay (a1 (hm.e 2 rfl)) ax) I fun a I=>oM _ _ ?_;obtain ⟨WM,h,Ui⟩:=J.aI h
             refine cd (fun a w=>∃ (Kb:aT) (KZ:Nat) (u':List (List UInt8)) (PB:dD),Fr ⟨96,[]⟩ [(0,.aK ba),(3,.aK dh),(4,.func (.func 103) #[] #[.aK dh]),(23,.q bi bs x_.l),(24,.i (x_.l.length:Int)),(25,.i hY),(42,.q gB g0 cP.aU),(43,.i (cP.aU.length:Int)),(44,.i jZ)] a/\aw W M0 X w [ap.bm dh 125 [.q Kb KZ u'],ap.row 9 1 (.q Kb KZ u') u' PB,ap.bm q' 133 [ao c1.Name,.bool c1.Static,.q lJ nz c1.bK,.i c1.Returns.Kind,ao c1.Returns.aO,.i c1.cY,.i c1.cX,ao c1.Code,.q lK nA c1.bN],ap.bm nJ 136 [ao cP.Name,ao cP.b2,.q hU iq cP.Fields,.q gB g0 cP.aU]] [ak.rows bF PB u',U J.er lK nA c1.bN,U J.dw lJ nz c1.bK,U J.b' gB g0 cP.aU,U J.aW hU iq cP.Fields,ak.cZ ba [.q bi bs x_.l,.map (some cb),.q aS aV x_.b9],U J.bc bi bs x_.l,ak.map dt (Value.int .i64) cb x_.cK,U (ai .i64) aS aV x_.b9]/\WM=u') (fun K lX=>?_) ?_
             · clear Ui
               refine cB (fun (h8:Nat) a w=>∃ (BZ:aT) (CG:Nat) (p7:List (List UInt8)) (JN:dD) (pf:Int),Fr ⟨96,[]⟩ [(0,.aK ba),(3,.aK dh),(4,.func (.func 103) #[] #[.aK dh]),(23,.q bi bs x_.l),(24,.i (x_.l.length:Int)),(25,.i hY),(42,.q gB g0 cP.aU),(43,.i (cP.aU.length:Int)),(44,.i jZ),(64,.q lK nA c1.bN),(65,.i (c1.bN.length:Int)),(66,.i pf)] a/\aw W M0 X w [ap.bm dh 125 [.q BZ CG p7],ap.row 9 1 (.q BZ CG p7) p7 JN,ap.bm q' 133 [ao c1.Name,.bool c1.Static,.q lJ nz c1.bK,.i c1.Returns.Kind,ao c1.Returns.aO,.i c1.cY,.i c1.cX,ao c1.Code,.q lK nA c1.bN],ap.bm nJ 136 [ao cP.Name,ao cP.b2,.q hU iq cP.Fields,.q gB g0 cP.aU]] [ak.rows bF JN p7,U J.er lK nA c1.bN,U J.dw lJ nz c1.bK,U J.b' gB g0 cP.aU,U J.aW hU iq cP.Fields,ak.cZ ba [.q bi bs x_.l,.map (some cb),.q aS aV x_.b9],U J.bc bi bs x_.l,ak.map dt (Value.int .i64) cb x_.cK,U (ai .i64) aS aV x_.b9]/\J.vC c1 h8 p7 pf=some WM) F ⟨ail,ajh,Yt,aI3,0,I.cut,hm.eg [0,2,3,4,5,6,7,8,9],h⟩ ?_ ?_
               · rintro a w ⟨BZ,CG,p7,JN,pf,I,hm,h⟩;exact absurd h (by simp [J.vC])
               rintro h8 a w ⟨BZ,CG,p7,JN,pf,I,hm,h⟩ K mJ;rw [J.vC] at h;refine bd [] [(67,.bool (decide (pf <(c1.bN.length:Int))))] I fun a I=>wp_seq_k fun K zZ=>bn (I.g rfl) h (fun arT h=>?_) (fun arT h=>?_)
               · refine wp_skip <| zZ _ _ <| wp_seq_k fun K mK=>wp_block <| wp_seq_k fun K uf=>aZ ?_;obtain ⟨n',aEL,h⟩:=J.aI h;obtain ⟨anR,ayH,_,rfl,aun⟩:=b3 _ (hm.d 1 rfl) aEL;refine bU wn (bI Tryz.underlying131 Tryz.sizeOf150 rfl (I.g rfl) (I.g rfl) anR ayH) I rfl rfl fun a I=>bf 1 [0,0] [(69,.agg #[.i n'.From,.i n'.To,.i n'.gY,ao n'.aO])] [bG lK,bH lK+(pf).toNat* 4] (ay aun ax) I fun a I=>cz (cs:=[.i 0,.i 0,.i 0,ao []]) wn (eL Tryz.zeroValue150 rfl rfl) I hm rfl rfl fun a alJ w _ I hm=>?_
                 refine cA (vs:=[.i n'.From,.i n'.To,.i n'.gY,ao n'.aO]) 0 hm rfl wn rfl Tryz.sizeOf150 rfl rfl rfl rfl (I.g rfl) (I.g rfl) rfl fun w hm=>wpList_nil <| uf _ _ <| aZ <| bf 3 [0,0,1,3] [(70,.q BZ CG p7),(72,ao n'.aO)] [alJ,3,dh,0] (ay (a1 (hm.e 1 rfl)) (ay (a1 (hm.e 0 rfl)) ax)) I fun a I=>gy (cs:=[ao n'.aO]) wn (fU (vs:=[(0,ao n'.aO)]) Tryz.underlying125 Tryz.sizeOf9 Tryz.zeroValue9 rfl rfl rfl ⟨⟨(I.g rfl),rfl⟩,trivial⟩ (by kernel_rfl)) I hm rfl rfl fun a aK5 w _ I hm=>?_
                 obtain ⟨MO,az6,h⟩:=J.aI h;refine iQ (T:=bF) (ml:=[n'.aO]) 3 0 0 hm rfl rfl rfl Tryz.underlying125 yn rfl rfl az6 rfl rfl ⟨_,_,rfl,rfl,rfl⟩ wn rfl (I.g rfl) (I.g rfl) I rfl rfl fun a aag abN aI4 w I hm=>cA (vs:=[.q aag abN MO]) 1 hm rfl wn rfl Tryz.sizeOf125 rfl rfl rfl rfl (I.g rfl) (I.g rfl) rfl fun w hm=>wpList_nil ?_
                 have I:=I.cut (l':=[(0,.aK ba),(3,.aK dh),(4,.func (.func 103) #[] #[.aK dh]),(23,.q bi bs x_.l),(24,.i (x_.l.length:Int)),(25,.i hY),(42,.q gB g0 cP.aU),(43,.i (cP.aU.length:Int)),(44,.i jZ),(64,.q lK nA c1.bN),(65,.i (c1.bN.length:Int)),(66,.i pf)]);refine mK _ _ <| cg [] [(66,.i (J.av (pf+ 1)))] I fun a I=>?_
                 exact mJ _ _ ⟨aag,abN,MO,aI4,J.av (pf+ 1),I.cut,hm.aX [1,2,3,4] [0,2,3,4,5,6,7,8,9],h⟩
               refine wp_exit <| bC (bC (cv ?_));exact lX _ _ ⟨BZ,CG,p7,JN,I.cut,hm,(os h)⟩
             rintro a w ⟨Kb,KZ,u',PB,I,hm,bb⟩;subst WM;have h:=Ui;clear Ui;exact hC _ _ ⟨Kb,KZ,u',PB,I.cut,hm.aX [3,1,0] [0,3,4,5,6,7,8],(os h)⟩
           rintro a w ⟨Ka,KY,u_,PA,I,hm,bb⟩;subst afH;have h:=Ug;clear Ug;refine hB _ _ <| cg [] [(44,.i (J.av (jZ+ 1)))] I fun a I=>?_;exact hM _ _ ⟨Ka,KY,u_,PA,J.av (jZ+ 1),I.cut,hm,h⟩
         refine wp_exit <| bC (bC (cv ?_));exact gQ _ _ ⟨BX,CF,p6,Ex,I.cut,hm,(os h)⟩
       rintro a w ⟨J',KX,u9,Pz,I,hm,bb⟩;subst WK;have h:=Uf;clear Uf;exact dy _ _ ⟨J',KX,u9,Pz,I.cut,hm.aX [1,2] [0,3,4,5,6],(os h)⟩
     rintro a w ⟨J9,KV,u6,Pv,I,hm,bb⟩;subst afF;have h:=Ua;clear Ua;refine df _ _ <| cg [] [(25,.i (J.av (hY+ 1)))] I fun a I=>?_;exact dm _ _ ⟨J9,KV,u6,Pv,J.av (hY+ 1),I.cut,hm,h⟩
   refine wp_exit <| bC (bC (cv ?_));exact dK _ _ ⟨BT,CB,p2,Eu,I.cut,hm,(os h)⟩
 rintro a w ⟨qJ,tQ,hV,Bw,I,hm,bb⟩;subst Wp;have h:=TS;clear TS;refine cT _ _ <| wp_seq_k fun K rb=>wp_seq_k fun K oN=>eH [0,0] [(78,.q qJ tQ hV),(79,.i (hV.length:Int)),(80,.i 0)] [dh,0] (ay (a1 (hm.e 1 rfl)) ax) I fun a I=>oN _ _ ?_;obtain ⟨WN,h,Uj⟩:=J.ei h
 refine cd (fun a w=>Fr ⟨96,[]⟩ [] a/\aw W M0 X w [ap.row 9 1 (.q qJ tQ hV) hV Bw,ap.bm dh 125 [.q qJ tQ hV]] [ak.rows bF Bw hV,ak.cZ ba [.q bi bs x_.l,.map (some cb),.q aS aV x_.b9],U J.bc bi bs x_.l,ak.map dt (Value.int .i64) cb x_.cK,U (ai .i64) aS aV x_.b9]/\WN=(.go ())) (fun K oO=>?_) ?_
 · refine cB (fun (jS:Nat) a w=>∃ (qm:Int),Fr ⟨96,[]⟩ [(0,.aK ba),(78,.q qJ tQ hV),(79,.i (hV.length:Int)),(80,.i qm)] a/\aw W M0 X w [ap.row 9 1 (.q qJ tQ hV) hV Bw,ap.bm dh 125 [.q qJ tQ hV]] [ak.rows bF Bw hV,ak.cZ ba [.q bi bs x_.l,.map (some cb),.q aS aV x_.b9],U J.bc bi bs x_.l,ak.map dt (Value.int .i64) cb x_.cK,U (ai .i64) aS aV x_.b9]/\J.yB x_ hV jS qm=some WN) F ⟨0,I.cut,hm,h⟩ ?_ ?_
   · rintro a w ⟨qm,I,hm,h⟩;exact absurd h (by simp [J.yB])
   rintro jS a w ⟨qm,I,hm,h⟩ K mL;rw [J.yB] at h;refine bd [] [(81,.bool (decide (qm <(hV.length:Int))))] I fun a I=>wp_seq_k fun K ug=>bn (I.g rfl) h (fun arU h=>?_) (fun arU h=>?_)
   · refine wp_skip <| ug _ _ <| wp_seq_k fun K uh=>wp_block <| wp_seq_k fun K sD=>aZ ?_;obtain ⟨Ej,aEM,h⟩:=J.aI h;obtain ⟨anS,ayI,_,rfl,auo⟩:=gk (hm.e 0 rfl) (hm.d 0 rfl) aEM;refine bU wn (bI Tryz.underlying125 Tryz.sizeOf9 rfl (I.g rfl) (I.g rfl) anS ayI) I rfl rfl fun a I=>bf 2 [0,0] [(16,ao Ej)] [bG qJ,bH qJ+(qm).toNat* 1] (ay auo ax) I fun a I=>wpList_nil (sD _ _ ?_);refine wp_seq_k fun K ui=>aZ <| bf 5 [0,1] [(88,.map (some cb)),(89,ao Ej)] [ba,1] (ay (hm.d 1 rfl).2.2 ax) I fun a I=>?_
     refine bU wn (JS (K:=dt) (ev:=(Value.int .i64)) Tryz.underlying120 Tryz.underlying9 Tryz.zeroValue3 ((hm.d 3 rfl).2.2) rfl (I.g rfl) (I.g rfl)) I rfl rfl fun a I=>aN 5 [] [(18,.bool ((J.du x_.cK Ej).isSome))] I fun a I=>wpList_nil (ui _ _ ?_);refine bd [] [(94,.bool (!((J.du x_.cK Ej).isSome)))] I fun a I=>bn (I.g rfl) h (fun arV h=>?_) (fun arV h=>?_)
     · refine bu [] [(2,.i 5)] I fun a I=>wp_ret ?_;obtain rfl:=aC h;obtain rfl:=aC Uj;refine a' (al (al (a' (al (al ?_)))));refine bq Tryz.results78 I rfl ?_;exact ⟨rfl,hm.aX [] []⟩
     refine wp_skip <| uh _ _ <| cg [] [(80,.i (J.av (qm+ 1)))] I fun a I=>?_;exact mL _ _ ⟨J.av (qm+ 1),I.cut,hm,h⟩
   refine wp_exit <| bC (bC (cv ?_));exact oO _ _ ⟨I.cut,hm,(os h)⟩
 rintro a w ⟨I,hm,bb⟩;subst WN;have h:=Uj;clear Uj;dsimp only [J.ec] at h;refine rb _ _ <| bu [] [(2,.i 0)] I fun a I=>wp_ret ?_;obtain rfl:=aC h;refine bq Tryz.results78 I rfl ?_;exact ⟨rfl,hm.aX [] []⟩
theorem acw {W:World} {X:List Nat} {F:Nat} {aL:List (List UInt8)} {r:Bool} {ag:aT} {ah:Nat} {M0:List Nat} (hm:aw W M0 X W [] [U bF ag ah aL]) (h:J.Dz F aL=some r) :
 Calls Tryz.prog 104 [.q ag ah aL].toArray W (fun e aF=>e= .returned (.bool r)/\aw W M0 X aF [] []):=by
 refine enter Tryz.func104 rfl Tryz.ntmps104 rfl fun a I=>?_;rw [J.Dz] at h;refine bd [] [] I fun a I=>wp_seq_k fun K bO=>aZ <| M7 (κ:=List UInt8) (β:=Bool) dt Value.bool wn rfl I hm rfl rfl fun a fM w _ I hm=>aN 1 [] [(3,.map (some fM))] I fun a I=>wpList_nil (bO _ _ ?_);refine wp_seq_k fun K cc=>bd [] [(7,.q ag ah aL),(8,.i (aL.length:Int)),(9,.i 0)] I fun a I=>?_;obtain ⟨V9,h,Ty⟩:=J.aI h
 refine cd (fun a w=>∃ (DA:List ((List UInt8) × Bool)),Fr ⟨21,[]⟩ [(0,.q ag ah aL),(3,.map (some fM))] a/\aw W M0 X w [ap.map dt Value.bool fM DA] [U bF ag ah aL]/\V9=DA) (fun K cn=>?_) ?_
 · clear Ty;refine cB (fun (bw:Nat) a w=>∃ (vD:List ((List UInt8) × Bool)) (qi:Int),Fr ⟨21,[]⟩ [(0,.q ag ah aL),(3,.map (some fM)),(7,.q ag ah aL),(8,.i (aL.length:Int)),(9,.i qi)] a/\aw W M0 X w [ap.map dt Value.bool fM vD] [U bF ag ah aL]/\J.yC aL bw vD qi=some V9) F ⟨[],0,I.cut,hm,h⟩ ?_ ?_
   · rintro a w ⟨vD,qi,I,hm,h⟩;exact absurd h (by simp [J.yC])
   rintro bw a w ⟨vD,qi,I,hm,h⟩ K dK;rw [J.yC] at h;refine bd [] [(10,.bool (decide (qi <(aL.length:Int))))] I fun a I=>wp_seq_k fun K cM=>bn (I.g rfl) h (fun R' h=>?_) (fun R' h=>?_)
   · refine wp_skip <| cM _ _ <| wp_seq_k fun K dj=>wp_block <| wp_seq_k fun K df=>aZ ?_;obtain ⟨Js,aEs,h⟩:=J.aI h;obtain ⟨anC,ayt,_,rfl,aub⟩:=b3 _ (hm.d 0 rfl) aEs;refine bU wn (bI Tryz.underlying125 Tryz.sizeOf9 rfl (I.g rfl) (I.g rfl) anC ayt) I rfl rfl fun a I=>bf 2 [0,0] [(5,ao Js)] [bG ag,bH ag+(qi).toNat* 1] (ay aub ax) I fun a I=>wpList_nil (df _ _ ?_);refine aZ <| aN 2 [] [(13,.map (some fM)),(14,ao Js)] I fun a I=>NY (K:=dt) (ev:=Value.bool) 0 hm rfl wn Tryz.underlying178 Tryz.underlying9 (.inl rfl) (I.g rfl) (I.g rfl) (c0 _ _) rfl fun w hm=>wpList_nil ?_
     refine dj _ _ <| cg [] [(9,.i (J.av (qi+ 1)))] I fun a I=>?_;exact dK _ _ ⟨J.hO vD Js true,J.av (qi+ 1),I.cut,hm,h⟩
   refine wp_exit <| bC (bC (cv ?_));exact cn _ _ ⟨vD,I.cut,hm,(os h)⟩
 rintro a w ⟨DA,I,hm,bb⟩;subst V9;have h:=Ty;clear Ty;refine cc _ _ <| wp_seq_k fun K dy=>aZ <| aN 1 [] [(16,.map (some fM))] I fun a I=>bU wn (Zo (K:=dt) (ev:=Value.bool) Tryz.underlying178 ((hm.e 0 rfl)) rfl (I.g rfl)) I rfl rfl fun a I=>ek 4 [] [(2,.bool (decide ((DA.length:Int) <(aL.length:Int))))] I fun a I=>wpList_nil (dy _ _ ?_);refine wp_ret ?_;obtain rfl:=aC h;refine bq Tryz.results104 I rfl ?_;exact ⟨rfl,hm.aX [] []⟩
theorem aj9 {W:World} {X:List Nat} {F:Nat} {x_:J.dk} {r:Int} {ba:Nat} {bi:aT} {bs:Nat} {cb:Nat} {aS:aT} {aV:Nat} {M0:List Nat} (hm:aw W M0 X W [] [ak.cZ ba [.q bi bs x_.l,.map (some cb),.q aS aV x_.b9],U J.bc bi bs x_.l,ak.map dt (Value.int .i64) cb x_.cK,U (ai .i64) aS aV x_.b9]) (h:J.Iv F x_=some r) :
 Calls Tryz.prog 79 [.aK ba].toArray W (fun e aF=>e= .returned (.i r)/\aw W M0 X aF [] []):=by
 refine enter Tryz.func79 rfl Tryz.ntmps79 rfl fun a I=>?_;rw [J.Iv] at h;refine bd [] [] I fun a I=>wp_seq_k fun K bO=>wp_seq_k fun K cc=>eH [0,0] [(14,.q bi bs x_.l),(15,.i (x_.l.length:Int)),(16,.i 0)] [ba,0] (ay (hm.d 0 rfl).2.2 ax) I fun a I=>cc _ _ ?_;obtain ⟨V5,h,L6⟩:=J.ei h
 refine cd (fun a w=>Fr ⟨55,[]⟩ [] a/\aw W M0 X w [] [ak.cZ ba [.q bi bs x_.l,.map (some cb),.q aS aV x_.b9],U J.bc bi bs x_.l,ak.map dt (Value.int .i64) cb x_.cK,U (ai .i64) aS aV x_.b9]/\V5=(.go ())) (fun K cT=>?_) ?_
 · refine cB (fun (bw:Nat) a w=>∃ (jf:Int),Fr ⟨55,[]⟩ [(0,.aK ba),(14,.q bi bs x_.l),(15,.i (x_.l.length:Int)),(16,.i jf)] a/\aw W M0 X w [] [ak.cZ ba [.q bi bs x_.l,.map (some cb),.q aS aV x_.b9],U J.bc bi bs x_.l,ak.map dt (Value.int .i64) cb x_.cK,U (ai .i64) aS aV x_.b9]/\J.yy F x_ bw jf=some V5) F ⟨0,I.cut,hm,h⟩ ?_ ?_
   · rintro a w ⟨jf,I,hm,h⟩;exact absurd h (by simp [J.yy])
   rintro bw a w ⟨jf,I,hm,h⟩ K cn;rw [J.yy] at h;refine bd [] [(17,.bool (decide (jf <(x_.l.length:Int))))] I fun a I=>wp_seq_k fun K dm=>bn (I.g rfl) h (fun arf h=>?_) (fun arf h=>?_)
   · refine wp_skip <| dm _ _ <| wp_seq_k fun K cM=>?_;obtain ⟨afz,h,Ma⟩:=J.e3 h;refine cd (fun a w=>Fr ⟨55,[]⟩ [(0,.aK ba),(14,.q bi bs x_.l),(15,.i (x_.l.length:Int)),(16,.i jf)] a/\aw W M0 X w [] [ak.cZ ba [.q bi bs x_.l,.map (some cb),.q aS aV x_.b9],U J.bc bi bs x_.l,ak.map dt (Value.int .i64) cb x_.cK,U (ai .i64) aS aV x_.b9]/\afz=(.go ())) (fun K dj=>?_) ?_
     · refine wp_seq_k fun K df=>aZ <| aN 1 [] [(18,.i jf)] I fun a I=>?_;obtain ⟨fg,aEl,h⟩:=J.aI h;obtain ⟨anr,ayi,_,⟨qK,q1,mr,oH,rfl,avU,avV⟩,atZ⟩:=b3 _ (hm.d 1 rfl) aEl;have hm:=hm.more (y:=U J.aW qK q1 fg.Fields) avU;have hm:=hm.more (y:=U J.b' mr oH fg.aU) avV;refine bU wn (bI Tryz.underlying25 Tryz.sizeOf136 rfl (I.g rfl) (I.g rfl) anr ayi) I rfl rfl fun a I=>?_
       refine bf 1 [0,0] [(20,.agg #[ao fg.Name,ao fg.b2,.q qK q1 fg.Fields,.q mr oH fg.aU])] [bG bi,bH bi+(jf).toNat* 4] (ay atZ ax) I fun a I=>cz (cs:=[ao [],ao [],.slice none 0 0,.slice none 0 0]) wn (eL Tryz.zeroValue136 rfl rfl) I hm rfl rfl fun a zU w _ I hm=>aN 1 [] [(3,.i jf)] I fun a I=>cA (vs:=[ao fg.Name,ao fg.b2,.q qK q1 fg.Fields,.q mr oH fg.aU]) 0 hm rfl wn rfl Tryz.sizeOf136 rfl rfl rfl rfl (I.g rfl) (I.g rfl) rfl fun w hm=>wpList_nil ?_
       refine df _ _ <| bd [] [(5,.slice none 0 0),(6,.slice none 0 0)] I fun a I=>wp_seq_k fun K dO=>wp_seq_k fun K dS=>aZ <| aN 2 [] [(21,.aK ba),(22,.i jf)] I fun a I=>?_;obtain ⟨iz,aBK,h⟩:=J.aI h;have hc:=hm;refine bR (vs:=[.aK ba,.i jf]) wn rfl Tryz.call82 ⟨(I.g rfl),(I.g rfl),trivial⟩ (Q' ((hc.into 0).pick ⟨⟨2,rfl⟩,⟨3,rfl⟩,⟨4,rfl⟩,⟨5,rfl⟩,trivial⟩) aBK) I rfl rfl ?_;rintro _ w ⟨zl,FR,zh,rfl,af⟩;refine ⟨_,rfl,fun a I=>?_⟩;have ad:a7 [] _ w:=af.ev;have hm:=hc.back 0 af
       clear af hc;clear ad;refine aN 2 [] [(24,.i (iz.length:Int)),(25,.i 0)] I fun a I=>wpList_nil (dS _ _ ?_);have hm:=hm.cU (α:=List UInt8) 9 1;have hm:=hm.more (y:=ak.rows bF [] []) rfl;obtain ⟨Wu,h,TY⟩:=J.aI h
       refine cd (fun a w=>∃ (tk:aT) (tR:Nat) (kP:List (List UInt8)) (Bx:dD),Fr ⟨55,[]⟩ [(0,.aK ba),(4,.aK zU),(5,.q tk tR kP),(6,.slice none 0 0),(14,.q bi bs x_.l),(15,.i (x_.l.length:Int)),(16,.i jf)] a/\aw W M0 X w [ap.row 9 1 (.q tk tR kP) kP Bx,ap.row 105 3 (.q zl FR iz) iz zh,ap.bm zU 136 [ao fg.Name,ao fg.b2,.q qK q1 fg.Fields,.q mr oH fg.aU]] [ak.rows bF Bx kP,ak.rows J.aW zh iz,U J.b' mr oH fg.aU,U J.aW qK q1 fg.Fields,ak.cZ ba [.q bi bs x_.l,.map (some cb),.q aS aV x_.b9],U J.bc bi bs x_.l,ak.map dt (Value.int .i64) cb x_.cK,U (ai .i64) aS aV x_.b9]/\Wu=kP) (fun K fo=>?_) ?_
       · clear TY
         refine cB (fun (c7:Nat) a w=>∃ (BS:aT) (CA:Nat) (p1:List (List UInt8)) (JJ:dD) (qk:Int),Fr ⟨55,[]⟩ [(0,.aK ba),(4,.aK zU),(5,.q BS CA p1),(6,.slice none 0 0),(14,.q bi bs x_.l),(15,.i (x_.l.length:Int)),(16,.i jf),(23,.q zl FR iz),(24,.i (iz.length:Int)),(25,.i qk)] a/\aw W M0 X w [ap.row 9 1 (.q BS CA p1) p1 JJ,ap.row 105 3 (.q zl FR iz) iz zh,ap.bm zU 136 [ao fg.Name,ao fg.b2,.q qK q1 fg.Fields,.q mr oH fg.aU]] [ak.rows bF JJ p1,ak.rows J.aW zh iz,U J.b' mr oH fg.aU,U J.aW qK q1 fg.Fields,ak.cZ ba [.q bi bs x_.l,.map (some cb),.q aS aV x_.b9],U J.bc bi bs x_.l,ak.map dt (Value.int .i64) cb x_.cK,U (ai .i64) aS aV x_.b9]/\J.vw iz c7 p1 qk=some Wu) F ⟨none,0,[],[],0,I.cut,hm,h⟩ ?_ ?_
         · rintro a w ⟨BS,CA,p1,JJ,qk,I,hm,h⟩;exact absurd h (by simp [J.vw])
         rintro c7 a w ⟨BS,CA,p1,JJ,qk,I,hm,h⟩ K fa;rw [J.vw] at h;refine bd [] [(26,.bool (decide (qk <(iz.length:Int))))] I fun a I=>wp_seq_k fun K hk=>bn (I.g rfl) h (fun aro h=>?_) (fun aro h=>?_)
         · refine wp_skip <| hk _ _ <| wp_seq_k fun K fx=>wp_block <| wp_seq_k fun K fN=>aZ ?_;obtain ⟨qB,aEn,h⟩:=J.aI h;obtain ⟨ant,ayj,_,rfl,at0⟩:=gk (hm.e 1 rfl) (hm.d 1 rfl) aEn;refine bU wn (bI Tryz.underlying106 Tryz.sizeOf105 rfl (I.g rfl) (I.g rfl) ant ayj) I rfl rfl fun a I=>bf 1 [0,0] [(28,.agg #[ao qB.Name,.i qB.Kind.Kind,ao qB.Kind.aO])] [bG zl,bH zl+(qk).toNat* 3] (ay at0 ax) I fun a I=>cz (cs:=[ao [],.i 0,ao []]) wn (eL Tryz.zeroValue105 rfl rfl) I hm rfl rfl fun a alE w _ I hm=>?_
           refine cA (vs:=[ao qB.Name,.i qB.Kind.Kind,ao qB.Kind.aO]) 0 hm rfl wn rfl Tryz.sizeOf105 rfl rfl rfl rfl (I.g rfl) (I.g rfl) rfl fun w hm=>wpList_nil <| fN _ _ <| aZ <| bf 3 [0,0] [(29,.q BS CA p1),(31,ao qB.Name)] [alE,0] (ay (a1 (hm.e 0 rfl)) ax) I fun a I=>gy (cs:=[ao qB.Name]) wn (fU (vs:=[(0,ao qB.Name)]) Tryz.underlying125 Tryz.sizeOf9 Tryz.zeroValue9 rfl rfl rfl ⟨⟨(I.g rfl),rfl⟩,trivial⟩ (by kernel_rfl)) I hm rfl rfl fun a aK2 w _ I hm=>?_;obtain ⟨ML,az2,h⟩:=J.aI h
           refine iQ (T:=bF) (ml:=[qB.Name]) 2 0 0 hm rfl rfl rfl Tryz.underlying125 yn rfl rfl az2 rfl rfl ⟨_,_,rfl,rfl,rfl⟩ wn rfl (I.g rfl) (I.g rfl) I rfl rfl fun a Z_ abG aIX w I hm=>aN 1 [] [(5,.q Z_ abG ML)] I fun a I=>wpList_nil (fx _ _ ?_);refine cg [] [(25,.i (J.av (qk+ 1)))] I fun a I=>?_;exact fa _ _ ⟨Z_,abG,ML,aIX,J.av (qk+ 1),I.cut,hm.aX [1,2,3] [0,2,3,4,5,6,7,8],h⟩
         refine wp_exit <| bC (bC (cv ?_));exact fo _ _ ⟨BS,CA,p1,JJ,I.cut,hm,(os h)⟩
       rintro a w ⟨tk,tR,kP,Bx,I,hm,bb⟩;subst Wu;have h:=TY;clear TY;refine dO _ _ <| wp_seq_k fun K fW=>wp_seq_k fun K gv=>eH [0,3] [(36,.q mr oH fg.aU),(37,.i (fg.aU.length:Int)),(38,.i 0)] [zU,3] (ay (a1 (hm.e 2 rfl)) ax) I fun a I=>gv _ _ ?_;have hm:=hm.cU (α:=List UInt8) 9 1;have hm:=hm.more (y:=ak.rows bF [] []) rfl;obtain ⟨Ww,h,T1⟩:=J.aI h
       refine cd (fun a w=>∃ (EY:aT) (FU:Nat) (sS:List (List UInt8)) (Zj:dD),Fr ⟨55,[]⟩ [(0,.aK ba),(5,.q tk tR kP),(6,.q EY FU sS),(14,.q bi bs x_.l),(15,.i (x_.l.length:Int)),(16,.i jf)] a/\aw W M0 X w [ap.row 9 1 (.q EY FU sS) sS Zj,ap.row 9 1 (.q tk tR kP) kP Bx,ap.row 105 3 (.q zl FR iz) iz zh,ap.bm zU 136 [ao fg.Name,ao fg.b2,.q qK q1 fg.Fields,.q mr oH fg.aU]] [ak.rows bF Zj sS,ak.rows bF Bx kP,ak.rows J.aW zh iz,U J.b' mr oH fg.aU,U J.aW qK q1 fg.Fields,ak.cZ ba [.q bi bs x_.l,.map (some cb),.q aS aV x_.b9],U J.bc bi bs x_.l,ak.map dt (Value.int .i64) cb x_.cK,U (ai .i64) aS aV x_.b9]/\Ww=sS) (fun K gQ=>?_) ?_
       · clear T1
         refine cB (fun (eB:Nat) a w=>∃ (BU:aT) (CC:Nat) (p3:List (List UInt8)) (JK:dD) (ql:Int),Fr ⟨55,[]⟩ [(0,.aK ba),(5,.q tk tR kP),(6,.q BU CC p3),(14,.q bi bs x_.l),(15,.i (x_.l.length:Int)),(16,.i jf),(36,.q mr oH fg.aU),(37,.i (fg.aU.length:Int)),(38,.i ql)] a/\aw W M0 X w [ap.row 9 1 (.q BU CC p3) p3 JK,ap.row 9 1 (.q tk tR kP) kP Bx,ap.row 105 3 (.q zl FR iz) iz zh,ap.bm zU 136 [ao fg.Name,ao fg.b2,.q qK q1 fg.Fields,.q mr oH fg.aU]] [ak.rows bF JK p3,ak.rows bF Bx kP,ak.rows J.aW zh iz,U J.b' mr oH fg.aU,U J.aW qK q1 fg.Fields,ak.cZ ba [.q bi bs x_.l,.map (some cb),.q aS aV x_.b9],U J.bc bi bs x_.l,ak.map dt (Value.int .i64) cb x_.cK,U (ai .i64) aS aV x_.b9]/\J.vx fg eB p3 ql=some Ww) F ⟨none,0,[],[],0,I.cut,hm,h⟩ ?_ ?_
         · rintro a w ⟨BU,CC,p3,JK,ql,I,hm,h⟩;exact absurd h (by simp [J.vx])
         rintro eB a w ⟨BU,CC,p3,JK,ql,I,hm,h⟩ K hM;rw [J.vx] at h;refine bd [] [(39,.bool (decide (ql <(fg.aU.length:Int))))] I fun a I=>wp_seq_k fun K hA=>bn (I.g rfl) h (fun arr h=>?_) (fun arr h=>?_)
         · refine wp_skip <| hA _ _ <| wp_seq_k fun K hB=>wp_block <| wp_seq_k fun K hC=>aZ ?_;obtain ⟨hZ,aEt,h⟩:=J.aI h;obtain ⟨anx,ayo,_,⟨P9,QN,P_,QO,rfl,av0,av1⟩,at5⟩:=b3 _ (hm.d 3 rfl) aEt;have hm:=hm.more (y:=U J.dw P9 QN hZ.bK) av0;have hm:=hm.more (y:=U J.er P_ QO hZ.bN) av1;refine bU wn (bI Tryz.underlying134 Tryz.sizeOf133 rfl (I.g rfl) (I.g rfl) anx ayo) I rfl rfl fun a I=>?_
           refine bf 1 [0,0] [(41,.agg #[ao hZ.Name,.bool hZ.Static,.q P9 QN hZ.bK,.i hZ.Returns.Kind,ao hZ.Returns.aO,.i hZ.cY,.i hZ.cX,ao hZ.Code,.q P_ QO hZ.bN])] [bG mr,bH mr+(ql).toNat* 9] (ay at5 ax) I fun a I=>cz (cs:=[ao [],.bool false,.slice none 0 0,.i 0,ao [],.i 0,.i 0,ao [],.slice none 0 0]) wn (eL Tryz.zeroValue133 rfl rfl) I hm rfl rfl fun a alG w _ I hm=>?_
           refine cA (vs:=[ao hZ.Name,.bool hZ.Static,.q P9 QN hZ.bK,.i hZ.Returns.Kind,ao hZ.Returns.aO,.i hZ.cY,.i hZ.cX,ao hZ.Code,.q P_ QO hZ.bN]) 0 hm rfl wn rfl Tryz.sizeOf133 rfl rfl rfl rfl (I.g rfl) (I.g rfl) rfl fun w hm=>wpList_nil <| hC _ _ <| aZ <| bf 3 [0,0] [(42,.q BU CC p3),(44,ao hZ.Name)] [alG,0] (ay (a1 (hm.e 0 rfl)) ax) I fun a I=>?_
           refine gy (cs:=[ao hZ.Name]) wn (fU (vs:=[(0,ao hZ.Name)]) Tryz.underlying125 Tryz.sizeOf9 Tryz.zeroValue9 rfl rfl rfl ⟨⟨(I.g rfl),rfl⟩,trivial⟩ (by kernel_rfl)) I hm rfl rfl fun a aK3 w _ I hm=>?_;obtain ⟨MN,az3,h⟩:=J.aI h;refine iQ (T:=bF) (ml:=[hZ.Name]) 2 0 2 hm rfl rfl rfl Tryz.underlying125 yn rfl rfl az3 rfl rfl ⟨_,_,rfl,rfl,rfl⟩ wn rfl (I.g rfl) (I.g rfl) I rfl rfl fun a aac abI aIY w I hm=>aN 1 [] [(6,.q aac abI MN)] I fun a I=>wpList_nil (hB _ _ ?_);refine cg [] [(38,.i (J.av (ql+ 1)))] I fun a I=>?_
           exact hM _ _ ⟨aac,abI,MN,aIY,J.av (ql+ 1),I.cut,hm.aX [1,2,3,4] [0,4,5,6,7,8,9,10,11],h⟩
         refine wp_exit <| bC (bC (cv ?_));exact gQ _ _ ⟨BU,CC,p3,JK,I.cut,hm,(os h)⟩
       rintro a w ⟨EY,FU,sS,Zj,I,hm,bb⟩;subst Ww;have h:=T1;clear T1;refine fW _ _ <| wp_seq_k fun K jM=>aZ <| aN 1 [] [(48,.q tk tR kP)] I fun a I=>?_;obtain ⟨NB,aBU,h⟩:=J.aI h;have hc:=hm;have az:=hc.freeze 1 1 rfl rfl;refine bR (vs:=[.q tk tR kP]) wn rfl Tryz.call104 ⟨(I.g rfl),trivial⟩ (acw ((az.into 0).pick ⟨⟨0,rfl⟩,trivial⟩) aBU) I rfl rfl ?_;rintro _ w ⟨rfl,af⟩;refine ⟨_,rfl,fun a I=>?_⟩;have ad:a7 [] _ w:=af.ev;have hm:=hc.fS 0 (by exact trivial) af;clear af hc az;clear ad
       refine aN 1 [] [(50,.bool NB)] I fun a I=>?_;rcases Bool.eq_false_or_eq_true NB with Hm | Hm
       · have h:=J.c5 Hm h;have I:=I.b1 50 rfl Hm;refine aN 3 [1,1,1] [(53,.bool true)] I fun a I=>wpList_nil (jM _ _ ?_);refine eJ (I.g rfl) rfl <| bu [] [(2,.i 6)] I fun a I=>wp_ret ?_;obtain rfl:=aC h;obtain rfl:=aC Ma;obtain rfl:=aC L6;refine a' (al (al (al (a' (al (al ?_))))));refine bq Tryz.results79 I rfl ?_;exact ⟨rfl,hm.aX [] []⟩
       have h:=J.c4 Hm h;have I:=I.b1 50 rfl Hm;refine aN 1 [1] [(51,.q EY FU sS)] I fun a I=>?_;obtain ⟨Yi,aBV,h⟩:=J.aI h;have hc:=hm;have az:=hc.freeze 0 0 rfl rfl;refine bR (vs:=[.q EY FU sS]) (cS I rfl rfl rfl rfl) rfl Tryz.call104 ⟨(I.g rfl),trivial⟩ (acw ((az.into 0).pick ⟨⟨0,rfl⟩,trivial⟩) aBV) I rfl rfl ?_;rintro _ w ⟨rfl,af⟩;refine ⟨_,rfl,fun a I=>?_⟩;have ad:a7 [] _ w:=af.ev;have hm:=hc.fS 0 (by exact trivial) af;clear af hc az;clear ad;refine aN 1 [1] [(53,.bool Yi)] I fun a I=>wpList_nil (jM _ _ ?_)
       refine bn (I.g rfl) h (fun aru h=>?_) (fun aru h=>?_)
       · refine bu [] [(2,.i 6)] I fun a I=>wp_ret ?_;obtain rfl:=aC h;obtain rfl:=aC Ma;obtain rfl:=aC L6;refine a' (al (al (al (a' (al (al ?_))))));refine bq Tryz.results79 I rfl ?_;exact ⟨rfl,hm.aX [] []⟩
       refine wp_skip ?_;exact dj _ _ ⟨I.cut,hm.aX [] [5,6,7,8],(os h)⟩
     rintro a w ⟨I,hm,bb⟩;subst afz;have h:=Ma;clear Ma;dsimp only [J.eV] at h;refine cM _ _ <| cg [] [(16,.i (J.av (jf+ 1)))] I fun a I=>?_;exact cn _ _ ⟨J.av (jf+ 1),I.cut,hm,h⟩
   refine wp_exit <| bC (bC (cv ?_));exact cT _ _ ⟨I.cut,hm,(os h)⟩
 rintro a w ⟨I,hm,bb⟩;subst V5;have h:=L6;clear L6;dsimp only [J.ec] at h;refine bO _ _ <| bu [] [(2,.i 0)] I fun a I=>wp_ret ?_;obtain rfl:=aC h;refine bq Tryz.results79 I rfl ?_;exact ⟨rfl,hm.aX [] []⟩
theorem akm {W:World} {X:List Nat} {F:Nat} {ca:List J.Kind} {cm:List J.Kind} {r:Bool} {ag:aT} {ah:Nat} {aJ:aT} {aQ:Nat} {M0:List Nat} (hm:aw W M0 X W [] [U J.dw ag ah ca,U J.dw aJ aQ cm]) (h:J.I9 F ca cm=some r) :
 Calls Tryz.prog 133 [.q ag ah ca,.q aJ aQ cm].toArray W (fun e aF=>e= .returned (.bool r)/\aw W M0 X aF [] []):=by
 refine enter Tryz.func133 rfl Tryz.ntmps133 rfl fun a I=>?_;rw [J.I9] at h;refine bd [] [] I fun a I=>wp_seq_k fun K bO=>bd [] [(10,.bool (!decide ((ca.length:Int)=(cm.length:Int))))] I fun a I=>bn (I.g rfl) h (fun h7 h=>?_) (fun h7 h=>?_)
 · refine bu [] [(4,.bool false)] I fun a I=>wp_ret ?_;obtain rfl:=aC h;refine al <| bq Tryz.results133 I rfl ?_;exact ⟨rfl,hm.aX [] []⟩
 refine wp_skip <| bO _ _ <| wp_seq_k fun K cn=>bd [] [(12,.i (ca.length:Int)),(13,.i 0)] I fun a I=>?_;obtain ⟨gx,h,gh⟩:=J.ei h;refine cd (fun a w=>Fr ⟨26,[]⟩ [] a/\aw W M0 X w [] [U J.dw ag ah ca,U J.dw aJ aQ cm]/\gx=(.go ())) (fun K dm=>?_) ?_
 · refine cB (fun (bw:Nat) a w=>∃ (ck:Int),Fr ⟨26,[]⟩ [(0,.q ag ah ca),(1,.q aJ aQ cm),(12,.i (ca.length:Int)),(13,.i ck)] a/\aw W M0 X w [] [U J.dw ag ah ca,U J.dw aJ aQ cm]/\J.A' ca cm bw ck=some gx) F ⟨0,I.cut,hm,h⟩ ?_ ?_
   · rintro a w ⟨ck,I,hm,h⟩;exact absurd h (by simp [J.A'])
   rintro bw a w ⟨ck,I,hm,h⟩ K cM;rw [J.A'] at h;refine bd [] [(14,.bool (decide (ck <(ca.length:Int))))] I fun a I=>wp_seq_k fun K df=>bn (I.g rfl) h (fun mN h=>?_) (fun mN h=>?_)
   · refine wp_skip <| df _ _ <| wp_seq_k fun K dy=>wp_block <| bd [] [(5,.i ck)] I fun a I=>wp_seq_k fun K dS=>h5 (by kernel_rfl) (by kernel_rfl) <| dQ 2 [] [(16,.q ag ah ca),(17,.i ck)] [] (fun a5 ad=>ax) I fun a I=>?_;obtain ⟨fi,mX,h⟩:=J.aI h;obtain ⟨mG,mT,_,rfl,mO⟩:=b3 _ (hm.d 0 rfl) mX;refine eK wn (fun a5 ad=>bI Tryz.underlying130 Tryz.sizeOf103 rfl (I.g rfl) (I.g rfl) mG mT) I rfl rfl fun a I=>?_
     refine dQ 3 [0,0] [(19,.agg #[.i fi.Kind,ao fi.aO]),(20,.q aJ aQ cm),(21,.i ck)] [bG ag,bH ag+(ck).toNat* 2] (fun a5 ad=>(ay (b6 ad mO) ax)) I fun a I=>?_;obtain ⟨fs,mY,h⟩:=J.aI h;obtain ⟨mH,mU,_,rfl,mP⟩:=b3 _ (hm.d 1 rfl) mY;refine eK wn (fun a5 ad=>bI Tryz.underlying130 Tryz.sizeOf103 rfl (I.g rfl) (I.g rfl) mH mU) I rfl rfl fun a I=>dQ 1 [0,0] [(23,.agg #[.i fs.Kind,ao fs.aO])] [bG aJ,bH aJ+(ck).toNat* 2] (fun a5 ad=>(ay (b6 ad mP) ax)) I fun a I=>eK wn (fun a5 ad=>Gj (X:=fi) (Y:=fs) rfl (I.g rfl) (I.g rfl)) I rfl rfl fun a I=>wpQuiet_nil fun w ad=>?_
     have hm:=hm.dz ad;clear ad;refine dS _ _ <| bn (I.g rfl) h (fun lj h=>?_) (fun lj h=>?_)
     · refine bu [] [(4,.bool false)] I fun a I=>wp_ret ?_;obtain rfl:=aC h;obtain rfl:=aC gh;refine a' (al (al (a' (al (al ?_)))));refine bq Tryz.results133 I rfl ?_;exact ⟨rfl,hm.aX [] []⟩
     refine wp_skip <| dy _ _ <| cg [] [(13,.i (J.av (ck+ 1)))] I fun a I=>?_;exact cM _ _ ⟨J.av (ck+ 1),I.cut,hm,h⟩
   refine wp_exit <| bC (bC (cv ?_));exact dm _ _ ⟨I.cut,hm,(os h)⟩
 rintro a w ⟨I,hm,bb⟩;subst gx;have h:=gh;clear gh;dsimp only [J.ec] at h;refine cn _ _ <| bu [] [(4,.bool true)] I fun a I=>wp_ret ?_;obtain rfl:=aC h;refine bq Tryz.results133 I rfl ?_;exact ⟨rfl,hm.aX [] []⟩
theorem aj4 {W:World} {X:List Nat} {F:Nat} {a_:J.Method} {b_:J.Method} {r:Bool} {ag:aT} {ah:Nat} {aJ:aT} {aQ:Nat} {aS:aT} {aV:Nat} {bk:aT} {bl:Nat} {M0:List Nat} (hm:aw W M0 X W [] [U J.dw ag ah a_.bK,U J.er aJ aQ a_.bN,U J.dw aS aV b_.bK,U J.er bk bl b_.bN]) (h:J.MV F a_ b_=some r) :
 Calls Tryz.prog 106 [.agg #[ao a_.Name,.bool a_.Static,.q ag ah a_.bK,.i a_.Returns.Kind,ao a_.Returns.aO,.i a_.cY,.i a_.cX,ao a_.Code,.q aJ aQ a_.bN],.agg #[ao b_.Name,.bool b_.Static,.q aS aV b_.bK,.i b_.Returns.Kind,ao b_.Returns.aO,.i b_.cY,.i b_.cX,ao b_.Code,.q bk bl b_.bN]].toArray W (fun e aF=>e= .returned (.bool r)/\aw W M0 X aF [] []):=by
 refine enter Tryz.func106 rfl Tryz.ntmps106 rfl fun a I=>?_;rw [J.MV] at h;refine wp_seq_k fun K c2=>aZ <| cz (cs:=[ao a_.Name,.bool a_.Static,.q ag ah a_.bK,.i a_.Returns.Kind,ao a_.Returns.aO,.i a_.cY,.i a_.cX,ao a_.Code,.q aJ aQ a_.bN]) wn (ef rfl rfl (I.g rfl)) I hm rfl rfl fun a gq w _ I hm=>cz (cs:=[ao b_.Name,.bool b_.Static,.q aS aV b_.bK,.i b_.Returns.Kind,ao b_.Returns.aO,.i b_.cY,.i b_.cX,ao b_.Code,.q bk bl b_.bN]) wn (ef rfl rfl (I.g rfl)) I hm rfl rfl fun a lb w _ I hm=>?_
 refine aN 1 [] [] I fun a I=>wpList_nil (c2 _ _ ?_);refine wp_seq_k fun K bO=>aZ <| bf 9 [0,1,0,0,1,1,0,0] [(13,.bool ((!a_.Static) && (!b_.Static)))] [lb,1,gq,1] (ay (a1 (hm.e 1 rfl)) (ay (a1 (hm.e 0 rfl)) ax)) I fun a I=>?_;rcases Bool.eq_false_or_eq_true ((!a_.Static) && (!b_.Static)) with z_ | z_
 · have h:=J.c5 z_ h;have I:=I.b1 13 rfl z_;refine bf 4 [1,1,0,2,1,1,1,2] [(15,.q ag ah a_.bK),(17,.q aS aV b_.bK)] [lb,2,gq,2] (ay (a1 (hm.e 1 rfl)) (ay (a1 (hm.e 0 rfl)) ax)) I fun a I=>?_;obtain ⟨c8,oU,h⟩:=J.aI h;have hc:=hm;refine bR (vs:=[.q ag ah a_.bK,.q aS aV b_.bK]) (cS I rfl rfl rfl rfl) rfl Tryz.call133 ⟨(I.g rfl),(I.g rfl),trivial⟩ (akm ((hc.into 0).pick ⟨⟨0,rfl⟩,⟨2,rfl⟩,trivial⟩) oU) I rfl rfl ?_;rintro _ w ⟨rfl,af⟩;refine ⟨_,rfl,fun a I=>?_⟩;have hm:=hc.back 0 af;clear af hc
   refine aN 2 [1] [(20,.bool c8)] I fun a I=>?_;rcases Bool.eq_false_or_eq_true c8 with kq | kq
   · have h:=J.c5 kq h;have I:=I.b1 20 rfl kq;refine bf 4 [1,1,0,3,1,1,1,3] [(22,.agg #[.i a_.Returns.Kind,ao a_.Returns.aO]),(24,.agg #[.i b_.Returns.Kind,ao b_.Returns.aO])] [lb,3,gq,3] (ay (a1 (hm.e 1 rfl)) (ay (a1 (hm.e 0 rfl)) ax)) I fun a I=>bU (cS I rfl rfl rfl rfl) (ale (X:=a_.Returns) (Y:=b_.Returns) rfl (I.g rfl) (I.g rfl)) I rfl rfl fun a I=>ek 2 [1] [(4,.bool (decide (a_.Returns=b_.Returns)))] I fun a I=>wpList_nil (bO _ _ ?_);refine wp_ret ?_;obtain rfl:=aC h;refine bq Tryz.results106 I rfl ?_
     exact ⟨rfl,hm.aX [] []⟩
   have h:=J.c4 kq h;have I:=I.b1 20 rfl kq;refine ek 7 [1,1,1,1,1,1] [(4,.bool false)] I fun a I=>wpList_nil (bO _ _ ?_);refine wp_ret ?_;obtain rfl:=aC h;refine bq Tryz.results106 I rfl ?_;exact ⟨rfl,hm.aX [] []⟩
 have h:=J.c4 z_ h;have I:=I.b1 13 rfl z_;refine ek 14 [1,1,1,1,1,1,1,1,1,1,1,1] [(4,.bool false)] I fun a I=>wpList_nil (bO _ _ ?_);refine wp_ret ?_;obtain rfl:=aC h;refine bq Tryz.results106 I rfl ?_;exact ⟨rfl,hm.aX [] []⟩
theorem aj7 {W:World} {X:List Nat} {F:Nat} {x_:J.dk} {r:Int} {ba:Nat} {bi:aT} {bs:Nat} {cb:Nat} {aS:aT} {aV:Nat} {M0:List Nat} (hm:aw W M0 X W [] [ak.cZ ba [.q bi bs x_.l,.map (some cb),.q aS aV x_.b9],U J.bc bi bs x_.l,ak.map dt (Value.int .i64) cb x_.cK,U (ai .i64) aS aV x_.b9]) (h:J.Iu F x_=some r) :
 Calls Tryz.prog 80 [.aK ba].toArray W (fun e aF=>e= .returned (.i r)/\aw W M0 X aF [] []):=by
 refine enter Tryz.func80 rfl Tryz.ntmps80 rfl fun a I=>?_;rw [J.Iu] at h;refine bd [] [] I fun a I=>wp_seq_k fun K bO=>wp_seq_k fun K cc=>eH [0,0] [(14,.q bi bs x_.l),(15,.i (x_.l.length:Int)),(16,.i 0)] [ba,0] (ay (hm.d 0 rfl).2.2 ax) I fun a I=>cc _ _ ?_;obtain ⟨VD,h,S2⟩:=J.ei h
 refine cd (fun a w=>Fr ⟨65,[]⟩ [] a/\aw W M0 X w [] [ak.cZ ba [.q bi bs x_.l,.map (some cb),.q aS aV x_.b9],U J.bc bi bs x_.l,ak.map dt (Value.int .i64) cb x_.cK,U (ai .i64) aS aV x_.b9]/\VD=(.go ())) (fun K cT=>?_) ?_
 · refine cB (fun (bw:Nat) a w=>∃ (hW:Int),Fr ⟨65,[]⟩ [(0,.aK ba),(14,.q bi bs x_.l),(15,.i (x_.l.length:Int)),(16,.i hW)] a/\aw W M0 X w [] [ak.cZ ba [.q bi bs x_.l,.map (some cb),.q aS aV x_.b9],U J.bc bi bs x_.l,ak.map dt (Value.int .i64) cb x_.cK,U (ai .i64) aS aV x_.b9]/\J.yv F x_ bw hW=some VD) F ⟨0,I.cut,hm,h⟩ ?_ ?_
   · rintro a w ⟨hW,I,hm,h⟩;exact absurd h (by simp [J.yv])
   rintro bw a w ⟨hW,I,hm,h⟩ K cn;rw [J.yv] at h;refine bd [] [(17,.bool (decide (hW <(x_.l.length:Int))))] I fun a I=>wp_seq_k fun K dm=>bn (I.g rfl) h (fun aqq h=>?_) (fun aqq h=>?_)
   · refine wp_skip <| dm _ _ <| wp_seq_k fun K cM=>?_;obtain ⟨afl,h,Tm⟩:=J.e3 h;refine cd (fun a w=>Fr ⟨65,[]⟩ [(0,.aK ba),(14,.q bi bs x_.l),(15,.i (x_.l.length:Int)),(16,.i hW)] a/\aw W M0 X w [] [ak.cZ ba [.q bi bs x_.l,.map (some cb),.q aS aV x_.b9],U J.bc bi bs x_.l,ak.map dt (Value.int .i64) cb x_.cK,U (ai .i64) aS aV x_.b9]/\afl=(.go ())) (fun K dj=>?_) ?_
     · refine wp_seq_k fun K df=>aZ <| aN 1 [] [(18,.i hW)] I fun a I=>?_;obtain ⟨dr,aDs,h⟩:=J.aI h;obtain ⟨amt,axk,_,⟨kc,kh,hT,io,rfl,avs,avt⟩,asZ⟩:=b3 _ (hm.d 1 rfl) aDs;have hm:=hm.more (y:=U J.aW kc kh dr.Fields) avs;have hm:=hm.more (y:=U J.b' hT io dr.aU) avt;refine bU wn (bI Tryz.underlying25 Tryz.sizeOf136 rfl (I.g rfl) (I.g rfl) amt axk) I rfl rfl fun a I=>?_
       refine bf 1 [0,0] [(20,.agg #[ao dr.Name,ao dr.b2,.q kc kh dr.Fields,.q hT io dr.aU])] [bG bi,bH bi+(hW).toNat* 4] (ay asZ ax) I fun a I=>cz (cs:=[ao [],ao [],.slice none 0 0,.slice none 0 0]) wn (eL Tryz.zeroValue136 rfl rfl) I hm rfl rfl fun a lU w _ I hm=>aN 1 [] [(3,.i hW)] I fun a I=>cA (vs:=[ao dr.Name,ao dr.b2,.q kc kh dr.Fields,.q hT io dr.aU]) 0 hm rfl wn rfl Tryz.sizeOf136 rfl rfl rfl rfl (I.g rfl) (I.g rfl) rfl fun w hm=>?_
       refine wpList_nil <| df _ _ <| wp_seq_k fun K dy=>aZ <| aN 2 [] [(21,.aK ba),(22,.i hW)] I fun a I=>?_;obtain ⟨ph,aBa,h⟩:=J.aI h;have hc:=hm;refine bR (vs:=[.aK ba,.i hW]) wn rfl Tryz.call105 ⟨(I.g rfl),(I.g rfl),trivial⟩ (Q_ ((hc.into 0).pick ⟨⟨2,rfl⟩,⟨3,rfl⟩,⟨4,rfl⟩,⟨5,rfl⟩,trivial⟩) aBa) I rfl rfl ?_;rintro _ w ⟨wh,xp,aLO,rfl,af⟩;refine ⟨_,rfl,fun a I=>?_⟩;have ad:a7 [] _ w:=af.ev;have hm:=hc.back 0 af;clear af hc
       clear ad;obtain ⟨g5,azN,h⟩:=J.aI h;have hm:=hm.freeze 0 0 rfl rfl;refine aHS (T:=(ai .i64)) (i:=1) (j:=(ph.length:Int)) 0 hm rfl Tryz.underlying22 Tryz.sizeOf3 azN wn rfl (I.g rfl) (.inr ⟨_,rfl,(c0 _ _)⟩) (.inl ⟨rfl,rfl⟩) I rfl rfl fun a k6 mz I hm=>aN 2 [] [(25,.i (g5.length:Int)),(26,.i 0)] I fun a I=>wpList_nil (dy _ _ ?_);obtain ⟨VY,h,Tp⟩:=J.e3 h
       refine cd (fun a w=>Fr ⟨65,[]⟩ [(0,.aK ba),(14,.q bi bs x_.l),(15,.i (x_.l.length:Int)),(16,.i hW)] a/\aw W M0 X w [ap.bm lU 136 [ao dr.Name,ao dr.b2,.q kc kh dr.Fields,.q hT io dr.aU]] [U (ai .i64) k6 mz g5,U (ai .i64) wh xp ph,U J.b' hT io dr.aU,U J.aW kc kh dr.Fields,ak.cZ ba [.q bi bs x_.l,.map (some cb),.q aS aV x_.b9],U J.bc bi bs x_.l,ak.map dt (Value.int .i64) cb x_.cK,U (ai .i64) aS aV x_.b9]/\VY=(.go ())) (fun K dO=>?_) ?_
       · refine cB (fun (c7:Nat) a w=>∃ (kU:Int),Fr ⟨65,[]⟩ [(0,.aK ba),(4,.aK lU),(14,.q bi bs x_.l),(15,.i (x_.l.length:Int)),(16,.i hW),(24,.q k6 mz g5),(25,.i (g5.length:Int)),(26,.i kU)] a/\aw W M0 X w [ap.bm lU 136 [ao dr.Name,ao dr.b2,.q kc kh dr.Fields,.q hT io dr.aU]] [U (ai .i64) k6 mz g5,U (ai .i64) wh xp ph,U J.b' hT io dr.aU,U J.aW kc kh dr.Fields,ak.cZ ba [.q bi bs x_.l,.map (some cb),.q aS aV x_.b9],U J.bc bi bs x_.l,ak.map dt (Value.int .i64) cb x_.cK,U (ai .i64) aS aV x_.b9]/\J.yw F x_ dr g5 c7 kU=some VY) F ⟨0,I.cut,hm.eg [0,1,3,4,5,6,7,8],h⟩ ?_ ?_
         · rintro a w ⟨kU,I,hm,h⟩;exact absurd h (by simp [J.yw])
         rintro c7 a w ⟨kU,I,hm,h⟩ K dS;rw [J.yw] at h;refine bd [] [(27,.bool (decide (kU <(g5.length:Int))))] I fun a I=>wp_seq_k fun K fa=>bn (I.g rfl) h (fun aqw h=>?_) (fun aqw h=>?_)
         · refine wp_skip <| fa _ _ <| wp_seq_k fun K gE=>?_;obtain ⟨afn,h,Tr⟩:=J.e3 h
           refine cd (fun a w=>Fr ⟨65,[]⟩ [(0,.aK ba),(4,.aK lU),(14,.q bi bs x_.l),(15,.i (x_.l.length:Int)),(16,.i hW),(24,.q k6 mz g5),(25,.i (g5.length:Int)),(26,.i kU)] a/\aw W M0 X w [ap.bm lU 136 [ao dr.Name,ao dr.b2,.q kc kh dr.Fields,.q hT io dr.aU]] [U (ai .i64) k6 mz g5,U (ai .i64) wh xp ph,U J.b' hT io dr.aU,U J.aW kc kh dr.Fields,ak.cZ ba [.q bi bs x_.l,.map (some cb),.q aS aV x_.b9],U J.bc bi bs x_.l,ak.map dt (Value.int .i64) cb x_.cK,U (ai .i64) aS aV x_.b9]/\afn=(.go ())) (fun K hk=>?_) ?_
           · refine wp_seq_k fun K fx=>aZ ?_;obtain ⟨po,aDu,h⟩:=J.aI h;obtain ⟨amv,axm,_,rfl,as2⟩:=b3 _ (hm.d 0 rfl) aDu;refine bU wn (bI Tryz.underlying22 Tryz.sizeOf3 rfl (I.g rfl) (I.g rfl) amv axm) I rfl rfl fun a I=>bf 2 [0,0] [(6,.i po)] [bG k6,bH k6+(kU).toNat* 1] (ay as2 ax) I fun a I=>wpList_nil (fx _ _ ?_);refine wp_seq_k fun K fN=>eH [0,3] [(31,.q hT io dr.aU),(32,.i (dr.aU.length:Int)),(33,.i 0)] [lU,3] (ay (a1 (hm.e 0 rfl)) ax) I fun a I=>fN _ _ ?_;obtain ⟨V0,h,Ts⟩:=J.e3 h
             refine cd (fun a w=>Fr ⟨65,[]⟩ [(0,.aK ba),(4,.aK lU),(14,.q bi bs x_.l),(15,.i (x_.l.length:Int)),(16,.i hW),(24,.q k6 mz g5),(25,.i (g5.length:Int)),(26,.i kU)] a/\aw W M0 X w [ap.bm lU 136 [ao dr.Name,ao dr.b2,.q kc kh dr.Fields,.q hT io dr.aU]] [U (ai .i64) k6 mz g5,U (ai .i64) wh xp ph,U J.b' hT io dr.aU,U J.aW kc kh dr.Fields,ak.cZ ba [.q bi bs x_.l,.map (some cb),.q aS aV x_.b9],U J.bc bi bs x_.l,ak.map dt (Value.int .i64) cb x_.cK,U (ai .i64) aS aV x_.b9]/\V0=(.go ())) (fun K fW=>?_) ?_
             · refine cB (fun (eB:Nat) a w=>∃ (na:Int),Fr ⟨65,[]⟩ [(0,.aK ba),(4,.aK lU),(6,.i po),(14,.q bi bs x_.l),(15,.i (x_.l.length:Int)),(16,.i hW),(24,.q k6 mz g5),(25,.i (g5.length:Int)),(26,.i kU),(31,.q hT io dr.aU),(32,.i (dr.aU.length:Int)),(33,.i na)] a/\aw W M0 X w [ap.bm lU 136 [ao dr.Name,ao dr.b2,.q kc kh dr.Fields,.q hT io dr.aU]] [U (ai .i64) k6 mz g5,U (ai .i64) wh xp ph,U J.b' hT io dr.aU,U J.aW kc kh dr.Fields,ak.cZ ba [.q bi bs x_.l,.map (some cb),.q aS aV x_.b9],U J.bc bi bs x_.l,ak.map dt (Value.int .i64) cb x_.cK,U (ai .i64) aS aV x_.b9]/\J.yx F x_ dr po eB na=some V0) F ⟨0,I.cut,hm,h⟩ ?_ ?_
               · rintro a w ⟨na,I,hm,h⟩;exact absurd h (by simp [J.yx])
               rintro eB a w ⟨na,I,hm,h⟩ K gv;rw [J.yx] at h;refine bd [] [(34,.bool (decide (na <(dr.aU.length:Int))))] I fun a I=>wp_seq_k fun K hM=>bn (I.g rfl) h (fun aqy h=>?_) (fun aqy h=>?_)
               · refine wp_skip <| hM _ _ <| wp_seq_k fun K h6=>?_;obtain ⟨afo,h,Tt⟩:=J.e3 h
                 refine cd (fun a w=>Fr ⟨65,[]⟩ [(0,.aK ba),(4,.aK lU),(6,.i po),(14,.q bi bs x_.l),(15,.i (x_.l.length:Int)),(16,.i hW),(24,.q k6 mz g5),(25,.i (g5.length:Int)),(26,.i kU),(31,.q hT io dr.aU),(32,.i (dr.aU.length:Int)),(33,.i na)] a/\aw W M0 X w [ap.bm lU 136 [ao dr.Name,ao dr.b2,.q kc kh dr.Fields,.q hT io dr.aU]] [U (ai .i64) k6 mz g5,U (ai .i64) wh xp ph,U J.b' hT io dr.aU,U J.aW kc kh dr.Fields,ak.cZ ba [.q bi bs x_.l,.map (some cb),.q aS aV x_.b9],U J.bc bi bs x_.l,ak.map dt (Value.int .i64) cb x_.cK,U (ai .i64) aS aV x_.b9]/\afo=(.go ())) (fun K hA=>?_) ?_
                 · refine wp_seq_k fun K hB=>aZ ?_;obtain ⟨dx,aDv,h⟩:=J.aI h;obtain ⟨amw,axn,_,⟨ti,tO,tj,tP,rfl,avw,avx⟩,as3⟩:=b3 _ (hm.d 2 rfl) aDv;have hm:=hm.more (y:=U J.dw ti tO dx.bK) avw;have hm:=hm.more (y:=U J.er tj tP dx.bN) avx;refine bU wn (bI Tryz.underlying134 Tryz.sizeOf133 rfl (I.g rfl) (I.g rfl) amw axn) I rfl rfl fun a I=>?_
                   refine bf 1 [0,0] [(36,.agg #[ao dx.Name,.bool dx.Static,.q ti tO dx.bK,.i dx.Returns.Kind,ao dx.Returns.aO,.i dx.cY,.i dx.cX,ao dx.Code,.q tj tP dx.bN])] [bG hT,bH hT+(na).toNat* 9] (ay as3 ax) I fun a I=>cz (cs:=[ao [],.bool false,.slice none 0 0,.i 0,ao [],.i 0,.i 0,ao [],.slice none 0 0]) wn (eL Tryz.zeroValue133 rfl rfl) I hm rfl rfl fun a Gm w _ I hm=>?_
                   refine cA (vs:=[ao dx.Name,.bool dx.Static,.q ti tO dx.bK,.i dx.Returns.Kind,ao dx.Returns.aO,.i dx.cY,.i dx.cX,ao dx.Code,.q tj tP dx.bN]) 0 hm rfl wn rfl Tryz.sizeOf133 rfl rfl rfl rfl (I.g rfl) (I.g rfl) rfl fun w hm=>wpList_nil <| hB _ _ <| wp_seq_k fun K hC=>aZ <| bf 5 [0,0] [(40,.q bi bs x_.l),(41,.i po)] [ba,0] (ay (hm.d 6 rfl).2.2 ax) I fun a I=>?_;obtain ⟨j',aDw,h⟩:=J.aI h
                   obtain ⟨amx,axo,_,⟨P4,QI,zk,FI,rfl,avy,avz⟩,as4⟩:=b3 _ (hm.d 7 rfl) aDw;have hm:=hm.more (y:=U J.aW P4 QI j'.Fields) avy;have hm:=hm.more (y:=U J.b' zk FI j'.aU) avz;refine bU wn (bI Tryz.underlying25 Tryz.sizeOf136 rfl (I.g rfl) (I.g rfl) amx axo) I rfl rfl fun a I=>bf 4 [0,3] [(44,.q zk FI j'.aU),(45,.i (j'.aU.length:Int)),(46,.i 0)] [bG bi,bH bi+(po).toNat* 4 + 3] (ay as4 ax) I fun a I=>wpList_nil (hC _ _ ?_);obtain ⟨V1,h,Tu⟩:=J.e3 h
                   refine cd (fun a w=>Fr ⟨65,[]⟩ [(0,.aK ba),(4,.aK lU),(6,.i po),(14,.q bi bs x_.l),(15,.i (x_.l.length:Int)),(16,.i hW),(24,.q k6 mz g5),(25,.i (g5.length:Int)),(26,.i kU),(31,.q hT io dr.aU),(32,.i (dr.aU.length:Int)),(33,.i na)] a/\aw W M0 X w [ap.bm Gm 133 [ao dx.Name,.bool dx.Static,.q ti tO dx.bK,.i dx.Returns.Kind,ao dx.Returns.aO,.i dx.cY,.i dx.cX,ao dx.Code,.q tj tP dx.bN],ap.bm lU 136 [ao dr.Name,ao dr.b2,.q kc kh dr.Fields,.q hT io dr.aU]] [U J.b' zk FI j'.aU,U J.aW P4 QI j'.Fields,U J.er tj tP dx.bN,U J.dw ti tO dx.bK,U (ai .i64) k6 mz g5,U (ai .i64) wh xp ph,U J.b' hT io dr.aU,U J.aW kc kh dr.Fields,ak.cZ ba [.q bi bs x_.l,.map (some cb),.q aS aV x_.b9],U J.bc bi bs x_.l,ak.map dt (Value.int .i64) cb x_.cK,U (ai .i64) aS aV x_.b9]/\V1=(.go ())) (fun K jM=>?_) ?_
                   · refine cB (fun (fB:Nat) a w=>∃ (nb:Int),Fr ⟨65,[]⟩ [(0,.aK ba),(4,.aK lU),(6,.i po),(8,.aK Gm),(14,.q bi bs x_.l),(15,.i (x_.l.length:Int)),(16,.i hW),(24,.q k6 mz g5),(25,.i (g5.length:Int)),(26,.i kU),(31,.q hT io dr.aU),(32,.i (dr.aU.length:Int)),(33,.i na),(44,.q zk FI j'.aU),(45,.i (j'.aU.length:Int)),(46,.i nb)] a/\aw W M0 X w [ap.bm Gm 133 [ao dx.Name,.bool dx.Static,.q ti tO dx.bK,.i dx.Returns.Kind,ao dx.Returns.aO,.i dx.cY,.i dx.cX,ao dx.Code,.q tj tP dx.bN],ap.bm lU 136 [ao dr.Name,ao dr.b2,.q kc kh dr.Fields,.q hT io dr.aU]] [U J.b' zk FI j'.aU,U J.aW P4 QI j'.Fields,U J.er tj tP dx.bN,U J.dw ti tO dx.bK,U (ai .i64) k6 mz g5,U (ai .i64) wh xp ph,U J.b' hT io dr.aU,U J.aW kc kh dr.Fields,ak.cZ ba [.q bi bs x_.l,.map (some cb),.q aS aV x_.b9],U J.bc bi bs x_.l,ak.map dt (Value.int .i64) cb x_.cK,U (ai .i64) aS aV x_.b9]/\J.vv F dx j' fB nb=some V1) F ⟨0,I.cut,hm,h⟩ ?_ ?_
                     · rintro a w ⟨nb,I,hm,h⟩;exact absurd h (by simp [J.vv])
                     rintro fB a w ⟨nb,I,hm,h⟩ K jy;rw [J.vv] at h;refine bd [] [(47,.bool (decide (nb <(j'.aU.length:Int))))] I fun a I=>wp_seq_k fun K jN=>bn (I.g rfl) h (fun aqz h=>?_) (fun aqz h=>?_)
                     · refine wp_skip <| jN _ _ <| wp_seq_k fun K jO=>wp_block <| wp_seq_k fun K kn=>aZ ?_;obtain ⟨eT,aDx,h⟩:=J.aI h;obtain ⟨amy,axp,_,⟨EO,FJ,EP,FK,rfl,avA,avB⟩,as5⟩:=b3 _ (hm.d 0 rfl) aDx;have hm:=hm.more (y:=U J.dw EO FJ eT.bK) avA;have hm:=hm.more (y:=U J.er EP FK eT.bN) avB;refine bU wn (bI Tryz.underlying134 Tryz.sizeOf133 rfl (I.g rfl) (I.g rfl) amy axp) I rfl rfl fun a I=>?_
                       refine bf 1 [0,0] [(49,.agg #[ao eT.Name,.bool eT.Static,.q EO FJ eT.bK,.i eT.Returns.Kind,ao eT.Returns.aO,.i eT.cY,.i eT.cX,ao eT.Code,.q EP FK eT.bN])] [bG zk,bH zk+(nb).toNat* 9] (ay as5 ax) I fun a I=>cz (cs:=[ao [],.bool false,.slice none 0 0,.i 0,ao [],.i 0,.i 0,ao [],.slice none 0 0]) wn (eL Tryz.zeroValue133 rfl rfl) I hm rfl rfl fun a adl w _ I hm=>?_
                       refine cA (vs:=[ao eT.Name,.bool eT.Static,.q EO FJ eT.bK,.i eT.Returns.Kind,ao eT.Returns.aO,.i eT.cY,.i eT.cX,ao eT.Code,.q EP FK eT.bN]) 0 hm rfl wn rfl Tryz.sizeOf133 rfl rfl rfl rfl (I.g rfl) (I.g rfl) rfl fun w hm=>wpList_nil <| kn _ _ <| wp_seq_k fun K ko=>aZ <| bf 6 [0,0,1,0] [(55,.bool (decide (dx.Name=eT.Name)))] [adl,0,Gm,0] (ay (a1 (hm.e 1 rfl)) (ay (a1 (hm.e 0 rfl)) ax)) I fun a I=>?_
                       rcases Bool.eq_false_or_eq_true (decide (dx.Name=eT.Name)) with GV | GV
                       · have h:=J.c5 GV h;have I:=I.b1 55 rfl GV;refine bf 2 [1,0,0,1,1,0] [(56,.agg #[ao dx.Name,.bool dx.Static,.q ti tO dx.bK,.i dx.Returns.Kind,ao dx.Returns.aO,.i dx.cY,.i dx.cX,ao dx.Code,.q tj tP dx.bN]),(57,.agg #[ao eT.Name,.bool eT.Static,.q EO FJ eT.bK,.i eT.Returns.Kind,ao eT.Returns.aO,.i eT.cY,.i eT.cX,ao eT.Code,.q EP FK eT.bN])] [adl,0,Gm,0] (ay (a1 (hm.e 1 rfl)) (ay (a1 (hm.e 0 rfl)) ax)) I fun a I=>?_;obtain ⟨XW,aBc,h⟩:=J.aI h;have hc:=hm
                         refine bR (vs:=[.agg #[ao dx.Name,.bool dx.Static,.q ti tO dx.bK,.i dx.Returns.Kind,ao dx.Returns.aO,.i dx.cY,.i dx.cX,ao dx.Code,.q tj tP dx.bN],.agg #[ao eT.Name,.bool eT.Static,.q EO FJ eT.bK,.i eT.Returns.Kind,ao eT.Returns.aO,.i eT.cY,.i eT.cX,ao eT.Code,.q EP FK eT.bN]]) (cS I rfl rfl rfl rfl) rfl Tryz.call106 ⟨(I.g rfl),(I.g rfl),trivial⟩ (aj4 (a_:=dx) (b_:=eT) ((hc.into 0).pick ⟨⟨5,rfl⟩,⟨4,rfl⟩,⟨1,rfl⟩,⟨0,rfl⟩,trivial⟩) aBc) I rfl rfl ?_
                         rintro _ w ⟨rfl,af⟩;refine ⟨_,rfl,fun a I=>?_⟩;have hm:=hc.back 0 af;clear af hc;refine aN 2 [1,1] [(60,.bool (!XW))] I fun a I=>wpList_nil (ko _ _ ?_);refine bn (I.g rfl) h (fun aqA h=>?_) (fun aqA h=>?_)
                         · refine bu [] [(2,.i 4)] I fun a I=>wp_ret ?_;obtain rfl:=aC h;obtain rfl:=aC Tu;obtain rfl:=aC Tt;obtain rfl:=aC Ts;obtain rfl:=aC Tr;obtain rfl:=aC Tp;obtain rfl:=aC Tm;obtain rfl:=aC S2
                           refine a' (al (al (a' (al (a' (al (al (al (a' (al (a' (al (al (al (a' (al (a' (al (al (al (a' (al (al ?_)))))))))))))))))))))));refine bq Tryz.results80 I rfl ?_;exact ⟨rfl,hm.aX [] []⟩
                         refine wp_skip <| jO _ _ <| cg [] [(46,.i (J.av (nb+ 1)))] I fun a I=>?_;exact jy _ _ ⟨J.av (nb+ 1),I.cut,hm.aX [1,2] [2,3,4,5,6,7,8,9,10,11,12,13],h⟩
                       have h:=J.c4 GV h;have I:=I.b1 55 rfl GV;refine aN 5 [1,1,1,1,1] [(60,.bool false)] I fun a I=>wpList_nil (ko _ _ ?_);refine g2 (I.g rfl) rfl <| wp_skip <| jO _ _ <| cg [] [(46,.i (J.av (nb+ 1)))] I fun a I=>?_;exact jy _ _ ⟨J.av (nb+ 1),I.cut,hm.aX [1,2] [2,3,4,5,6,7,8,9,10,11,12,13],h⟩
                     refine wp_exit <| bC (bC (cv ?_));exact jM _ _ ⟨I.cut,hm,(os h)⟩
                   rintro a w ⟨I,hm,bb⟩;subst V1;have h:=Tu;clear Tu;dsimp only [J.eV] at h;exact hA _ _ ⟨I.cut,hm.aX [1] [4,5,6,7,8,9,10,11],(os h)⟩
                 rintro a w ⟨I,hm,bb⟩;subst afo;have h:=Tt;clear Tt;dsimp only [J.eV] at h;refine h6 _ _ <| cg [] [(33,.i (J.av (na+ 1)))] I fun a I=>?_;exact gv _ _ ⟨J.av (na+ 1),I.cut,hm,h⟩
               refine wp_exit <| bC (bC (cv ?_));exact fW _ _ ⟨I.cut,hm,(os h)⟩
             rintro a w ⟨I,hm,bb⟩;subst V0;have h:=Ts;clear Ts;dsimp only [J.eV] at h;exact hk _ _ ⟨I.cut,hm,(os h)⟩
           rintro a w ⟨I,hm,bb⟩;subst afn;have h:=Tr;clear Tr;dsimp only [J.eV] at h;refine gE _ _ <| cg [] [(26,.i (J.av (kU+ 1)))] I fun a I=>?_;exact dS _ _ ⟨J.av (kU+ 1),I.cut,hm,h⟩
         refine wp_exit <| bC (bC (cv ?_));exact dO _ _ ⟨I.cut,hm,(os h)⟩
       rintro a w ⟨I,hm,bb⟩;subst VY;have h:=Tp;clear Tp;dsimp only [J.eV] at h;exact dj _ _ ⟨I.cut,hm.aX [] [4,5,6,7],(os h)⟩
     rintro a w ⟨I,hm,bb⟩;subst afl;have h:=Tm;clear Tm;dsimp only [J.eV] at h;refine cM _ _ <| cg [] [(16,.i (J.av (hW+ 1)))] I fun a I=>?_;exact cn _ _ ⟨J.av (hW+ 1),I.cut,hm,h⟩
   refine wp_exit <| bC (bC (cv ?_));exact cT _ _ ⟨I.cut,hm,(os h)⟩
 rintro a w ⟨I,hm,bb⟩;subst VD;have h:=S2;clear S2;dsimp only [J.ec] at h;refine bO _ _ <| bu [] [(2,.i 0)] I fun a I=>wp_ret ?_;obtain rfl:=aC h;refine bq Tryz.results80 I rfl ?_;exact ⟨rfl,hm.aX [] []⟩
end Go.Proofs.YtpkhpagplommoaaGreat
namespace J
def NP (s_:List Field):Option (List Field):=
 (dU 40 ([]:List Field) s_).bind fun kx=>
 some kx
def NS (s_:List Method):Option (List Method):=
 (dU 128 ([]:List Method) s_).bind fun kx=>
 some kx
def NR (s_:List Kind):Option (List Kind):=
 (dU 24 ([]:List Kind) s_).bind fun kx=>
 some kx
def NQ (s_:List Handler):Option (List Handler):=
 (dU 40 ([]:List Handler) s_).bind fun kx=>
 some kx
def rD:Nat->(List Method)->Int->Int->Option (List Method)
 | 0,_,_,_=>none
 | c7+ 1,kQ,vF,jj=>
   cond (decide (jj <vF)) ((idx kQ jj).bind fun hQ=>
   (NR hQ.bK).bind fun ND=>
   (NQ hQ.bN).bind fun NE=>
   (idx kQ jj).bind fun hR=>
   (some (kQ.set (jj).toNat (⟨hR.Name,hR.Static,ND,(⟨hR.Returns.Kind,hR.Returns.aO⟩:Kind),hR.cY,hR.cX,hR.Code,hR.bN⟩:Method))).bind fun Xj=>
   (idx Xj jj).bind fun hS=>
   (some (Xj.set (jj).toNat (⟨hS.Name,hS.Static,hS.bK,(⟨hS.Returns.Kind,hS.Returns.aO⟩:Kind),hS.cY,hS.cX,hS.Code,NE⟩:Method))).bind fun Xk=>
   rD c7 Xk vF (av (jj+ 1))) (some kQ)
def rC (F:Nat) (aL:List aO):Nat->(List aO)->Int->Option (List aO)
 | 0,_,_=>none
 | bw+ 1,jU,ng=>
   cond (decide (ng <(aL.length:Int))) (Option.bind (α:=List aO) ((idx aL ng).bind fun gl=>
   (NP gl.Fields).bind fun nk=>
   (NS gl.aU).bind fun yW=>
   Option.bind (α:=List Method) (rD F yW (yW.length:Int) 0) fun (p8:List Method)=>
   (dU 80 jU [(⟨gl.Name,gl.b2,nk,p8⟩:aO)]).bind fun MS=>
   some MS) fun (vi:List aO)=>
   rC F aL bw vi (av (ng+ 1))) (some jU)
def Iy (F:Nat) (aL:List aO):Option (List aO):=
 Option.bind (α:=List aO) (rC F aL F [] 0) fun (u5:List aO)=>
 some u5
def y7 (s_:List (List UInt8)) (v_:List UInt8):Nat->Int->Option (Way (Int) (Unit))
 | 0,_=>none
 | bw+ 1,hf=>
   cond (decide (hf <(s_.length:Int))) ((idx s_ hf).bind fun Bp=>
   cond (decide (v_=Bp)) (some (.out hf)) (y7 s_ v_ bw (av (hf+ 1)))) (some (.go ()))
def Jc (F:Nat) (s_:List (List UInt8)) (v_:List UInt8):Option (Int):=
 dv (α:=Unit) (y7 s_ v_ F 0) fun (_:Unit)=>
 some (-1)
def yA (F:Nat) (fA:Int) (gL:aO):Nat->(List (List UInt8))->(List Target)->Int->Option ((List (List UInt8)) × (List Target))
 | 0,_,_,_=>none
 | c7+ 1,ky,m4,fJ=>
   cond (decide (fJ <(gL.aU.length:Int))) (Option.bind (α:=(List (List UInt8)) × (List Target)) ((idx gL.aU fJ).bind fun gM=>
   (Jc F ky gM.Name).bind fun A6=>
   cond (decide (0 <=A6)) ((idx m4 A6).bind fun Zd=>
   (some (m4.set (A6).toNat (⟨fA,fJ⟩:Target))).bind fun Xl=>
   some (ky,Xl)) ((dU 16 ky [gM.Name]).bind fun MT=>
   (dU 16 m4 [(⟨fA,fJ⟩:Target)]).bind fun sV=>
   some (MT,sV))) fun ((vn,vo):(List (List UInt8)) × (List Target))=>
   yA F fA gL c7 vn vo (av (fJ+ 1))) (some (ky,m4))
def yz (F:Nat) (x_:dk):List Int->(List (List UInt8))->(List Target)->Option ((List (List UInt8)) × (List Target))
 | [],lr,ls=>some (lr,ls)
 | fA::NJ,lr,ls=>
   Option.bind (α:=(List (List UInt8)) × (List Target)) ((idx x_.l fA).bind fun gL=>
   Option.bind (α:=(List (List UInt8)) × (List Target)) (yA F fA gL F lr ls 0) fun ((vl,vm):(List (List UInt8)) × (List Target))=>
   some (vl,vm)) fun ((vj,vk):(List (List UInt8)) × (List Target))=>
   yz F x_ NJ vj vk
def Iw (F:Nat) (x_:dk) (bS:Int):Option ((List (List UInt8)) × (List Target)):=
 (vt F (⟨x_.l,x_.cK,x_.b9⟩:dk) bS).bind fun hs=>
 (I3 hs).bind fun gz=>
 Option.bind (α:=(List (List UInt8)) × (List Target)) (yz F x_ hs.reverse [] []) fun ((lr,ls):(List (List UInt8)) × (List Target))=>
 some (lr,ls)
def p9 (F:Nat) (dJ:List aO) (gz:Int × dk) (bx:Int × dk):Nat->(List (List Target))->(List (List (List UInt8)))->(List (List Field))->Int->Option (Way (bt × Int) ((List (List Target)) × (List (List (List UInt8))) × (List (List Field))))
 | 0,_,_,_,_=>none
 | bw+ 1,pK,pL,pM,jD=>
   cond (decide (jD <(dJ.length:Int))) ((Iw F (⟨dJ,gz.2.cK,bx.2.b9⟩:dk) jD).bind fun mg=>
   (yt F (⟨dJ,gz.2.cK,bx.2.b9⟩:dk) jD).bind fun IL=>
   (dU 24 pM [IL]).bind fun Du=>
   (dU 24 pL [mg.1]).bind fun Mz=>
   (dU 24 pK [mg.2]).bind fun MA=>
   (idx Du jD).bind fun Oc=>
   cond ((decide (12 <(Oc.length:Int))) || (decide (16 <(mg.1.length:Int)))) (some (.out ((⟨[],[],[],[],[]⟩:bt),2))) (p9 F dJ gz bx bw MA Mz Du (av (jD+ 1)))) (some (.go (pK,pL,pM)))
def yq (F:Nat) (aL:List aO):Option (bt × Int):=
 (Ik F aL).bind fun ih=>
 cond (!decide (ih= 0)) (some ((⟨[],[],[],[],[]⟩:bt),ih)) ((Iy F aL).bind fun dJ=>
 (Dx F (⟨dJ,[],[]⟩:dk)).bind fun gz=>
 cond (!decide (gz.1 = 0)) (some ((⟨[],[],[],[],[]⟩:bt),gz.1)) ((MW F (⟨dJ,gz.2.cK,[]⟩:dk)).bind fun bx=>
 cond (!decide (bx.1 = 0)) (some ((⟨[],[],[],[],[]⟩:bt),bx.1)) ((MX F (⟨dJ,gz.2.cK,bx.2.b9⟩:dk)).bind fun eO=>
 cond (!decide (eO= 0)) (some ((⟨[],[],[],[],[]⟩:bt),eO)) ((Ix F (⟨dJ,gz.2.cK,bx.2.b9⟩:dk)).bind fun gj=>
 cond (!decide (gj= 0)) (some ((⟨[],[],[],[],[]⟩:bt),gj)) ((Iv F (⟨dJ,gz.2.cK,bx.2.b9⟩:dk)).bind fun cu=>
 cond (!decide (cu= 0)) (some ((⟨[],[],[],[],[]⟩:bt),cu)) ((Iu F (⟨dJ,gz.2.cK,bx.2.b9⟩:dk)).bind fun yU=>
 cond (!decide (yU= 0)) (some ((⟨[],[],[],[],[]⟩:bt),yU)) (dv (α:=(List (List Target)) × (List (List (List UInt8))) × (List (List Field))) (p9 F dJ gz bx F [] [] [] 0) fun ((nR,nS,nT):(List (List Target)) × (List (List (List UInt8))) × (List (List Field)))=>
 some ((⟨dJ,bx.2.b9,nT,nS,nR⟩:bt),0))))))))
def y3 (ca:List Int) (cm:List Int):Nat->Int->Option (Way (Bool) (Unit))
 | 0,_=>none
 | bw+ 1,ck=>
   cond (decide (ck <(ca.length:Int))) ((idx ca ck).bind fun fi=>
   (idx cm ck).bind fun fs=>
   cond (!decide (fi=fs)) (some (.out false)) (y3 ca cm bw (av (ck+ 1)))) (some (.go ()))
def I' (F:Nat) (ca:List Int) (cm:List Int):Option (Bool):=
 cond (!decide ((ca.length:Int)=(cm.length:Int))) (some false) (dv (α:=Unit) (y3 ca cm F 0) fun (_:Unit)=>
 some true)
def y1 (ca:List Field) (cm:List Field):Nat->Int->Option (Way (Bool) (Unit))
 | 0,_=>none
 | bw+ 1,ck=>
   cond (decide (ck <(ca.length:Int))) ((idx ca ck).bind fun fi=>
   (idx cm ck).bind fun fs=>
   cond (!decide (fi=fs)) (some (.out false)) (y1 ca cm bw (av (ck+ 1)))) (some (.go ()))
def I8 (F:Nat) (ca:List Field) (cm:List Field):Option (Bool):=
 cond (!decide ((ca.length:Int)=(cm.length:Int))) (some false) (dv (α:=Unit) (y1 ca cm F 0) fun (_:Unit)=>
 some true)
def yY (F:Nat) (ca:List (List Field)) (cm:List (List Field)):Nat->Int->Option (Way (Bool) (Unit))
 | 0,_=>none
 | bw+ 1,eS=>
   cond (decide (eS <(ca.length:Int))) ((idx ca eS).bind fun j_=>
   (idx cm eS).bind fun ij=>
   (I8 F j_ ij).bind fun rM=>
   cond (!rM) (some (.out false)) (yY F ca cm bw (av (eS+ 1)))) (some (.go ()))
def I5 (F:Nat) (ca:List (List Field)) (cm:List (List Field)):Option (Bool):=
 cond (!decide ((ca.length:Int)=(cm.length:Int))) (some false) (dv (α:=Unit) (yY F ca cm F 0) fun (_:Unit)=>
 some true)
def y4 (ca:List (List UInt8)) (cm:List (List UInt8)):Nat->Int->Option (Way (Bool) (Unit))
 | 0,_=>none
 | bw+ 1,ck=>
   cond (decide (ck <(ca.length:Int))) ((idx ca ck).bind fun fi=>
   (idx cm ck).bind fun fs=>
   cond (!decide (fi=fs)) (some (.out false)) (y4 ca cm bw (av (ck+ 1)))) (some (.go ()))
def Ja (F:Nat) (ca:List (List UInt8)) (cm:List (List UInt8)):Option (Bool):=
 cond (!decide ((ca.length:Int)=(cm.length:Int))) (some false) (dv (α:=Unit) (y4 ca cm F 0) fun (_:Unit)=>
 some true)
def y0 (F:Nat) (ca:List (List (List UInt8))) (cm:List (List (List UInt8))):Nat->Int->Option (Way (Bool) (Unit))
 | 0,_=>none
 | bw+ 1,eS=>
   cond (decide (eS <(ca.length:Int))) ((idx ca eS).bind fun j_=>
   (idx cm eS).bind fun ij=>
   (Ja F j_ ij).bind fun rM=>
   cond (!rM) (some (.out false)) (y0 F ca cm bw (av (eS+ 1)))) (some (.go ()))
def I7 (F:Nat) (ca:List (List (List UInt8))) (cm:List (List (List UInt8))):Option (Bool):=
 cond (!decide ((ca.length:Int)=(cm.length:Int))) (some false) (dv (α:=Unit) (y0 F ca cm F 0) fun (_:Unit)=>
 some true)
def y2 (ca:List Target) (cm:List Target):Nat->Int->Option (Way (Bool) (Unit))
 | 0,_=>none
 | bw+ 1,ck=>
   cond (decide (ck <(ca.length:Int))) ((idx ca ck).bind fun fi=>
   (idx cm ck).bind fun fs=>
   cond (!decide (fi=fs)) (some (.out false)) (y2 ca cm bw (av (ck+ 1)))) (some (.go ()))
def I_ (F:Nat) (ca:List Target) (cm:List Target):Option (Bool):=
 cond (!decide ((ca.length:Int)=(cm.length:Int))) (some false) (dv (α:=Unit) (y2 ca cm F 0) fun (_:Unit)=>
 some true)
def yZ (F:Nat) (ca:List (List Target)) (cm:List (List Target)):Nat->Int->Option (Way (Bool) (Unit))
 | 0,_=>none
 | bw+ 1,eS=>
   cond (decide (eS <(ca.length:Int))) ((idx ca eS).bind fun j_=>
   (idx cm eS).bind fun ij=>
   (I_ F j_ ij).bind fun rM=>
   cond (!rM) (some (.out false)) (yZ F ca cm bw (av (eS+ 1)))) (some (.go ()))
def I6 (F:Nat) (ca:List (List Target)) (cm:List (List Target)):Option (Bool):=
 cond (!decide ((ca.length:Int)=(cm.length:Int))) (some false) (dv (α:=Unit) (yZ F ca cm F 0) fun (_:Unit)=>
 some true)
def Dy (F:Nat) (a_:bt) (b_:bt):Option (Bool):=
 (I' F a_.aE b_.aE).bind fun yR=>
 cond (yR) ((I5 F a_.Fields b_.Fields).bind fun kZ=>
 cond (kZ) ((I7 F a_.Names b_.Names).bind fun yT=>
 cond (yT) ((I6 F a_.aD b_.aD).bind fun eP=>
 some eP) (some false)) (some false)) (some false)
def o0 (F:Nat) (aa:bt):Option (Int):=
 (yq F aa.aG).bind fun c8=>
 cond (!decide (c8.2 = 0)) (some 4) ((Dy F (⟨aa.aG,aa.aE,aa.Fields,aa.Names,aa.aD⟩:bt) (⟨c8.1.aG,c8.1.aE,c8.1.Fields,c8.1.Names,c8.1.aD⟩:bt)).bind fun X4=>
 cond (!X4) (some 4) (some 0))
def Qp:Option (List aO):=
 some [(⟨[79,98,106,101,99,116],[],[],[(⟨[109,97,105,110],true,[],(⟨0,[]⟩:Kind),2,0,[1,0,7,31,27],[]⟩:Method)]⟩:aO),(⟨[69,114,114,111,114],[79,98,106,101,99,116],[(⟨[99,111,100,101],(⟨1,[]⟩:Kind)⟩:Field)],[]⟩:aO)]
end J
