/- Part 4 of the proof that is ended in the last text: small logic, what the functions compute, walks, plain laws. -/
import Derived.Test.YtpkhpagplommoaaGreatZc3
namespace Go.Proofs.YtpkhpagplommoaaGreat
open Go Go.RowKit a5
set_option maxHeartbeats 4000000
set_option maxRecDepth 20000
theorem ahF {W:World} {X:List Nat} {F:Nat} {x_:J.du} {r:Int × J.du} {aB:Nat} {aW:aU} {a6:Nat} {b6:Nat} {aS:aU} {aT:Nat} {M0:List Nat} (hm:aw W M0 X W [au.map dA (Value.int .i64) b6 x_.cF] [ap.c3 aB [.q aW a6 x_.l,.map (some b6),.q aS aT x_.b7],aa J.bd aW a6 x_.l,aa (aq .i64) aS aT x_.b7]) (h:J.CT F x_=some r) :
 Calls Tryz.prog 75 [.U aB].toArray W (fun e aJ=>e= .returned (.i r.1)/\aw W M0 X aJ [au.map dA (Value.int .i64) b6 r.2.cF] []):=by
 refine enter Tryz.func75 rfl Tryz.ntmps75 rfl fun a I=>?_;rw [J.CT] at h;refine aG [] [(0,.U aB)] I fun a I=>wp_seq_k fun K bT=>wp_seq_k fun K cw=>rg [0,0] [(0,.U aB),(14,.q aW a6 x_.l),(15,.i (x_.l.length:Int)),(16,.i 0)] [aB,0] (aD (hm.d 0 rfl).2.2 aE) I fun a I=>cw _ _ ?_;obtain ⟨ry,h,rp⟩:=J.eC h
 refine cp (fun a w=>∃ (oJ:List ((List UInt8) × Int)),Fr ⟨62,[]⟩ [(0,.U aB)] a/\aw W M0 X w [au.map dA (Value.int .i64) b6 oJ] [ap.c3 aB [.q aW a6 x_.l,.map (some b6),.q aS aT x_.b7],aa J.bd aW a6 x_.l,aa (aq .i64) aS aT x_.b7]/\ry=(.go oJ)) (fun K c4=>?_) ?_
 · refine cN (fun (bz:Nat) a w=>∃ (ky:List ((List UInt8) × Int)) (h2:Int),Fr ⟨62,[]⟩ [(0,.U aB),(14,.q aW a6 x_.l),(15,.i (x_.l.length:Int)),(16,.i h2)] a/\aw W M0 X w [au.map dA (Value.int .i64) b6 ky] [ap.c3 aB [.q aW a6 x_.l,.map (some b6),.q aS aT x_.b7],aa J.bd aW a6 x_.l,aa (aq .i64) aS aT x_.b7]/\J.rF x_ bz ky h2=some ry) F ⟨x_.cF,0,I.cut,hm,h⟩ ?_ ?_
   · rintro a w ⟨ky,h2,I,hm,h⟩;exact absurd h (by simp [J.rF])
   rintro bz a w ⟨ky,h2,I,hm,h⟩ K cG;rw [J.rF] at h;refine aG [] [(0,.U aB),(14,.q aW a6 x_.l),(15,.i (x_.l.length:Int)),(16,.i h2),(17,.bool (decide (h2 <(x_.l.length:Int))))] I fun a I=>wp_seq_k fun K dH=>bn (I.g rfl) h (fun apK h=>?_) (fun apK h=>?_)
   · refine wp_skip <| dH _ _ <| wp_seq_k fun K c6=>wp_block <| wp_seq_k fun K dE=>a7 <| aM 1 [] [(0,.U aB),(14,.q aW a6 x_.l),(15,.i (x_.l.length:Int)),(16,.i h2),(18,.i h2)] I fun a I=>?_;obtain ⟨km,aCz,h⟩:=J.aQ h;obtain ⟨alV,awJ,_,⟨zg,zE,mI,mQ,rfl,Rq,asz⟩,ass⟩:=b3 _ (hm.d 1 rfl) aCz;have hm:=hm.more (y:=aa J.aX zg zE km.Fields) Rq;have hm:=hm.more (y:=aa J.b8 mI mQ km.az) asz;refine bR wn (bL Tryz.underlying25 Tryz.sizeOf136 rfl (I.g rfl) (I.g rfl) alV awJ) I rfl rfl fun a I=>?_
     refine bh 1 [0,0] [(0,.U aB),(14,.q aW a6 x_.l),(15,.i (x_.l.length:Int)),(16,.i h2),(18,.i h2),(20,.agg #[ak km.Name,ak km.b0,.q zg zE km.Fields,.q mI mQ km.az])] [bM aW,bP aW+(h2).toNat* 4] (aD ass aE) I fun a I=>cZ (cs:=[ak [],ak [],.slice none 0 0,.slice none 0 0]) wn (fc Tryz.zeroValue136 rfl rfl) I hm rfl rfl fun a Cg w _ I hm=>?_
     refine aM 1 [] [(0,.U aB),(3,.i h2),(4,.U Cg),(14,.q aW a6 x_.l),(15,.i (x_.l.length:Int)),(16,.i h2),(20,.agg #[ak km.Name,ak km.b0,.q zg zE km.Fields,.q mI mQ km.az])] I fun a I=>da (vs:=[ak km.Name,ak km.b0,.q zg zE km.Fields,.q mI mQ km.az]) 0 hm rfl wn rfl Tryz.sizeOf136 rfl rfl rfl rfl (I.g rfl) (I.g rfl) rfl fun w hm=>wpList_nil <| dE _ _ <| wp_seq_k fun K dx=>wp_seq_k fun K dN=>jE (by kernel_rfl) (by kernel_rfl) ?_
     refine dW 6 [0,1,1,0] [(0,.U aB),(3,.i h2),(4,.U Cg),(14,.q aW a6 x_.l),(15,.i (x_.l.length:Int)),(16,.i h2),(25,.map (some b6)),(27,ak km.Name)] [Cg,0,aB,1] (fun bb ah=>(aD (ch ah (hm.d 2 rfl).2.2) (aD (ch ah (a' (hm.e 0 rfl))) aE))) I fun a I=>e4 wn (fun bb ah=>I' (K:=dA) (ev:=(Value.int .i64)) Tryz.underlying120 Tryz.underlying9 Tryz.zeroValue3 (KJ ah ((hm.e 1 rfl))) rfl (I.g rfl) (I.g rfl)) I rfl rfl fun a I=>?_
     refine dW 5 [] [(0,.U aB),(3,.i h2),(4,.U Cg),(6,.bool ((J.dr ky km.Name).isSome)),(14,.q aW a6 x_.l),(15,.i (x_.l.length:Int)),(16,.i h2)] [] (fun bb ah=>aE) I fun a I=>wpQuiet_nil fun w ah=>?_;have hm:=hm.dX ah;clear ah;refine dN _ _ <| aG [] [(0,.U aB),(3,.i h2),(4,.U Cg),(14,.q aW a6 x_.l),(15,.i (x_.l.length:Int)),(16,.i h2),(31,.bool ((J.dr ky km.Name).isSome))] I fun a I=>bn (I.g rfl) h (fun Q1 h=>?_) (fun Q1 h=>?_)
     · refine aG [] [(2,.i 6)] I fun a I=>wp_ret ?_;obtain rfl:=aH h;obtain rfl:=aH rp;refine ao (ba (ao (ao (ba (ao (ao ?_))))));refine bq Tryz.results75 I rfl ?_;exact ⟨rfl,hm.a1 [1] []⟩
     refine wp_skip <| dx _ _ <| ix (m:=8) 7 (bg []) (by kernel_rfl) rfl fun w ah=>?_;have hm:=hm.dX ah;clear ah;have bj:=hm;have aF:=bg.refl [] w;refine cx [0,1,2,3,4,5,6] 7 [0,14,15,16,35,37,38] [0,1,1,0] (fr':=[(0,.U aB),(14,.q aW a6 x_.l),(15,.i (x_.l.length:Int)),(16,.i h2),(35,.map (some b6)),(37,ak km.Name),(38,.i h2)]) (L:=[Cg,0,aB,1]) cq (fun bb ah=>(aD (ch ah (bj.d 2 rfl).2.2) (aD (ch ah (a' (bj.e 0 rfl))) aE))) I rfl (by kernel_rfl) rfl (by kernel_rfl) (by kernel_rfl) aF fun a I=>dk 7 rfl (by kernel_rfl) (fun _=>aF) ?_
     refine MH (K:=dA) (ev:=(Value.int .i64)) 1 hm rfl wn Tryz.underlying120 Tryz.underlying9 (.inl rfl) (I.g rfl) (I.g rfl) (I.g rfl) rfl fun w hm=>c9 ?_;clear bj aF;have bj:=hm;have aF:=bg.refl [] w;refine e2.next 8 (bg [] w) (by kernel_rfl) <| fS (by kernel_rfl) ?_ (fun _=>aF);clear bj aF;have I:=I.sub (l':=[(0,.U aB),(14,.q aW a6 x_.l),(15,.i (x_.l.length:Int)),(16,.i h2)]) ⟨rfl,rfl,rfl,rfl,trivial⟩;refine c6 _ _ <| cn [] [(0,.U aB),(14,.q aW a6 x_.l),(15,.i (x_.l.length:Int)),(16,.i (J.av (h2+ 1)))] I fun a I=>?_
     exact cG _ _ ⟨J.iM ky km.Name h2,J.av (h2+ 1),I.cut,hm.a1 [1] [2,3,4],h⟩
   refine wp_exit <| bD (bD (cD ?_));exact c4 _ _ ⟨ky,I.cut,hm,(os h)⟩
 rintro a w ⟨oJ,I,hm,bf⟩;subst ry;have h:=rp;clear rp;dsimp only [J.ep] at h;refine bT _ _ <| wp_seq_k fun K gb=>a7 <| bh 4 [0,1] [(0,.U aB),(44,.map (some b6))] [aB,1] (aD (hm.d 0 rfl).2.2 aE) I fun a I=>bR wn (I' (K:=dA) (ev:=(Value.int .i64)) Tryz.underlying120 Tryz.underlying9 Tryz.zeroValue3 ((hm.e 0 rfl)) rfl (I.g rfl) (c' _ _)) I rfl rfl fun a I=>aM 5 [] [(0,.U aB),(8,.bool ((J.dr oJ [79,98,106,101,99,116]).isSome))] I fun a I=>wpList_nil (gb _ _ ?_);refine wp_seq_k fun K fH=>a7 ?_
 refine bh 4 [0,1] [(8,.bool ((J.dr oJ [79,98,106,101,99,116]).isSome)),(52,.map (some b6))] [aB,1] (aD (hm.d 0 rfl).2.2 aE) I fun a I=>bR wn (I' (K:=dA) (ev:=(Value.int .i64)) Tryz.underlying120 Tryz.underlying9 Tryz.zeroValue3 ((hm.e 0 rfl)) rfl (I.g rfl) (c' _ _)) I rfl rfl fun a I=>aM 5 [] [(8,.bool ((J.dr oJ [79,98,106,101,99,116]).isSome)),(10,.bool ((J.dr oJ [69,114,114,111,114]).isSome))] I fun a I=>wpList_nil (fH _ _ ?_);refine wp_seq_k fun K hr=>aG [0,0,0] [(61,.bool ((!((J.dr oJ [79,98,106,101,99,116]).isSome)) || (!((J.dr oJ [69,114,114,111,114]).isSome))))] I fun a I=>?_
 refine bn (I.g rfl) h (fun Q2 h=>?_) (fun Q2 h=>?_)
 · refine aG [] [(2,.i 5)] I fun a I=>wp_ret ?_;obtain rfl:=aH h;refine ao <| bq Tryz.results75 I rfl ?_;exact ⟨rfl,hm.a1 [0] []⟩
 refine wp_skip <| hr _ _ <| aG [] [(2,.i 0)] I fun a I=>wp_ret ?_;obtain rfl:=aH h;refine bq Tryz.results75 I rfl ?_;exact ⟨rfl,hm.a1 [0] []⟩
theorem ahC {W:World} {X:List Nat} {F:Nat} {x_:J.du} {r:Int × J.du} {aB:Nat} {aW:aU} {a6:Nat} {b6:Nat} {aS:aU} {aT:Nat} {qO:List Value} {M0:List Nat} (hm:aw W M0 X W [au.bs aB 122 [.q aW a6 x_.l,.map (some b6),.q aS aT x_.b7],au.row 3 1 (.q aS aT x_.b7) x_.b7 qO] [aa J.bd aW a6 x_.l,ap.map dA (Value.int .i64) b6 x_.cF,ap.rows (aq .i64) qO x_.b7]) (h:J.LQ F x_=some r) :
 Calls Tryz.prog 76 [.U aB].toArray W (fun e aJ=>∃ Yp:Option Addr,∃ ZA:Nat,∃ aff:List Value,e= .returned (.i r.1)/\aw W M0 X aJ [au.bs aB 122 [.q aW a6 x_.l,.map (some b6),.q Yp ZA r.2.b7],au.row 3 1 (.q Yp ZA r.2.b7) r.2.b7 aff] [ap.rows (aq .i64) aff r.2.b7]):=by
 refine enter Tryz.func76 rfl Tryz.ntmps76 rfl fun a I=>?_;rw [J.LQ] at h;refine aG [] [(0,.U aB)] I fun a I=>wp_seq_k fun K bT=>wp_seq_k fun K cw=>rg [0,0] [(0,.U aB),(14,.q aW a6 x_.l),(15,.i (x_.l.length:Int)),(16,.i 0)] [aB,0] (aD (a' (hm.e 0 rfl)) aE) I fun a I=>cw _ _ ?_;obtain ⟨Vq,h,S1⟩:=J.eC h
 refine cp (fun a w=>Fr ⟨94,[]⟩ [(0,.U aB)] a/\aw W M0 X w [au.bs aB 122 [.q aW a6 x_.l,.map (some b6),.q aS aT x_.b7],au.row 3 1 (.q aS aT x_.b7) x_.b7 qO] [aa J.bd aW a6 x_.l,ap.map dA (Value.int .i64) b6 x_.cF,ap.rows (aq .i64) qO x_.b7]/\Vq=(.go ())) (fun K c4=>?_) ?_
 · refine cN (fun (bz:Nat) a w=>∃ (nZ:Int),Fr ⟨94,[]⟩ [(0,.U aB),(14,.q aW a6 x_.l),(15,.i (x_.l.length:Int)),(16,.i nZ)] a/\aw W M0 X w [au.bs aB 122 [.q aW a6 x_.l,.map (some b6),.q aS aT x_.b7],au.row 3 1 (.q aS aT x_.b7) x_.b7 qO] [aa J.bd aW a6 x_.l,ap.map dA (Value.int .i64) b6 x_.cF,ap.rows (aq .i64) qO x_.b7]/\J.vm x_ bz nZ=some Vq) F ⟨0,I.cut,hm,h⟩ ?_ ?_
   · rintro a w ⟨nZ,I,hm,h⟩;exact absurd h (by simp [J.vm])
   rintro bz a w ⟨nZ,I,hm,h⟩ K cG;rw [J.vm] at h;refine aG [] [(0,.U aB),(14,.q aW a6 x_.l),(15,.i (x_.l.length:Int)),(16,.i nZ),(17,.bool (decide (nZ <(x_.l.length:Int))))] I fun a I=>wp_seq_k fun K dH=>bn (I.g rfl) h (fun apE h=>?_) (fun apE h=>?_)
   · refine wp_skip <| dH _ _ <| wp_seq_k fun K c6=>wp_block <| wp_seq_k fun K dE=>a7 ?_;obtain ⟨n8,aCw,h⟩:=J.aQ h;obtain ⟨alS,awG,_,⟨wq,xx,Pc,P3,rfl,atW,asx⟩,asp⟩:=b3 _ (hm.d 0 rfl) aCw;have hm:=hm.more (y:=aa J.aX wq xx n8.Fields) atW;have hm:=hm.more (y:=aa J.b8 Pc P3 n8.az) asx;refine bR wn (bL Tryz.underlying25 Tryz.sizeOf136 rfl (I.g rfl) (I.g rfl) alS awG) I rfl rfl fun a I=>?_
     refine bh 1 [0,0] [(0,.U aB),(14,.q aW a6 x_.l),(15,.i (x_.l.length:Int)),(16,.i nZ),(19,.agg #[ak n8.Name,ak n8.b0,.q wq xx n8.Fields,.q Pc P3 n8.az])] [bM aW,bP aW+(nZ).toNat* 4] (aD asp aE) I fun a I=>cZ (cs:=[ak [],ak [],.slice none 0 0,.slice none 0 0]) wn (fc Tryz.zeroValue136 rfl rfl) I hm rfl rfl fun a abe w _ I hm=>da (vs:=[ak n8.Name,ak n8.b0,.q wq xx n8.Fields,.q Pc P3 n8.az]) 0 hm rfl wn rfl Tryz.sizeOf136 rfl rfl rfl rfl (I.g rfl) (I.g rfl) rfl fun w hm=>?_
     refine wpList_nil <| dE _ _ <| wp_seq_k fun K dx=>rg [0,0,0,1] [(0,.U aB),(14,.q aW a6 x_.l),(15,.i (x_.l.length:Int)),(16,.i nZ),(26,.bool (!((decide (n8.Name= [79,98,106,101,99,116])) == (decide (n8.b0= [])))))] [abe,1,abe,0] (aD (a' (hm.e 0 rfl)) aE) I fun a I=>dx _ _ <| bn (I.g rfl) h (fun uy h=>?_) (fun uy h=>?_)
     · refine aG [] [(2,.i 4)] I fun a I=>wp_ret ?_;obtain rfl:=aH h;obtain rfl:=aH S1;refine ba (ao (ao (ba (ao (ao ?_)))));refine bq Tryz.results76 I rfl ?_;exact ⟨aS,aT,qO,rfl,hm.a1 [1,2] [4]⟩
     refine wp_skip <| c6 _ _ <| cn [] [(0,.U aB),(14,.q aW a6 x_.l),(15,.i (x_.l.length:Int)),(16,.i (J.av (nZ+ 1)))] I fun a I=>?_;exact cG _ _ ⟨J.av (nZ+ 1),I.cut,hm.a1 [1,2] [2,3,4],h⟩
   refine wp_exit <| bD (bD (cD ?_));exact c4 _ _ ⟨I.cut,hm,(os h)⟩
 rintro a w ⟨I,hm,bf⟩;subst Vq;have h:=S1;clear S1;dsimp only [J.ep] at h;refine bT _ _ <| wp_seq_k fun K ew=>wp_seq_k fun K ej=>rg [0,0] [(0,.U aB),(31,.q aW a6 x_.l),(32,.i (x_.l.length:Int)),(33,.i 0)] [aB,0] (aD (a' (hm.e 0 rfl)) aE) I fun a I=>ej _ _ ?_;obtain ⟨UZ,h,Su⟩:=J.eC h
 refine cp (fun a w=>∃ (kH:aU) (lJ:Nat) (fU:gv) (mH:dG),Fr ⟨94,[]⟩ [(0,.U aB)] a/\aw W M0 X w [au.bs aB 122 [.q aW a6 x_.l,.map (some b6),.q kH lJ fU],au.row 3 1 (.q kH lJ fU) fU mH] [ap.rows (aq .i64) mH fU,aa J.bd aW a6 x_.l,ap.map dA (Value.int .i64) b6 x_.cF]/\UZ=(.go fU)) (fun K gb=>?_) ?_
 · refine cN (fun (dg:Nat) a w=>∃ (qU:aU) (q8:Nat) (kx:gv) (td:dG) (jM:Int),Fr ⟨94,[]⟩ [(0,.U aB),(31,.q aW a6 x_.l),(32,.i (x_.l.length:Int)),(33,.i jM)] a/\aw W M0 X w [au.bs aB 122 [.q aW a6 x_.l,.map (some b6),.q qU q8 kx],au.row 3 1 (.q qU q8 kx) kx td] [ap.rows (aq .i64) td kx,aa J.bd aW a6 x_.l,ap.map dA (Value.int .i64) b6 x_.cF]/\J.pM x_ dg kx jM=some UZ) F ⟨aS,aT,x_.b7,qO,0,I.cut,hm.eS [2,0,1],h⟩ ?_ ?_
   · rintro a w ⟨qU,q8,kx,td,jM,I,hm,h⟩;exact absurd h (by simp [J.pM])
   rintro dg a w ⟨qU,q8,kx,td,jM,I,hm,h⟩ K fH;rw [J.pM] at h;refine aG [] [(0,.U aB),(31,.q aW a6 x_.l),(32,.i (x_.l.length:Int)),(33,.i jM),(34,.bool (decide (jM <(x_.l.length:Int))))] I fun a I=>wp_seq_k fun K hO=>bn (I.g rfl) h (fun Q9 h=>?_) (fun Q9 h=>?_)
   · refine wp_skip <| hO _ _ <| wp_seq_k fun K gd=>?_;obtain ⟨adh,h,SV⟩:=J.fl h;refine cp (fun a w=>∃ (Jl:aU) (J5:Nat) (rA:gv) (N1:dG),Fr ⟨94,[]⟩ [(0,.U aB),(31,.q aW a6 x_.l),(32,.i (x_.l.length:Int)),(33,.i jM)] a/\aw W M0 X w [au.bs aB 122 [.q aW a6 x_.l,.map (some b6),.q Jl J5 rA],au.row 3 1 (.q Jl J5 rA) rA N1] [ap.rows (aq .i64) N1 rA,aa J.bd aW a6 x_.l,ap.map dA (Value.int .i64) b6 x_.cF]/\adh=(.go rA)) (fun K gF=>?_) ?_
     · refine wp_seq_k fun K gQ=>a7 ?_;obtain ⟨g8,aBL,h⟩:=J.aQ h;obtain ⟨akZ,avP,_,⟨y8,zw,y9,zx,rfl,atq,atr⟩,arx⟩:=b3 _ (hm.d 1 rfl) aBL;have hm:=hm.more (y:=aa J.aX y8 zw g8.Fields) atq;have hm:=hm.more (y:=aa J.b8 y9 zx g8.az) atr;refine bR wn (bL Tryz.underlying25 Tryz.sizeOf136 rfl (I.g rfl) (I.g rfl) akZ avP) I rfl rfl fun a I=>?_
       refine bh 1 [0,0] [(0,.U aB),(31,.q aW a6 x_.l),(32,.i (x_.l.length:Int)),(33,.i jM),(36,.agg #[ak g8.Name,ak g8.b0,.q y8 zw g8.Fields,.q y9 zx g8.az])] [bM aW,bP aW+(jM).toNat* 4] (aD arx aE) I fun a I=>cZ (cs:=[ak [],ak [],.slice none 0 0,.slice none 0 0]) wn (fc Tryz.zeroValue136 rfl rfl) I hm rfl rfl fun a Ch w _ I hm=>da (vs:=[ak g8.Name,ak g8.b0,.q y8 zw g8.Fields,.q y9 zx g8.az]) 0 hm rfl wn rfl Tryz.sizeOf136 rfl rfl rfl rfl (I.g rfl) (I.g rfl) rfl fun w hm=>?_
       refine wpList_nil <| gQ _ _ <| wp_seq_k fun K gR=>jE (by kernel_rfl) (by kernel_rfl) <| dW 6 [0,1,1,1] [(0,.U aB),(6,.U Ch),(31,.q aW a6 x_.l),(32,.i (x_.l.length:Int)),(33,.i jM),(41,.map (some b6)),(43,ak g8.b0)] [Ch,1,aB,1] (fun bb ah=>(aD (ch ah (a' (hm.e 1 rfl))) (aD (ch ah (a' (hm.e 0 rfl))) aE))) I fun a I=>e4 wn (fun bb ah=>I' (K:=dA) (ev:=(Value.int .i64)) Tryz.underlying120 Tryz.underlying9 Tryz.zeroValue3 (KJ ah ((hm.d 4 rfl).2.2)) rfl (I.g rfl) (I.g rfl)) I rfl rfl fun a I=>?_
       refine dW 5 [] [(0,.U aB),(6,.U Ch),(7,.i ((J.dr x_.cF g8.b0).getD 0)),(8,.bool ((J.dr x_.cF g8.b0).isSome)),(31,.q aW a6 x_.l),(32,.i (x_.l.length:Int)),(33,.i jM)] [] (fun bb ah=>aE) I fun a I=>wpQuiet_nil fun w ah=>?_;have hm:=hm.dX ah;clear ah;refine gR _ _ ?_;obtain ⟨adi,h,SY⟩:=J.fl h
       refine B_ (fun a w=>∃ (rJ:Int),Fr ⟨94,[]⟩ [(0,.U aB),(7,.i rJ),(31,.q aW a6 x_.l),(32,.i (x_.l.length:Int)),(33,.i jM)] a/\aw W M0 X w [au.bs Ch 136 [ak g8.Name,ak g8.b0,.q y8 zw g8.Fields,.q y9 zx g8.az],au.bs aB 122 [.q aW a6 x_.l,.map (some b6),.q qU q8 kx],au.row 3 1 (.q qU q8 kx) kx td] [aa J.b8 y9 zx g8.az,aa J.aX y8 zw g8.Fields,ap.rows (aq .i64) td kx,aa J.bd aW a6 x_.l,ap.map dA (Value.int .i64) b6 x_.cF]/\adi=(.go rJ)) (fun K hF=>?_) ?_
       · obtain ⟨adj,h,S0⟩:=J.fl h
         refine cp (fun a w=>∃ (C5:Int),Fr ⟨94,[]⟩ [(0,.U aB),(7,.i C5),(31,.q aW a6 x_.l),(32,.i (x_.l.length:Int)),(33,.i jM)] a/\aw W M0 X w [au.bs Ch 136 [ak g8.Name,ak g8.b0,.q y8 zw g8.Fields,.q y9 zx g8.az],au.bs aB 122 [.q aW a6 x_.l,.map (some b6),.q qU q8 kx],au.row 3 1 (.q qU q8 kx) kx td] [aa J.b8 y9 zx g8.az,aa J.aX y8 zw g8.Fields,ap.rows (aq .i64) td kx,aa J.bd aW a6 x_.l,ap.map dA (Value.int .i64) b6 x_.cF]/\adj=(.go C5)) (fun K iK=>?_) ?_
         · refine wp_seq_k fun K jn=>rg [0,1] [(0,.U aB),(7,.i ((J.dr x_.cF g8.b0).getD 0)),(8,.bool ((J.dr x_.cF g8.b0).isSome)),(31,.q aW a6 x_.l),(32,.i (x_.l.length:Int)),(33,.i jM),(47,.bool (decide (g8.b0= [])))] [Ch,1] (aD (a' (hm.e 0 rfl)) aE) I fun a I=>jn _ _ <| bn (I.g rfl) h (fun ao5 h=>?_) (fun ao5 h=>?_)
           · refine cn [] [(0,.U aB),(7,.i (-1)),(31,.q aW a6 x_.l),(32,.i (x_.l.length:Int)),(33,.i jM)] I fun a I=>?_;exact iK _ _ ⟨(-1),I.cut,hm,(os h)⟩
           refine aG [] [(0,.U aB),(7,.i ((J.dr x_.cF g8.b0).getD 0)),(31,.q aW a6 x_.l),(32,.i (x_.l.length:Int)),(33,.i jM),(51,.bool (!((J.dr x_.cF g8.b0).isSome)))] I fun a I=>bn (I.g rfl) h (fun ao6 h=>?_) (fun ao6 h=>?_)
           · refine aG [] [(2,.i 5)] I fun a I=>wp_ret ?_;obtain rfl:=aH h;obtain rfl:=aH S0;obtain rfl:=aH SY;obtain rfl:=aH SV;obtain rfl:=aH Su;refine ba (ao (ao (ba (ao (ao (ao (ba (ao (ao ?_)))))))));refine bq Tryz.results76 I rfl ?_;exact ⟨qU,q8,td,rfl,hm.a1 [1,2] [2]⟩
           refine wp_skip ?_;exact iK _ _ ⟨(J.dr x_.cF g8.b0).getD 0,I.cut,hm,(os h)⟩
         rintro a w ⟨C5,I,hm,bf⟩;subst adj;have h:=S0;clear S0;dsimp only [J.fa] at h;exact hF _ _ ⟨C5,I.cut,hm,(os h)⟩
       rintro a w ⟨rJ,I,hm,bf⟩;subst adi;have h:=SY;clear SY;dsimp only [J.fa] at h;refine a7 <| bh 6 [0,2] [(0,.U aB),(31,.q aW a6 x_.l),(32,.i (x_.l.length:Int)),(33,.i jM),(54,.U aB),(58,.q qU q8 kx),(59,.i rJ)] [aB,2] (aD (a' (hm.e 1 rfl)) aE) I fun a I=>hk (cs:=[.i rJ]) wn (gW (vs:=[(0,.i rJ)]) Tryz.underlying22 Tryz.sizeOf3 Tryz.zeroValue3 rfl rfl rfl ⟨⟨(I.g rfl),rfl⟩,trivial⟩ (by kernel_rfl)) I hm rfl rfl fun a aH5 w _ I hm=>?_;obtain ⟨AG,axn,h⟩:=J.aQ h
       refine j5 (T:=(aq .i64)) (ml:=[rJ]) 3 0 2 hm rfl rfl rfl Tryz.underlying22 oA rfl rfl axn rfl rfl ⟨_,_,rfl,rfl,rfl⟩ wn rfl (I.g rfl) (I.g rfl) I rfl rfl fun a O5 PT aF7 w I hm=>aM 2 [] [(0,.U aB),(31,.q aW a6 x_.l),(32,.i (x_.l.length:Int)),(33,.i jM),(61,.q O5 PT AG),(63,.pointer (some ⟨aB,2,none⟩))] I fun a I=>da (vs:=[.q O5 PT AG]) 1 hm rfl wn rfl Tryz.sizeOf22 rfl rfl rfl rfl (I.g rfl) (I.g rfl) rfl fun w hm=>wpList_nil ?_
       exact gF _ _ ⟨O5,PT,AG,aF7,I.cut,hm.a1 [1,2] [0,4,5],(os h)⟩
     rintro a w ⟨Jl,J5,rA,N1,I,hm,bf⟩;subst adh;have h:=SV;clear SV;dsimp only [J.fa] at h;refine gd _ _ <| cn [] [(0,.U aB),(31,.q aW a6 x_.l),(32,.i (x_.l.length:Int)),(33,.i (J.av (jM+ 1)))] I fun a I=>?_;exact fH _ _ ⟨Jl,J5,rA,N1,J.av (jM+ 1),I.cut,hm,h⟩
   refine wp_exit <| bD (bD (cD ?_));exact gb _ _ ⟨qU,q8,kx,td,I.cut,hm,(os h)⟩
 rintro a w ⟨kH,lJ,fU,mH,I,hm,bf⟩;subst UZ;have h:=Su;clear Su;dsimp only [J.ep] at h;refine ew _ _ <| wp_seq_k fun K iC=>wp_seq_k fun K kQ=>rg [0,0] [(0,.U aB),(69,.i (x_.l.length:Int)),(70,.i 0)] [aB,0] (aD (a' (hm.e 0 rfl)) aE) I fun a I=>kQ _ _ ?_;obtain ⟨Ur,h,R1⟩:=J.eC h;refine cp (fun a w=>Fr ⟨94,[]⟩ [] a/\aw W M0 X w [au.bs aB 122 [.q aW a6 x_.l,.map (some b6),.q kH lJ fU],au.row 3 1 (.q kH lJ fU) fU mH] [ap.rows (aq .i64) mH fU,aa J.bd aW a6 x_.l,ap.map dA (Value.int .i64) b6 x_.cF]/\Ur=(.go ())) (fun K kr=>?_) ?_
 · refine cN (fun (eQ:Nat) a w=>∃ (ih:Int),Fr ⟨94,[]⟩ [(0,.U aB),(69,.i (x_.l.length:Int)),(70,.i ih)] a/\aw W M0 X w [au.bs aB 122 [.q aW a6 x_.l,.map (some b6),.q kH lJ fU],au.row 3 1 (.q kH lJ fU) fU mH] [ap.rows (aq .i64) mH fU,aa J.bd aW a6 x_.l,ap.map dA (Value.int .i64) b6 x_.cF]/\J.vn F x_ fU eQ ih=some Ur) F ⟨0,I.cut,hm,h⟩ ?_ ?_
   · rintro a w ⟨ih,I,hm,h⟩;exact absurd h (by simp [J.vn])
   rintro eQ a w ⟨ih,I,hm,h⟩ K nE;rw [J.vn] at h;refine aG [] [(0,.U aB),(69,.i (x_.l.length:Int)),(70,.i ih),(71,.bool (decide (ih <(x_.l.length:Int))))] I fun a I=>wp_seq_k fun K kS=>bn (I.g rfl) h (fun anr h=>?_) (fun anr h=>?_)
   · refine wp_skip <| kS _ _ <| wp_seq_k fun K lr=>?_;obtain ⟨ac1,h,Sa⟩:=J.fl h;refine cp (fun a w=>Fr ⟨94,[]⟩ [(0,.U aB),(69,.i (x_.l.length:Int)),(70,.i ih)] a/\aw W M0 X w [au.bs aB 122 [.q aW a6 x_.l,.map (some b6),.q kH lJ fU],au.row 3 1 (.q kH lJ fU) fU mH] [ap.rows (aq .i64) mH fU,aa J.bd aW a6 x_.l,ap.map dA (Value.int .i64) b6 x_.cF]/\ac1=(.go ())) (fun K ls=>?_) ?_
     · refine aG [] [(0,.U aB),(9,.i ih),(69,.i (x_.l.length:Int)),(70,.i ih)] I fun a I=>aG [] [(0,.U aB),(10,.i ih),(69,.i (x_.l.length:Int)),(70,.i ih)] I fun a I=>?_;obtain ⟨ac2,h,Sc⟩:=J.aQ h
       refine B_ (fun a w=>∃ (C1:Int),Fr ⟨94,[]⟩ [(0,.U aB),(10,.i C1),(69,.i (x_.l.length:Int)),(70,.i ih)] a/\aw W M0 X w [au.bs aB 122 [.q aW a6 x_.l,.map (some b6),.q kH lJ fU],au.row 3 1 (.q kH lJ fU) fU mH] [ap.rows (aq .i64) mH fU,aa J.bd aW a6 x_.l,ap.map dA (Value.int .i64) b6 x_.cF]/\ac2=C1) (fun K mZ=>?_) ?_
       · clear Sc;refine wp_seq_k fun K po=>rg [0,0] [(0,.U aB),(10,.i ih),(69,.i (x_.l.length:Int)),(70,.i ih),(78,.i (x_.l.length:Int)),(79,.i 0)] [aB,0] (aD (a' (hm.e 0 rfl)) aE) I fun a I=>po _ _ ?_;obtain ⟨UF,h,Sf⟩:=J.aQ h
         refine cp (fun a w=>∃ (C2:Int),Fr ⟨94,[]⟩ [(0,.U aB),(10,.i C2),(69,.i (x_.l.length:Int)),(70,.i ih)] a/\aw W M0 X w [au.bs aB 122 [.q aW a6 x_.l,.map (some b6),.q kH lJ fU],au.row 3 1 (.q kH lJ fU) fU mH] [ap.rows (aq .i64) mH fU,aa J.bd aW a6 x_.l,ap.map dA (Value.int .i64) b6 x_.cF]/\UF=C2) (fun K m0=>?_) ?_
         · clear Sf;refine cN (fun (gk:Nat) a w=>∃ (qB:Int) (oK:Int),Fr ⟨94,[]⟩ [(0,.U aB),(10,.i qB),(69,.i (x_.l.length:Int)),(70,.i ih),(78,.i (x_.l.length:Int)),(79,.i oK)] a/\aw W M0 X w [au.bs aB 122 [.q aW a6 x_.l,.map (some b6),.q kH lJ fU],au.row 3 1 (.q kH lJ fU) fU mH] [ap.rows (aq .i64) mH fU,aa J.bd aW a6 x_.l,ap.map dA (Value.int .i64) b6 x_.cF]/\J.yt x_ fU gk qB oK=some UF) F ⟨ih,0,I.cut,hm,h⟩ ?_ ?_
           · rintro a w ⟨qB,oK,I,hm,h⟩;exact absurd h (by simp [J.yt])
           rintro gk a w ⟨qB,oK,I,hm,h⟩ K nF;rw [J.yt] at h;refine aG [] [(0,.U aB),(10,.i qB),(69,.i (x_.l.length:Int)),(70,.i ih),(78,.i (x_.l.length:Int)),(79,.i oK),(80,.bool (decide (oK <(x_.l.length:Int))))] I fun a I=>wp_seq_k fun K zQ=>bn (I.g rfl) h (fun anJ h=>?_) (fun anJ h=>?_)
           · refine wp_skip <| zQ _ _ <| wp_seq_k fun K nG=>wp_block <| wp_seq_k fun K um=>a7 <| bh 5 [0,2] [(0,.U aB),(10,.i qB),(69,.i (x_.l.length:Int)),(70,.i ih),(78,.i (x_.l.length:Int)),(79,.i oK),(84,.q kH lJ fU),(85,.i qB)] [aB,2] (aD (a' (hm.e 0 rfl)) aE) I fun a I=>?_;obtain ⟨tc,aAG,h⟩:=J.aQ h;obtain ⟨ajR,auH,_,rfl,aqm⟩:=hJ (hm.e 1 rfl) (hm.d 0 rfl) aAG;refine bR wn (bL Tryz.underlying22 Tryz.sizeOf3 rfl (I.g rfl) (I.g rfl) ajR auH) I rfl rfl fun a I=>?_
             refine bh 2 [0,0] [(0,.U aB),(10,.i tc),(69,.i (x_.l.length:Int)),(70,.i ih),(78,.i (x_.l.length:Int)),(79,.i oK)] [bM kH,bP kH+(qB).toNat* 1] (aD aqm aE) I fun a I=>wpList_nil (um _ _ ?_);refine aG [] [(0,.U aB),(10,.i tc),(69,.i (x_.l.length:Int)),(70,.i ih),(78,.i (x_.l.length:Int)),(79,.i oK),(89,.bool (decide (tc < 0)))] I fun a I=>bn (I.g rfl) h (fun anK h=>?_) (fun anK h=>?_)
             · refine wp_exit <| aFJ rfl (bD (bD (cD ?_)));exact m0 _ _ ⟨tc,I.cut,hm,(os h)⟩
             refine wp_skip <| nG _ _ <| cn [] [(0,.U aB),(10,.i tc),(69,.i (x_.l.length:Int)),(70,.i ih),(78,.i (x_.l.length:Int)),(79,.i (J.av (oK+ 1)))] I fun a I=>?_;exact nF _ _ ⟨tc,J.av (oK+ 1),I.cut,hm,h⟩
           refine wp_exit <| bD (bD (cD ?_));exact m0 _ _ ⟨qB,I.cut,hm,(os h)⟩
         rintro a w ⟨C2,I,hm,bf⟩;subst UF;have h:=Sf;clear Sf;exact mZ _ _ ⟨C2,I.cut,hm,(os h)⟩
       rintro a w ⟨C1,I,hm,bf⟩;subst ac2;have h:=Sc;clear Sc;refine aG [] [(0,.U aB),(69,.i (x_.l.length:Int)),(70,.i ih),(92,.bool (decide (0 <=C1)))] I fun a I=>bn (I.g rfl) h (fun anL h=>?_) (fun anL h=>?_)
       · refine aG [] [(2,.i 4)] I fun a I=>wp_ret ?_;obtain rfl:=aH h;obtain rfl:=aH Sa;obtain rfl:=aH R1;refine ba (ao (ao (ao (ba (ao (ao ?_))))));refine bq Tryz.results76 I rfl ?_;exact ⟨kH,lJ,mH,rfl,hm.a1 [0,1] [0]⟩
       refine wp_skip ?_;exact ls _ _ ⟨I.cut,hm,(os h)⟩
     rintro a w ⟨I,hm,bf⟩;subst ac1;have h:=Sa;clear Sa;dsimp only [J.fa] at h;refine lr _ _ <| cn [] [(0,.U aB),(69,.i (x_.l.length:Int)),(70,.i (J.av (ih+ 1)))] I fun a I=>?_;exact nE _ _ ⟨J.av (ih+ 1),I.cut,hm,h⟩
   refine wp_exit <| bD (bD (cD ?_));exact kr _ _ ⟨I.cut,hm,(os h)⟩
 rintro a w ⟨I,hm,bf⟩;subst Ur;have h:=R1;clear R1;dsimp only [J.ep] at h;refine iC _ _ <| aG [] [(2,.i 0)] I fun a I=>wp_ret ?_;obtain rfl:=aH h;refine bq Tryz.results76 I rfl ?_;exact ⟨kH,lJ,mH,rfl,hm.a1 [0,1] [0]⟩
theorem P_ {W:World} {X:List Nat} {F:Nat} {x_:J.du} {bx:Int} {r:List Int} {aB:Nat} {aW:aU} {a6:Nat} {b6:Nat} {aS:aU} {aT:Nat} {M0:List Nat} (hm:aw W M0 X W [] [ap.c3 aB [.q aW a6 x_.l,.map (some b6),.q aS aT x_.b7],aa J.bd aW a6 x_.l,ap.map dA (Value.int .i64) b6 x_.cF,aa (aq .i64) aS aT x_.b7]) (h:J.vo F x_ bx=some r) :
 Calls Tryz.prog 105 [.U aB,.i bx].toArray W (fun e aJ=>∃ Yh:Option Addr,∃ Zs:Nat,∃ afa:List Value,e= .returned (.q Yh Zs r)/\aw W M0 X aJ [au.row 3 1 (.q Yh Zs r) r afa] [ap.rows (aq .i64) afa r]):=by
 refine enter Tryz.func105 rfl Tryz.ntmps105 rfl fun a I=>?_;rw [J.vo] at h;refine aG [] [(0,.U aB),(1,.i bx)] I fun a I=>aG [] [(0,.U aB),(1,.i bx),(5,.slice none 0 0)] I fun a I=>wp_seq_k fun K cw=>?_;have hm:=hm.c5 (α:=Int) 3 1;have hm:=hm.more (y:=ap.rows (aq .i64) [] []) rfl;obtain ⟨Up,h,RZ⟩:=J.aQ h
 refine cp (fun a w=>∃ (DK:aU) (EG:Nat) (uX:gv) (NI:dG),Fr ⟨20,[]⟩ [(5,.q DK EG uX)] a/\aw W M0 X w [au.row 3 1 (.q DK EG uX) uX NI] [ap.rows (aq .i64) NI uX,ap.c3 aB [.q aW a6 x_.l,.map (some b6),.q aS aT x_.b7],aa J.bd aW a6 x_.l,ap.map dA (Value.int .i64) b6 x_.cF,aa (aq .i64) aS aT x_.b7]/\Up=uX) (fun K c4=>?_) ?_
 · clear RZ;refine cN (fun (bz:Nat) a w=>∃ (h7:aU) (ia:Nat) (oC:gv) (IP:dG) (lE:Int),Fr ⟨20,[]⟩ [(0,.U aB),(1,.i lE),(5,.q h7 ia oC)] a/\aw W M0 X w [au.row 3 1 (.q h7 ia oC) oC IP] [ap.rows (aq .i64) IP oC,ap.c3 aB [.q aW a6 x_.l,.map (some b6),.q aS aT x_.b7],aa J.bd aW a6 x_.l,ap.map dA (Value.int .i64) b6 x_.cF,aa (aq .i64) aS aT x_.b7]/\J.vp x_ bz oC lE=some Up) F ⟨none,0,[],[],bx,I.cut,hm,h⟩ ?_ ?_
   · rintro a w ⟨h7,ia,oC,IP,lE,I,hm,h⟩;exact absurd h (by simp [J.vp])
   rintro bz a w ⟨h7,ia,oC,IP,lE,I,hm,h⟩ K cG;rw [J.vp] at h;refine wp_seq_k fun K eb=>aG [] [(0,.U aB),(1,.i lE),(5,.q h7 ia oC),(7,.bool (decide (0 <=lE)))] I fun a I=>bn (I.g rfl) h (fun anl h=>?_) (fun anl h=>?_)
   · refine wp_skip <| eb _ _ <| wp_seq_k fun K c6=>wp_block <| a7 <| aM 2 [] [(0,.U aB),(1,.i lE),(5,.q h7 ia oC),(15,.q h7 ia oC),(16,.i lE)] I fun a I=>hk (cs:=[.i lE]) wn (gW (vs:=[(0,.i lE)]) Tryz.underlying22 Tryz.sizeOf3 Tryz.zeroValue3 rfl rfl rfl ⟨⟨(I.g rfl),rfl⟩,trivial⟩ (by kernel_rfl)) I hm rfl rfl fun a aHU w _ I hm=>?_;obtain ⟨AD,aw0,h⟩:=J.aQ h;refine j5 (T:=(aq .i64)) (ml:=[lE]) 1 0 0 hm rfl rfl rfl Tryz.underlying22 oA rfl rfl aw0 rfl rfl ⟨_,_,rfl,rfl,rfl⟩ wn rfl (I.g rfl) (I.g rfl) I rfl rfl fun a Jc JZ aFQ w I hm=>?_
     refine aM 1 [] [(0,.U aB),(1,.i lE),(5,.q Jc JZ AD)] I fun a I=>wpList_nil (c6 _ _ ?_);refine a7 <| bh 5 [0,2] [(0,.U aB),(1,.i lE),(5,.q Jc JZ AD),(11,.q aS aT x_.b7),(12,.i lE)] [aB,2] (aD (hm.d 2 rfl).2.2 aE) I fun a I=>?_;obtain ⟨fV,T8,h⟩:=J.aQ h;obtain ⟨QG,RQ,_,rfl,Rj⟩:=b3 _ (hm.d 5 rfl) T8;refine bR wn (bL Tryz.underlying22 Tryz.sizeOf3 rfl (I.g rfl) (I.g rfl) QG RQ) I rfl rfl fun a I=>?_
     refine bh 2 [0,0] [(0,.U aB),(1,.i fV),(5,.q Jc JZ AD)] [bM aS,bP aS+(lE).toNat* 1] (aD Rj aE) I fun a I=>wpList_nil ?_;exact cG _ _ ⟨Jc,JZ,AD,aFQ,fV,I.cut,hm.eS [0,2,3,4,5],h⟩
   refine wp_exit <| bD (bD (cD ?_));exact c4 _ _ ⟨h7,ia,oC,IP,I.cut,hm,(os h)⟩
 rintro a w ⟨DK,EG,uX,NI,I,hm,bf⟩;subst Up;have h:=RZ;clear RZ;refine cw _ _ <| aG [] [(4,.q DK EG uX)] I fun a I=>wp_ret ?_;obtain rfl:=aH h;refine bq Tryz.results105 I rfl ?_;exact ⟨DK,EG,NI,rfl,hm.a1 [0] [0]⟩
theorem aat {W:World} {X:List Nat} {s_:List Int} {r:Unit} {ad:aU} {af:Nat} {M0:List Nat} (hm:aw W M0 X W [] [aa (aq .i64) ad af s_]) (h:J.H' s_=some r) :
 Calls Tryz.prog 107 [.q ad af s_].toArray W (fun e aJ=>∃ g:Nat,e= .returned (.func (.func 134) #[] #[.U g])/\aw W M0 X aJ [au.bs g 22 [.q ad af s_]] []):=by
 refine enter Tryz.func107 rfl Tryz.ntmps107 rfl fun a I=>?_;clear h;refine wp_seq_k fun K dq=>a7 <| cZ (cs:=[.q ad af s_]) wn (eV rfl rfl (I.g rfl)) I hm rfl rfl fun a cm w _ I hm=>aM 1 [] [(1,.U cm)] I fun a I=>wpList_nil (dq _ _ ?_);refine aG [] [(2,.func (.func 134) #[] #[.U cm])] I fun a I=>wp_ret <| bq Tryz.results107 I rfl ?_;exact ⟨cm,rfl,hm.a1 [0] []⟩
theorem aaq:Y1 Tryz.prog 134 :=by
 intro mN kZ A c lq L j6 bc hy bH
 refine aiC (vs:=[.func (.yield L) #[] #[],.U lq]) Tryz.func134 rfl Tryz.ntmps134 rfl (by rintro w ⟨⟨v,h⟩,_⟩;cases h) ?_
 intro a I
 obtain ⟨W,M0,X,E,hm⟩:=bc _ _ bH
 have hlen:kZ.length<=maxLen:=by
  obtain ⟨kE,dZ,bS,cf,eI,_⟩:=(hm.d 1 rfl:(aN (aq .i64)).rd _ _ _ _)
  omega
 refine n7 ?_
 intro K dq
 refine pT (by kernel_rfl) ?_
 refine jP 4 [0,1,3] [0,0] (fr':=[(0,.func (.yield L) #[] #[]),(1,.U lq),(3,.i (J.av ((kZ.length:Int) - 1)))]) (L:=[lq,0]) cq (aD (hm.d 0 rfl).2.2 aE) I (by kernel_rfl) ?_
 intro a I
 rw [aeC hlen] at I
 refine wpList_nil ?_
 refine dq _ _ ?_
 refine XK ?_
 refine aeM (fun k a w=>∃ (rem:gv),k=rem.length+ 1 /\(∃ pre,kZ=rem.reverse++pre)/\Fr ⟨19,[]⟩ [(0,.func (.yield L) #[] #[]),(1,.U lq),(3,.i ((rem.length:Int) - 1))] a/\mN rem w) (kZ.length+ 1) ⟨kZ.reverse,by simp,⟨[],by simp⟩,by rw [List.length_reverse];exact I,bH⟩ (by rintro a w ⟨rem,h,_⟩;omega) ?_
 rintro k a w ⟨rem,bi,⟨pre,G9⟩,I,zP⟩ K i_
 refine n7 ?_
 intro aHh bT
 refine n7 ?_
 intro aHi cw
 refine pT (by kernel_rfl) ?_
 refine jP 2 [0,1,3,8] [] (fr':=[(0,.func (.yield L) #[] #[]),(1,.U lq),(3,.i ((rem.length:Int) - 1)),(8,.bool (decide (0 <=(rem.length:Int) - 1)))]) (L:=[]) cq aE I (by kernel_rfl) ?_
 intro a I
 refine wpList_nil ?_
 refine cw _ _ ?_
 refine XM (I.g rfl) (fun a8=>?_) (fun a8=>?_)
 · have a8:=of_decide_eq_true a8
   match rem,a8,G9,I,zP,bi with
   | x::rem,_,G9,I,zP,bi=>
   have al:=aCO G9
   have e:((x::rem).length:Int) - 1 =(rem.length:Int):=by simp
   rw [e] at I
   refine MT ?_
   refine bT _ _ ?_
   refine n7 ?_
   intro aHj c4
   refine XK ?_
   refine n7 ?_
   intro aHk cG
   refine aFH fun hd=>?_
   refine aDm 6 (by kernel_rfl) ?_
   obtain ⟨W,M0,X,E,hm⟩:=bc _ _ zP
   refine jP 4 [0,1,3,11,12,13,14] [0,0] (fr':=[(0,.func (.yield L) #[] #[]),(1,.U lq),(3,.i (rem.length:Int)),(11,.func (.yield L) #[] #[]),(12,.i (rem.length:Int)),(13,.q A c kZ),(14,.i (rem.length:Int))]) (L:=[lq,0]) cq (aD (hm.d 0 rfl).2.2 aE) I (by kernel_rfl) ?_
   intro a I
   obtain ⟨hD,hi,_,rfl,hc⟩:=b3 _ (hm.d 1 rfl) al
   refine bR wn (bL Tryz.underlying22 Tryz.sizeOf3 rfl (I.g rfl) (I.g rfl) hD hi) I rfl rfl ?_
   intro a I
   refine jP 1 [0,1,3,11,12,16] [0,0] (fr':=[(0,.func (.yield L) #[] #[]),(1,.U lq),(3,.i (rem.length:Int)),(11,.func (.yield L) #[] #[]),(12,.i (rem.length:Int)),(16,.i x)]) (L:=[bM A,bP A+(rem.length:Int).toNat* 1]) cq (aD hc aE) I (by kernel_rfl) ?_
   intro a I
   refine wpList_nil ?_
   refine aG6 (vs:=[.i (rem.length:Int),.i x]) wn rfl (I.g rfl) ⟨I.g rfl,I.g rfl,trivial⟩ (hy x rem _ zP) I rfl rfl ?_
   rintro _ w ⟨rfl,zP⟩
   refine ⟨_,rfl,fun a I=>?_⟩
   refine LS hd (by kernel_rfl) ?_
   refine jP 1 [0,1,3,18] [] (fr':=[(0,.func (.yield L) #[] #[]),(1,.U lq),(3,.i (rem.length:Int)),(18,.bool false)]) (L:=[]) cq aE I (by kernel_rfl) ?_
   intro a I
   refine wpList_nil ?_
   refine cG _ _ ?_
   refine aFG (I.g rfl) rfl ?_
   refine MT ?_
   refine c4 _ _ ?_
   refine pT (by kernel_rfl) ?_
   refine jP 3 [0,1,3] [] (fr':=[(0,.func (.yield L) #[] #[]),(1,.U lq),(3,.i (J.av ((rem.length:Int) - 1)))]) (L:=[]) cq aE I (by kernel_rfl) ?_
   intro a I
   have hle:rem.length<=maxLen:=by
    have:=congrArg List.length G9
    simp at this
    omega
   rw [aeC hle] at I
   refine wpList_nil ?_
   exact i_ _ _ ⟨rem,by simpa using bi,⟨x::pre,by rw [G9];simp⟩,I,zP⟩
 · have a8:=of_decide_eq_false a8
   have b5:rem= []:=by
    cases rem with
    | nil=>rfl
    | cons x r=>exact absurd a8 (by simp)
   subst b5
   refine XN ?_
   refine bD ?_
   refine bD ?_
   refine cD ?_
   refine zq ?_
   refine AW Tryz.results134 I ?_
   exact ⟨⟨_,rfl⟩,zP⟩
theorem P' {W:World} {X:List Nat} {F:Nat} {x_:J.du} {bx:Int} {r:List J.Field} {aB:Nat} {aW:aU} {a6:Nat} {b6:Nat} {aS:aU} {aT:Nat} {M0:List Nat} (hm:aw W M0 X W [] [ap.c3 aB [.q aW a6 x_.l,.map (some b6),.q aS aT x_.b7],aa J.bd aW a6 x_.l,ap.map dA (Value.int .i64) b6 x_.cF,aa (aq .i64) aS aT x_.b7]) (h:J.yu F x_ bx=some r) :
 Calls Tryz.prog 82 [.U aB,.i bx].toArray W (fun e aJ=>∃ zg:Option Addr,∃ zE:Nat,∃ aeT:List Value,e= .returned (.q zg zE r)/\aw W M0 X aJ [au.row 105 3 (.q zg zE r) r aeT] [ap.rows J.aX aeT r]):=by
 refine aaX Tryz.func82 rfl Tryz.ntmps82 rfl fun a I=>?_;rw [J.yu] at h;refine wp_seq_k fun K dq=>a7 <| cZ (cs:=[.U aB]) wn (eV rfl rfl (I.g rfl)) I hm rfl rfl fun a cg w _ I hm=>aM 1 [] [(1,.i bx),(2,.U cg)] I fun a I=>wpList_nil (dq _ _ ?_);refine wp_seq_k fun K bT=>a7 <| cZ (cs:=[.slice none 0 0]) wn (fc Tryz.zeroValue106 rfl rfl) I hm rfl rfl fun a fL w _ I hm=>wpList_nil <| bT _ _ <| wp_seq_k fun K cw=>wp_seq_k fun K c4=>a7 ?_
 refine bh 2 [0,0] [(2,.U cg),(5,.U fL),(8,.U aB),(9,.i bx)] [cg,0] (aD (a' (hm.e 1 rfl)) aE) I fun a I=>?_;obtain ⟨rQ,TL,h⟩:=J.aQ h;have hc:=hm;refine bU (vs:=[.U aB,.i bx]) wn rfl Tryz.call105 ⟨(I.g rfl),(I.g rfl),trivial⟩ (P_ ((hc.into 0).pick ⟨⟨0,rfl⟩,⟨1,rfl⟩,⟨2,rfl⟩,⟨3,rfl⟩,trivial⟩) TL) I rfl rfl ?_;rintro _ w ⟨bI,bJ,ae',rfl,ai⟩;refine ⟨_,rfl,fun a I=>?_⟩;have hm:=hc.back 0 ai;clear ai hc;obtain ⟨aD_,ax4,h⟩:=J.aQ h;have hc:=hm;have aC:=hc.freeze 0 0 rfl rfl
 refine bU (vs:=[.q bI bJ rQ]) wn rfl Tryz.call107 ⟨(I.g rfl),trivial⟩ (aat ((aC.into 0).pick ⟨⟨0,rfl⟩,trivial⟩) ax4) I rfl rfl ?_;rintro _ w ⟨bt,rfl,ai⟩;refine ⟨_,rfl,fun a I=>?_⟩;have ah:bg [] _ w:=ai.ev;have hm:=hc.hp 0 (by exact trivial) ai;clear ai hc aC;clear ah;refine wpList_nil ?_;have I:=I.sub (l':=[(2,.U cg),(5,.U fL),(11,.func (.func 134) #[] #[.U bt])]) ⟨rfl,rfl,rfl,trivial⟩;refine c4 _ _ <| wp_block ?_;have hm:=hm.freeze 1 0 rfl rfl;have hm:=hm.mV 0 rfl
 have hm:=hm.c5 (α:=J.Field) 105 3;have hm:=hm.more (y:=ap.rows J.aX [] []) rfl;obtain ⟨aC7,Tv,h⟩:=J.aQ h
 refine aah (c:=bJ) (A:=bI) (β:=(Option Addr) × (Nat) × (List J.Field) × (List Value)) (l1:=fun _ yZ=>[(2,.U cg),(5,.U fL),(7,.i yZ)]) (fun ((mL,mU,lR,Bm):(Option Addr) × (Nat) × (List J.Field) × (List Value))=>[au.row 105 3 (.q mL mU lR) lR Bm,au.bs fL 106 [.q mL mU lR],au.bs cg 118 [.U aB]]) (fun ((mL,mU,lR,Bm):(Option Addr) × (Nat) × (List J.Field) × (List Value))=>[ap.rows J.aX Bm lR,ap.c3 bt [.q bI bJ rQ],aa (aq .i64) bI bJ rQ,ap.c3 aB [.q aW a6 x_.l,.map (some b6),.q aS aT x_.b7],aa J.bd aW a6 x_.l,ap.map dA (Value.int .i64) b6 x_.cF,aa (aq .i64) aS aT x_.b7]) (fun (Mt:gv) ((mL,mU,lR,Bm):(Option Addr) × (Nat) × (List J.Field) × (List Value))=>J.yv x_ Mt lR=some aC7) rQ (none,0,[],[]) 1 2 aaq Tryz.call134 I rfl rfl rfl (hm.eS [0,1,2,4,5,6,7]) Tv (fun b=>by obtain ⟨_,_,_,_⟩:=b;rfl) (fun b=>by obtain ⟨_,_,_,_⟩:=b;rfl) ?_ ?_ ?_
 · clear h Tv hm I;intro L aCM yZ w a K I i_;refine pT (by kernel_rfl) <| aM 1 [] [(2,.U cg),(5,.U fL),(7,.i yZ)] I fun a I=>wpList_nil ?_;exact i_ _ I
 · clear h Tv hm I;intro L ln qD mb qE b aCM yZ Mt w a K h I hm i_;obtain ⟨mL,mU,lR,Bm⟩:=b;dsimp only at h hm;rw [J.yv] at h;refine XK <| aeL (m:=11) 9 (bg []) (by kernel_rfl) rfl (by kernel_rfl) fun w ah=>?_;have hm:=hm.dX ah;clear ah;have bj:=hm;have aF:=bg.refl [] w;refine cx [0,1,2,3,4,5] 6 [5,14,18,19] [0,0,1,0,2,0] (fr':=[(5,.U fL),(14,.q mL mU lR),(18,.q aW a6 x_.l),(19,.i yZ)]) (L:=[aB,0,cg,0,fL,0]) cq (fun bb ah=>(aD (ch ah (a' (bj.e 3 rfl))) (aD (ch ah (a' (bj.e 4 rfl))) (aD (ch ah (bj.d 3 rfl).2.2) aE)))) I rfl (by kernel_rfl) rfl (by kernel_rfl) (by kernel_rfl) aF fun a I=>?_;obtain ⟨y0,aCk,h⟩:=J.aQ h
   obtain ⟨alG,awu,_,⟨tu,tZ,YT,Z',rfl,KZ,abV⟩,asc⟩:=b3 _ (bj.d 4 rfl) aCk;have bj:=bj.more (y:=aa J.aX tu tZ y0.Fields) KZ;have hm:=hm.more (y:=aa J.aX tu tZ y0.Fields) KZ;have bj:=bj.more (y:=aa J.b8 YT Z' y0.az) abV;have hm:=hm.more (y:=aa J.b8 YT Z' y0.az) abV;refine ff 6 rfl (by kernel_rfl) wn (fun bb=>bL Tryz.underlying25 Tryz.sizeOf136 rfl (I.g rfl) (I.g rfl) alG awu) aF I rfl rfl fun a I=>?_
   refine cx [7,8] 2 [5,14,22] [0,2] (fr':=[(5,.U fL),(14,.q mL mU lR),(22,.q tu tZ y0.Fields)]) (L:=[bM aW,bP aW+(yZ).toNat* 4 + 2]) cq (fun bb ah=>(aD (ch ah asc) aE)) I rfl (by kernel_rfl) rfl (by kernel_rfl) (by kernel_rfl) aF fun a I=>dk 9 rfl (by kernel_rfl) (fun _=>aF) ?_;obtain ⟨LO,axz,h⟩:=J.aQ h;refine rT (T:=J.aX) 2 2 1 hm rfl rfl rfl Tryz.underlying106 Ug rfl rfl axz rfl wn rfl (I.g rfl) (I.g rfl) I rfl rfl fun a wq xx afv w I hm=>c9 ?_;clear bj aF;have bj:=hm;have aF:=bg.refl [] w;refine e2.next 10 (bg [] w) (by kernel_rfl) <| dk 10 rfl (by kernel_rfl) (fun _=>aF) ?_
   refine da (vs:=[.q wq xx LO]) 3 hm rfl wn rfl Tryz.sizeOf106 rfl rfl rfl rfl (I.g rfl) (I.g rfl) rfl fun w hm=>c9 ?_;clear bj aF;have bj:=hm;have aF:=bg.refl [] w;refine e2.next 11 (bg [] w) (by kernel_rfl) <| fS (by kernel_rfl) ?_ (fun _=>aF);clear bj aF;have I:=I.sub (l':=[]) trivial;exact i_ (wq,xx,LO,afv) _ _ h (hm.eS [0,4,5,6,7,8,9])
 clear hm I;intro aIa b a w Tw I hm;obtain ⟨mL,mU,lR,Bm⟩:=b;dsimp only at Tw hm;rw [J.yv] at Tw;obtain rfl:=aH Tw;have I:=I.sub (l':=[(5,.U fL)]) ⟨rfl,trivial⟩;refine cw _ _ <| wp_seq_k fun K cG=>rg [0,0] [(4,.q mL mU lR)] [fL,0] (aD (a' (hm.e 2 rfl)) aE) I fun a I=>cG _ _ <| wp_ret ?_;obtain rfl:=aH h;refine aDr 0 Tryz.results82 I hm rfl rfl fun w hm=>?_;exact ⟨mL,mU,Bm,rfl,hm.a1 [1] [0]⟩
theorem ahD {W:World} {X:List Nat} {F:Nat} {x_:J.du} {r:Int} {aB:Nat} {aW:aU} {a6:Nat} {b6:Nat} {aS:aU} {aT:Nat} {M0:List Nat} (hm:aw W M0 X W [] [ap.c3 aB [.q aW a6 x_.l,.map (some b6),.q aS aT x_.b7],aa J.bd aW a6 x_.l,ap.map dA (Value.int .i64) b6 x_.cF,aa (aq .i64) aS aT x_.b7]) (h:J.LR F x_=some r) :
 Calls Tryz.prog 77 [.U aB].toArray W (fun e aJ=>e= .returned (.i r)/\aw W M0 X aJ [] []):=by
 refine enter Tryz.func77 rfl Tryz.ntmps77 rfl fun a I=>?_;rw [J.LR] at h;refine aG [] [(0,.U aB)] I fun a I=>wp_seq_k fun K bT=>a7 <| bh 4 [0,1] [(0,.U aB),(8,.map (some b6))] [aB,1] (aD (hm.d 0 rfl).2.2 aE) I fun a I=>bR wn (I_ (K:=dA) (ev:=(Value.int .i64)) Tryz.underlying120 Tryz.underlying9 Tryz.zeroValue3 ((hm.d 2 rfl).2.2) rfl (I.g rfl) (c' _ _)) I rfl rfl fun a I=>aM 1 [] [(0,.U aB),(3,.i ((J.dr x_.cF [69,114,114,111,114]).getD 0))] I fun a I=>wpList_nil (bT _ _ ?_)
 refine wp_seq_k fun K cw=>a7 <| aM 2 [] [(0,.U aB),(3,.i ((J.dr x_.cF [69,114,114,111,114]).getD 0)),(10,.U aB),(11,.i ((J.dr x_.cF [69,114,114,111,114]).getD 0))] I fun a I=>?_;obtain ⟨dn,Aq,h⟩:=J.aQ h;have hc:=hm;refine bU (vs:=[.U aB,.i ((J.dr x_.cF [69,114,114,111,114]).getD 0)]) wn rfl Tryz.call82 ⟨(I.g rfl),(I.g rfl),trivial⟩ (P' ((hc.into 0).pick ⟨⟨0,rfl⟩,⟨1,rfl⟩,⟨2,rfl⟩,⟨3,rfl⟩,trivial⟩) Aq) I rfl rfl ?_;rintro _ w ⟨bk,bm,y1,rfl,ai⟩;refine ⟨_,rfl,fun a I=>?_⟩;have ah:bg [] _ w:=ai.ev;have hm:=hc.back 0 ai
 clear ai hc;clear ah;refine aM 1 [] [(0,.U aB),(3,.i ((J.dr x_.cF [69,114,114,111,114]).getD 0)),(4,.q bk bm dn)] I fun a I=>wpList_nil (cw _ _ ?_);refine wp_seq_k fun K c4=>wp_seq_k fun K cG=>a7 <| bh 5 [0,0] [(4,.q bk bm dn),(16,.q aW a6 x_.l),(17,.i ((J.dr x_.cF [69,114,114,111,114]).getD 0))] [aB,0] (aD (hm.d 1 rfl).2.2 aE) I fun a I=>?_;obtain ⟨Dm,aAg,h⟩:=J.aQ h;obtain ⟨ajw,aun,_,⟨fu,fQ,ei,eW,rfl,asS,asT⟩,ap'⟩:=b3 _ (hm.d 2 rfl) aAg
 have hm:=hm.more (y:=aa J.aX fu fQ Dm.Fields) asS;have hm:=hm.more (y:=aa J.b8 ei eW Dm.az) asT;refine bR wn (bL Tryz.underlying25 Tryz.sizeOf136 rfl (I.g rfl) (I.g rfl) ajw aun) I rfl rfl fun a I=>bh 9 [0,1,0,0,0,0] [(4,.q bk bm dn),(27,.bool ((!decide (Dm.b0= [79,98,106,101,99,116])) || (decide ((dn.length:Int)= 0))))] [bM aW,bP aW+((J.dr x_.cF [69,114,114,111,114]).getD 0).toNat* 4 + 1] (aD ap' aE) I fun a I=>?_;rcases Bool.eq_false_or_eq_true ((!decide (Dm.b0= [79,98,106,101,99,116])) || (decide ((dn.length:Int)= 0))) with FZ | FZ
 · have h:=J.dz FZ h;have I:=I.cd 27 rfl FZ;refine aM 7 [1,1,1,1,1,1,1] [(34,.bool true)] I fun a I=>wpList_nil (cG _ _ ?_);refine eZ (I.g rfl) rfl <| aG [] [(2,.i 4)] I fun a I=>wp_ret ?_;obtain rfl:=aH h;refine ao <| bq Tryz.results77 I rfl ?_;exact ⟨rfl,hm.a1 [] []⟩
 have h:=J.dy FZ h;have I:=I.cd 27 rfl FZ;refine aM 1 [1] [(27,.bool false),(28,.q bk bm dn)] I fun a I=>?_;obtain ⟨XP,aAV,h⟩:=J.aQ h;obtain ⟨aj9,auZ,_,rfl,aqG⟩:=hJ (hm.e 0 rfl) (hm.d 2 rfl) aAV;refine bR (db I rfl rfl rfl rfl) (bL Tryz.underlying106 Tryz.sizeOf105 rfl (I.g rfl) (c' _ _) aj9 auZ) I rfl rfl fun a I=>bh 5 [1,1,1,0,1,1,1] [(34,.bool (!decide (XP.Kind.Kind= 1)))] [bM bk,bP bk+(0 :Int).toNat* 3 + 1 + 0] (aD aqG aE) I fun a I=>wpList_nil (cG _ _ ?_);refine bn (I.g rfl) h (fun z1 h=>?_) (fun z1 h=>?_)
 · refine aG [] [(2,.i 4)] I fun a I=>wp_ret ?_;obtain rfl:=aH h;refine ao <| bq Tryz.results77 I rfl ?_;exact ⟨rfl,hm.a1 [] []⟩
 refine wp_skip <| c4 _ _ <| aG [] [(2,.i 0)] I fun a I=>wp_ret ?_;obtain rfl:=aH h;refine bq Tryz.results77 I rfl ?_;exact ⟨rfl,hm.a1 [] []⟩
theorem Qa {W:World} {X:List Nat} {ag:J.Kind} {q1_:List (List UInt8)} {r:List (List UInt8)} {kP:Nat} {ar:aU} {ax:Nat} {N8:List Value} {M0:List Nat} (hm:aw W M0 X W [au.bs kP 125 [.q ar ax q1_],au.row 9 1 (.q ar ax q1_) q1_ N8] [ap.rows bE N8 q1_]) (h:J.AH ag q1_=some r) :
 Calls Tryz.prog 103 [.agg #[.i ag.Kind,ak ag.aR],.U kP].toArray W (fun e aJ=>∃ cI:Option Addr,∃ cJ:Nat,∃ NP:List Value,e= .returned (.tuple #[])/\aw W M0 X aJ [au.bs kP 125 [.q cI cJ r],au.row 9 1 (.q cI cJ r) r NP] [ap.rows bE NP r]):=by
 refine enter Tryz.func103 rfl Tryz.ntmps103 rfl fun a I=>?_;rw [J.AH] at h;refine wp_seq_k fun K dq=>a7 <| cZ (cs:=[.i ag.Kind,ak ag.aR]) wn (eV rfl rfl (I.g rfl)) I hm rfl rfl fun a xO w _ I hm=>wpList_nil <| dq _ _ <| wp_seq_k fun K bT=>rg [0,1] [(1,.U kP),(2,.U xO),(5,.bool (!decide (ag.aR= [])))] [xO,1] (aD (a' (hm.e 0 rfl)) aE) I fun a I=>bT _ _ <| bn (I.g rfl) h (fun Gq h=>?_) (fun Gq h=>?_)
 · refine a7 <| bh 3 [0,0,1,1] [(1,.U kP),(6,.q ar ax q1_),(8,ak ag.aR)] [xO,1,kP,0] (aD (a' (hm.e 1 rfl)) (aD (a' (hm.e 0 rfl)) aE)) I fun a I=>hk (cs:=[ak ag.aR]) wn (gW (vs:=[(0,ak ag.aR)]) Tryz.underlying125 Tryz.sizeOf9 Tryz.zeroValue9 rfl rfl rfl ⟨⟨(I.g rfl),rfl⟩,trivial⟩ (by kernel_rfl)) I hm rfl rfl fun a fL w _ I hm=>?_;obtain ⟨V2,awS,h⟩:=J.aQ h;refine j5 (T:=bE) (ml:=[ag.aR]) 3 0 0 hm rfl rfl rfl Tryz.underlying125 ym rfl rfl awS rfl rfl ⟨_,_,rfl,rfl,rfl⟩ wn rfl (I.g rfl) (I.g rfl) I rfl rfl fun a bI bJ ae' w I hm=>?_
   refine da (vs:=[.q bI bJ V2]) 1 hm rfl wn rfl Tryz.sizeOf125 rfl rfl rfl rfl (I.g rfl) (I.g rfl) rfl fun w hm=>wpList_nil ?_;have I:=I.sub (l':=[]) trivial;refine zq ?_;obtain rfl:=aH h;refine AW Tryz.results103 I ?_;exact ⟨bI,bJ,ae',rfl,hm.a1 [1,2] [0]⟩
 refine wp_skip <| zq ?_;obtain rfl:=aH h;refine AW Tryz.results103 I ?_;exact ⟨ar,ax,N8,rfl,hm.a1 [1,2] [0]⟩
theorem ahI {W:World} {X:List Nat} {F:Nat} {x_:J.du} {r:Int} {aB:Nat} {aW:aU} {a6:Nat} {b6:Nat} {aS:aU} {aT:Nat} {M0:List Nat} (hm:aw W M0 X W [] [ap.c3 aB [.q aW a6 x_.l,.map (some b6),.q aS aT x_.b7],aa J.bd aW a6 x_.l,ap.map dA (Value.int .i64) b6 x_.cF,aa (aq .i64) aS aT x_.b7]) (h:J.HJ F x_=some r) :
 Calls Tryz.prog 78 [.U aB].toArray W (fun e aJ=>e= .returned (.i r)/\aw W M0 X aJ [] []):=by
 refine enter Tryz.func78 rfl Tryz.ntmps78 rfl fun a I=>?_;rw [J.HJ] at h;refine aG [] [(0,.U aB)] I fun a I=>wp_seq_k fun K bT=>a7 <| cZ (cs:=[.slice none 0 0]) wn (fc Tryz.zeroValue125 rfl rfl) I hm rfl rfl fun a cg w _ I hm=>wpList_nil <| bT _ _ <| aG [] [(0,.U aB),(3,.U cg),(4,.func (.func 103) #[] #[.U cg])] I fun a I=>wp_seq_k fun K c4=>wp_seq_k fun K cG=>?_
 refine rg [0,0] [(0,.U aB),(3,.U cg),(4,.func (.func 103) #[] #[.U cg]),(23,.q aW a6 x_.l),(24,.i (x_.l.length:Int)),(25,.i 0)] [aB,0] (aD (hm.d 0 rfl).2.2 aE) I fun a I=>cG _ _ ?_;have hm:=hm.c5 (α:=List UInt8) 9 1;have hm:=hm.more (y:=ap.rows bE [] []) rfl;obtain ⟨Va,h,SJ⟩:=J.aQ h
 refine cp (fun a w=>∃ (l7:aU) (nz:Nat) (gG:List (List UInt8)) (Bk:dG),Fr ⟨96,[]⟩ [(0,.U aB),(3,.U cg)] a/\aw W M0 X w [au.row 9 1 (.q l7 nz gG) gG Bk,au.bs cg 125 [.q l7 nz gG]] [ap.rows bE Bk gG,ap.c3 aB [.q aW a6 x_.l,.map (some b6),.q aS aT x_.b7],aa J.bd aW a6 x_.l,ap.map dA (Value.int .i64) b6 x_.cF,aa (aq .i64) aS aT x_.b7]/\Va=gG) (fun K eb=>?_) ?_
 · clear SJ
   refine cN (fun (bz:Nat) a w=>∃ (Bz:aU) (B3:Nat) (qs:List (List UInt8)) (DB:dG) (fz:Int),Fr ⟨96,[]⟩ [(0,.U aB),(3,.U cg),(4,.func (.func 103) #[] #[.U cg]),(23,.q aW a6 x_.l),(24,.i (x_.l.length:Int)),(25,.i fz)] a/\aw W M0 X w [au.row 9 1 (.q Bz B3 qs) qs DB,au.bs cg 125 [.q Bz B3 qs]] [ap.rows bE DB qs,ap.c3 aB [.q aW a6 x_.l,.map (some b6),.q aS aT x_.b7],aa J.bd aW a6 x_.l,ap.map dA (Value.int .i64) b6 x_.cF,aa (aq .i64) aS aT x_.b7]/\J.vu F x_ bz qs fz=some Va) F ⟨none,0,[],[],0,I.cut,hm,h⟩ ?_ ?_
   · rintro a w ⟨Bz,B3,qs,DB,fz,I,hm,h⟩;exact absurd h (by simp [J.vu])
   rintro bz a w ⟨Bz,B3,qs,DB,fz,I,hm,h⟩ K dH;rw [J.vu] at h;refine aG [] [(0,.U aB),(3,.U cg),(4,.func (.func 103) #[] #[.U cg]),(23,.q aW a6 x_.l),(24,.i (x_.l.length:Int)),(25,.i fz),(26,.bool (decide (fz <(x_.l.length:Int))))] I fun a I=>wp_seq_k fun K dE=>bn (I.g rfl) h (fun ao9 h=>?_) (fun ao9 h=>?_)
   · refine wp_skip <| dE _ _ <| wp_seq_k fun K dx=>?_;obtain ⟨adk,h,S4⟩:=J.aQ h
     refine cp (fun a w=>∃ (Jn:aU) (J7:Nat) (u7:List (List UInt8)) (N5:dG),Fr ⟨96,[]⟩ [(0,.U aB),(3,.U cg),(4,.func (.func 103) #[] #[.U cg]),(23,.q aW a6 x_.l),(24,.i (x_.l.length:Int)),(25,.i fz)] a/\aw W M0 X w [au.row 9 1 (.q Jn J7 u7) u7 N5,au.bs cg 125 [.q Jn J7 u7]] [ap.rows bE N5 u7,ap.c3 aB [.q aW a6 x_.l,.map (some b6),.q aS aT x_.b7],aa J.bd aW a6 x_.l,ap.map dA (Value.int .i64) b6 x_.cF,aa (aq .i64) aS aT x_.b7]/\adk=u7) (fun K dN=>?_) ?_
     · clear S4;refine wp_seq_k fun K ew=>a7 ?_;obtain ⟨cr,aBS,h⟩:=J.aQ h;obtain ⟨ak8,avX,_,⟨hX,iv,fA,fK,rfl,atu,atv⟩,arF⟩:=b3 _ (hm.d 2 rfl) aBS;have hm:=hm.more (y:=aa J.aX hX iv cr.Fields) atu;have hm:=hm.more (y:=aa J.b8 fA fK cr.az) atv;refine bR wn (bL Tryz.underlying25 Tryz.sizeOf136 rfl (I.g rfl) (I.g rfl) ak8 avX) I rfl rfl fun a I=>?_
       refine bh 1 [0,0] [(0,.U aB),(3,.U cg),(4,.func (.func 103) #[] #[.U cg]),(23,.q aW a6 x_.l),(24,.i (x_.l.length:Int)),(25,.i fz),(28,.agg #[ak cr.Name,ak cr.b0,.q hX iv cr.Fields,.q fA fK cr.az])] [bM aW,bP aW+(fz).toNat* 4] (aD arF aE) I fun a I=>cZ (cs:=[ak [],ak [],.slice none 0 0,.slice none 0 0]) wn (fc Tryz.zeroValue136 rfl rfl) I hm rfl rfl fun a lp w _ I hm=>?_
       refine da (vs:=[ak cr.Name,ak cr.b0,.q hX iv cr.Fields,.q fA fK cr.az]) 0 hm rfl wn rfl Tryz.sizeOf136 rfl rfl rfl rfl (I.g rfl) (I.g rfl) rfl fun w hm=>wpList_nil <| ew _ _ <| wp_seq_k fun K ej=>wp_seq_k fun K gb=>?_
       refine rg [0,2] [(0,.U aB),(3,.U cg),(4,.func (.func 103) #[] #[.U cg]),(6,.U lp),(23,.q aW a6 x_.l),(24,.i (x_.l.length:Int)),(25,.i fz),(30,.q hX iv cr.Fields),(31,.i (cr.Fields.length:Int)),(32,.i 0)] [lp,2] (aD (a' (hm.e 0 rfl)) aE) I fun a I=>gb _ _ ?_;obtain ⟨Vt,h,S5⟩:=J.aQ h
       refine cp (fun a w=>∃ (Jo:aU) (J8:Nat) (u9:List (List UInt8)) (N6:dG),Fr ⟨96,[]⟩ [(0,.U aB),(3,.U cg),(4,.func (.func 103) #[] #[.U cg]),(6,.U lp),(23,.q aW a6 x_.l),(24,.i (x_.l.length:Int)),(25,.i fz)] a/\aw W M0 X w [au.bs lp 136 [ak cr.Name,ak cr.b0,.q hX iv cr.Fields,.q fA fK cr.az],au.row 9 1 (.q Jo J8 u9) u9 N6,au.bs cg 125 [.q Jo J8 u9]] [ap.rows bE N6 u9,aa J.b8 fA fK cr.az,aa J.aX hX iv cr.Fields,ap.c3 aB [.q aW a6 x_.l,.map (some b6),.q aS aT x_.b7],aa J.bd aW a6 x_.l,ap.map dA (Value.int .i64) b6 x_.cF,aa (aq .i64) aS aT x_.b7]/\Vt=u9) (fun K fH=>?_) ?_
       · clear S5
         refine cN (fun (dg:Nat) a w=>∃ (Ea:aU) (E8:Nat) (rB:List (List UInt8)) (I4:dG) (nh:Int),Fr ⟨96,[]⟩ [(0,.U aB),(3,.U cg),(4,.func (.func 103) #[] #[.U cg]),(6,.U lp),(23,.q aW a6 x_.l),(24,.i (x_.l.length:Int)),(25,.i fz),(30,.q hX iv cr.Fields),(31,.i (cr.Fields.length:Int)),(32,.i nh)] a/\aw W M0 X w [au.bs lp 136 [ak cr.Name,ak cr.b0,.q hX iv cr.Fields,.q fA fK cr.az],au.row 9 1 (.q Ea E8 rB) rB I4,au.bs cg 125 [.q Ea E8 rB]] [ap.rows bE I4 rB,aa J.b8 fA fK cr.az,aa J.aX hX iv cr.Fields,ap.c3 aB [.q aW a6 x_.l,.map (some b6),.q aS aT x_.b7],aa J.bd aW a6 x_.l,ap.map dA (Value.int .i64) b6 x_.cF,aa (aq .i64) aS aT x_.b7]/\J.vv cr dg rB nh=some Vt) F ⟨Bz,B3,qs,DB,0,I.cut,hm.eS [2,0,1,3,4,5,6],h⟩ ?_ ?_
         · rintro a w ⟨Ea,E8,rB,I4,nh,I,hm,h⟩;exact absurd h (by simp [J.vv])
         rintro dg a w ⟨Ea,E8,rB,I4,nh,I,hm,h⟩ K hr;rw [J.vv] at h;refine aG [] [(0,.U aB),(3,.U cg),(4,.func (.func 103) #[] #[.U cg]),(6,.U lp),(23,.q aW a6 x_.l),(24,.i (x_.l.length:Int)),(25,.i fz),(30,.q hX iv cr.Fields),(31,.i (cr.Fields.length:Int)),(32,.i nh),(33,.bool (decide (nh <(cr.Fields.length:Int))))] I fun a I=>wp_seq_k fun K gd=>bn (I.g rfl) h (fun apb h=>?_) (fun apb h=>?_)
         · refine wp_skip <| gd _ _ <| wp_seq_k fun K gF=>wp_block <| wp_seq_k fun K gQ=>a7 ?_;obtain ⟨pU,aBT,h⟩:=J.aQ h;obtain ⟨ak9,avZ,_,rfl,arG⟩:=b3 _ (hm.d 2 rfl) aBT;refine bR wn (bL Tryz.underlying106 Tryz.sizeOf105 rfl (I.g rfl) (I.g rfl) ak9 avZ) I rfl rfl fun a I=>?_
           refine bh 1 [0,0] [(0,.U aB),(3,.U cg),(4,.func (.func 103) #[] #[.U cg]),(6,.U lp),(23,.q aW a6 x_.l),(24,.i (x_.l.length:Int)),(25,.i fz),(30,.q hX iv cr.Fields),(31,.i (cr.Fields.length:Int)),(32,.i nh),(35,.agg #[ak pU.Name,.i pU.Kind.Kind,ak pU.Kind.aR])] [bM hX,bP hX+(nh).toNat* 3] (aD arG aE) I fun a I=>cZ (cs:=[ak [],.i 0,ak []]) wn (fc Tryz.zeroValue105 rfl rfl) I hm rfl rfl fun a ai' w _ I hm=>?_
           refine da (vs:=[ak pU.Name,.i pU.Kind.Kind,ak pU.Kind.aR]) 0 hm rfl wn rfl Tryz.sizeOf105 rfl rfl rfl rfl (I.g rfl) (I.g rfl) rfl fun w hm=>wpList_nil <| gQ _ _ <| a7 ?_
           refine bh 3 [0,1] [(0,.U aB),(3,.U cg),(4,.func (.func 103) #[] #[.U cg]),(6,.U lp),(23,.q aW a6 x_.l),(24,.i (x_.l.length:Int)),(25,.i fz),(30,.q hX iv cr.Fields),(31,.i (cr.Fields.length:Int)),(32,.i nh),(36,.func (.func 103) #[] #[.U cg]),(38,.agg #[.i pU.Kind.Kind,ak pU.Kind.aR])] [ai',1] (aD (a' (hm.e 0 rfl)) aE) I fun a I=>?_;obtain ⟨W5,azi,h⟩:=J.aQ h;have hc:=hm.l2 [3,2,0,1] rfl rfl
           refine mE (f:=103) (vs:=[.agg #[.i pU.Kind.Kind,ak pU.Kind.aR]]) (us:=[]) (cs:=[.U cg]) wn rfl Tryz.call103 (I.g rfl) ⟨(I.g rfl),trivial⟩ (Qa ((hc.into 2).pick ⟨⟨0,rfl⟩,trivial⟩) azi) I rfl rfl ?_;rintro _ w ⟨afU,agO,aF8,rfl,ai⟩;refine ⟨_,rfl,fun a I=>?_⟩;have hm:=hc.back 2 ai;clear ai hc;refine wpList_nil ?_
           have I:=I.sub (l':=[(0,.U aB),(3,.U cg),(4,.func (.func 103) #[] #[.U cg]),(6,.U lp),(23,.q aW a6 x_.l),(24,.i (x_.l.length:Int)),(25,.i fz),(30,.q hX iv cr.Fields),(31,.i (cr.Fields.length:Int)),(32,.i nh)]) ⟨rfl,rfl,rfl,rfl,rfl,rfl,rfl,rfl,rfl,rfl,trivial⟩;refine gF _ _ ?_
           refine cn [] [(0,.U aB),(3,.U cg),(4,.func (.func 103) #[] #[.U cg]),(6,.U lp),(23,.q aW a6 x_.l),(24,.i (x_.l.length:Int)),(25,.i fz),(30,.q hX iv cr.Fields),(31,.i (cr.Fields.length:Int)),(32,.i (J.av (nh+ 1)))] I fun a I=>?_;exact hr _ _ ⟨afU,agO,W5,aF8,J.av (nh+ 1),I.cut,hm.a1 [3,1,0] [0,2,3,4,5,6,7],h⟩
         refine wp_exit <| bD (bD (cD ?_));exact fH _ _ ⟨Ea,E8,rB,I4,I.cut,hm,(os h)⟩
       rintro a w ⟨Jo,J8,u9,N6,I,hm,bf⟩;subst Vt;have h:=S5;clear S5;refine ej _ _ <| wp_seq_k fun K gR=>rg [0,3] [(0,.U aB),(3,.U cg),(4,.func (.func 103) #[] #[.U cg]),(23,.q aW a6 x_.l),(24,.i (x_.l.length:Int)),(25,.i fz),(42,.q fA fK cr.az),(43,.i (cr.az.length:Int)),(44,.i 0)] [lp,3] (aD (a' (hm.e 0 rfl)) aE) I fun a I=>gR _ _ ?_;obtain ⟨Vv,h,S8⟩:=J.aQ h
       refine cp (fun a w=>∃ (Jp:aU) (J9:Nat) (u_:List (List UInt8)) (N9:dG),Fr ⟨96,[]⟩ [(0,.U aB),(3,.U cg),(4,.func (.func 103) #[] #[.U cg]),(23,.q aW a6 x_.l),(24,.i (x_.l.length:Int)),(25,.i fz)] a/\aw W M0 X w [au.bs lp 136 [ak cr.Name,ak cr.b0,.q hX iv cr.Fields,.q fA fK cr.az],au.row 9 1 (.q Jp J9 u_) u_ N9,au.bs cg 125 [.q Jp J9 u_]] [ap.rows bE N9 u_,aa J.b8 fA fK cr.az,aa J.aX hX iv cr.Fields,ap.c3 aB [.q aW a6 x_.l,.map (some b6),.q aS aT x_.b7],aa J.bd aW a6 x_.l,ap.map dA (Value.int .i64) b6 x_.cF,aa (aq .i64) aS aT x_.b7]/\Vv=u_) (fun K hF=>?_) ?_
       · clear S8
         refine cN (fun (eQ:Nat) a w=>∃ (BA:aU) (B4:Nat) (qu:List (List UInt8)) (DF:dG) (hz:Int),Fr ⟨96,[]⟩ [(0,.U aB),(3,.U cg),(4,.func (.func 103) #[] #[.U cg]),(23,.q aW a6 x_.l),(24,.i (x_.l.length:Int)),(25,.i fz),(42,.q fA fK cr.az),(43,.i (cr.az.length:Int)),(44,.i hz)] a/\aw W M0 X w [au.bs lp 136 [ak cr.Name,ak cr.b0,.q hX iv cr.Fields,.q fA fK cr.az],au.row 9 1 (.q BA B4 qu) qu DF,au.bs cg 125 [.q BA B4 qu]] [ap.rows bE DF qu,aa J.b8 fA fK cr.az,aa J.aX hX iv cr.Fields,ap.c3 aB [.q aW a6 x_.l,.map (some b6),.q aS aT x_.b7],aa J.bd aW a6 x_.l,ap.map dA (Value.int .i64) b6 x_.cF,aa (aq .i64) aS aT x_.b7]/\J.vw F cr eQ qu hz=some Vv) F ⟨Jo,J8,u9,N6,0,I.cut,hm,h⟩ ?_ ?_
         · rintro a w ⟨BA,B4,qu,DF,hz,I,hm,h⟩;exact absurd h (by simp [J.vw])
         rintro eQ a w ⟨BA,B4,qu,DF,hz,I,hm,h⟩ K iK;rw [J.vw] at h;refine aG [] [(0,.U aB),(3,.U cg),(4,.func (.func 103) #[] #[.U cg]),(23,.q aW a6 x_.l),(24,.i (x_.l.length:Int)),(25,.i fz),(42,.q fA fK cr.az),(43,.i (cr.az.length:Int)),(44,.i hz),(45,.bool (decide (hz <(cr.az.length:Int))))] I fun a I=>wp_seq_k fun K iA=>bn (I.g rfl) h (fun apg h=>?_) (fun apg h=>?_)
         · refine wp_skip <| iA _ _ <| wp_seq_k fun K iB=>?_;obtain ⟨adm,h,S9⟩:=J.aQ h
           refine cp (fun a w=>∃ (Jq:aU) (J_:Nat) (u':List (List UInt8)) (N_:dG),Fr ⟨96,[]⟩ [(0,.U aB),(3,.U cg),(4,.func (.func 103) #[] #[.U cg]),(23,.q aW a6 x_.l),(24,.i (x_.l.length:Int)),(25,.i fz),(42,.q fA fK cr.az),(43,.i (cr.az.length:Int)),(44,.i hz)] a/\aw W M0 X w [au.bs lp 136 [ak cr.Name,ak cr.b0,.q hX iv cr.Fields,.q fA fK cr.az],au.row 9 1 (.q Jq J_ u') u' N_,au.bs cg 125 [.q Jq J_ u']] [ap.rows bE N_ u',aa J.b8 fA fK cr.az,aa J.aX hX iv cr.Fields,ap.c3 aB [.q aW a6 x_.l,.map (some b6),.q aS aT x_.b7],aa J.bd aW a6 x_.l,ap.map dA (Value.int .i64) b6 x_.cF,aa (aq .i64) aS aT x_.b7]/\adm=u') (fun K iC=>?_) ?_
           · clear S9;refine wp_seq_k fun K kQ=>a7 ?_;obtain ⟨cH,aBZ,h⟩:=J.aQ h;obtain ⟨alc,av4,_,⟨kI,lK,kJ,lL,rfl,atw,atx⟩,arM⟩:=b3 _ (hm.d 1 rfl) aBZ;have hm:=hm.more (y:=aa J.dB kI lK cH.bA) atw;have hm:=hm.more (y:=aa J.eG kJ lL cH.bp) atx;refine bR wn (bL Tryz.underlying134 Tryz.sizeOf133 rfl (I.g rfl) (I.g rfl) alc av4) I rfl rfl fun a I=>?_
             refine bh 1 [0,0] [(0,.U aB),(3,.U cg),(4,.func (.func 103) #[] #[.U cg]),(23,.q aW a6 x_.l),(24,.i (x_.l.length:Int)),(25,.i fz),(42,.q fA fK cr.az),(43,.i (cr.az.length:Int)),(44,.i hz),(47,.agg #[ak cH.Name,.bool cH.Static,.q kI lK cH.bA,.i cH.Returns.Kind,ak cH.Returns.aR,.i cH.cT,.i cH.cS,ak cH.Code,.q kJ lL cH.bp])] [bM fA,bP fA+(hz).toNat* 9] (aD arM aE) I fun a I=>?_
             refine cZ (cs:=[ak [],.bool false,.slice none 0 0,.i 0,ak [],.i 0,.i 0,ak [],.slice none 0 0]) wn (fc Tryz.zeroValue133 rfl rfl) I hm rfl rfl fun a mc w _ I hm=>da (vs:=[ak cH.Name,.bool cH.Static,.q kI lK cH.bA,.i cH.Returns.Kind,ak cH.Returns.aR,.i cH.cT,.i cH.cS,ak cH.Code,.q kJ lL cH.bp]) 0 hm rfl wn rfl Tryz.sizeOf133 rfl rfl rfl rfl (I.g rfl) (I.g rfl) rfl fun w hm=>wpList_nil <| kQ _ _ <| wp_seq_k fun K kr=>wp_seq_k fun K nE=>?_
             refine rg [0,2] [(0,.U aB),(3,.U cg),(4,.func (.func 103) #[] #[.U cg]),(10,.U mc),(23,.q aW a6 x_.l),(24,.i (x_.l.length:Int)),(25,.i fz),(42,.q fA fK cr.az),(43,.i (cr.az.length:Int)),(44,.i hz),(49,.q kI lK cH.bA),(50,.i (cH.bA.length:Int)),(51,.i 0)] [mc,2] (aD (a' (hm.e 0 rfl)) aE) I fun a I=>nE _ _ ?_;obtain ⟨Vw,h,S_⟩:=J.aQ h
             refine cp (fun a w=>∃ (O6:aU) (PU:Nat) (yp:List (List UInt8)) (X2:dG),Fr ⟨96,[]⟩ [(0,.U aB),(3,.U cg),(4,.func (.func 103) #[] #[.U cg]),(10,.U mc),(23,.q aW a6 x_.l),(24,.i (x_.l.length:Int)),(25,.i fz),(42,.q fA fK cr.az),(43,.i (cr.az.length:Int)),(44,.i hz)] a/\aw W M0 X w [au.bs mc 133 [ak cH.Name,.bool cH.Static,.q kI lK cH.bA,.i cH.Returns.Kind,ak cH.Returns.aR,.i cH.cT,.i cH.cS,ak cH.Code,.q kJ lL cH.bp],au.bs lp 136 [ak cr.Name,ak cr.b0,.q hX iv cr.Fields,.q fA fK cr.az],au.row 9 1 (.q O6 PU yp) yp X2,au.bs cg 125 [.q O6 PU yp]] [ap.rows bE X2 yp,aa J.eG kJ lL cH.bp,aa J.dB kI lK cH.bA,aa J.b8 fA fK cr.az,aa J.aX hX iv cr.Fields,ap.c3 aB [.q aW a6 x_.l,.map (some b6),.q aS aT x_.b7],aa J.bd aW a6 x_.l,ap.map dA (Value.int .i64) b6 x_.cF,aa (aq .i64) aS aT x_.b7]/\Vw=yp) (fun K kR=>?_) ?_
             · clear S_
               refine cN (fun (gk:Nat) a w=>∃ (Eb:aU) (E9:Nat) (rC:List (List UInt8)) (I5:dG) (ni:Int),Fr ⟨96,[]⟩ [(0,.U aB),(3,.U cg),(4,.func (.func 103) #[] #[.U cg]),(10,.U mc),(23,.q aW a6 x_.l),(24,.i (x_.l.length:Int)),(25,.i fz),(42,.q fA fK cr.az),(43,.i (cr.az.length:Int)),(44,.i hz),(49,.q kI lK cH.bA),(50,.i (cH.bA.length:Int)),(51,.i ni)] a/\aw W M0 X w [au.bs mc 133 [ak cH.Name,.bool cH.Static,.q kI lK cH.bA,.i cH.Returns.Kind,ak cH.Returns.aR,.i cH.cT,.i cH.cS,ak cH.Code,.q kJ lL cH.bp],au.bs lp 136 [ak cr.Name,ak cr.b0,.q hX iv cr.Fields,.q fA fK cr.az],au.row 9 1 (.q Eb E9 rC) rC I5,au.bs cg 125 [.q Eb E9 rC]] [ap.rows bE I5 rC,aa J.eG kJ lL cH.bp,aa J.dB kI lK cH.bA,aa J.b8 fA fK cr.az,aa J.aX hX iv cr.Fields,ap.c3 aB [.q aW a6 x_.l,.map (some b6),.q aS aT x_.b7],aa J.bd aW a6 x_.l,ap.map dA (Value.int .i64) b6 x_.cF,aa (aq .i64) aS aT x_.b7]/\J.vx cH gk rC ni=some Vw) F ⟨BA,B4,qu,DF,0,I.cut,hm.eS [2,0,1,3,4,5,6,7,8],h⟩ ?_ ?_
               · rintro a w ⟨Eb,E9,rC,I5,ni,I,hm,h⟩;exact absurd h (by simp [J.vx])
               rintro gk a w ⟨Eb,E9,rC,I5,ni,I,hm,h⟩ K kS;rw [J.vx] at h;refine aG [] [(0,.U aB),(3,.U cg),(4,.func (.func 103) #[] #[.U cg]),(10,.U mc),(23,.q aW a6 x_.l),(24,.i (x_.l.length:Int)),(25,.i fz),(42,.q fA fK cr.az),(43,.i (cr.az.length:Int)),(44,.i hz),(49,.q kI lK cH.bA),(50,.i (cH.bA.length:Int)),(51,.i ni),(52,.bool (decide (ni <(cH.bA.length:Int))))] I fun a I=>wp_seq_k fun K ls=>bn (I.g rfl) h (fun aph h=>?_) (fun aph h=>?_)
               · refine wp_skip <| ls _ _ <| wp_seq_k fun K ov=>wp_block <| wp_seq_k fun K pn=>a7 ?_;obtain ⟨r3,aB0,h⟩:=J.aQ h;obtain ⟨ald,av5,_,rfl,arN⟩:=b3 _ (hm.d 2 rfl) aB0;refine bR wn (bL Tryz.underlying130 Tryz.sizeOf103 rfl (I.g rfl) (I.g rfl) ald av5) I rfl rfl fun a I=>?_
                 refine bh 1 [0,0] [(0,.U aB),(3,.U cg),(4,.func (.func 103) #[] #[.U cg]),(10,.U mc),(23,.q aW a6 x_.l),(24,.i (x_.l.length:Int)),(25,.i fz),(42,.q fA fK cr.az),(43,.i (cr.az.length:Int)),(44,.i hz),(49,.q kI lK cH.bA),(50,.i (cH.bA.length:Int)),(51,.i ni),(54,.agg #[.i r3.Kind,ak r3.aR])] [bM kI,bP kI+(ni).toNat* 2] (aD arN aE) I fun a I=>cZ (cs:=[.i 0,ak []]) wn (fc Tryz.zeroValue103 rfl rfl) I hm rfl rfl fun a aja w _ I hm=>?_
                 refine da (vs:=[.i r3.Kind,ak r3.aR]) 0 hm rfl wn rfl Tryz.sizeOf103 rfl rfl rfl rfl (I.g rfl) (I.g rfl) rfl fun w hm=>wpList_nil <| pn _ _ <| a7 ?_
                 refine bh 2 [0,0] [(0,.U aB),(3,.U cg),(4,.func (.func 103) #[] #[.U cg]),(10,.U mc),(23,.q aW a6 x_.l),(24,.i (x_.l.length:Int)),(25,.i fz),(42,.q fA fK cr.az),(43,.i (cr.az.length:Int)),(44,.i hz),(49,.q kI lK cH.bA),(50,.i (cH.bA.length:Int)),(51,.i ni),(55,.func (.func 103) #[] #[.U cg]),(56,.agg #[.i r3.Kind,ak r3.aR])] [aja,0] (aD (a' (hm.e 0 rfl)) aE) I fun a I=>?_;obtain ⟨W8,azn,h⟩:=J.aQ h;have hc:=hm.l2 [4,3,0,1,2] rfl rfl
                 refine mE (f:=103) (vs:=[.agg #[.i r3.Kind,ak r3.aR]]) (us:=[]) (cs:=[.U cg]) wn rfl Tryz.call103 (I.g rfl) ⟨(I.g rfl),trivial⟩ (Qa ((hc.into 2).pick ⟨⟨0,rfl⟩,trivial⟩) azn) I rfl rfl ?_;rintro _ w ⟨afV,agP,aF_,rfl,ai⟩;refine ⟨_,rfl,fun a I=>?_⟩;have hm:=hc.back 2 ai;clear ai hc;refine wpList_nil ?_
                 have I:=I.sub (l':=[(0,.U aB),(3,.U cg),(4,.func (.func 103) #[] #[.U cg]),(10,.U mc),(23,.q aW a6 x_.l),(24,.i (x_.l.length:Int)),(25,.i fz),(42,.q fA fK cr.az),(43,.i (cr.az.length:Int)),(44,.i hz),(49,.q kI lK cH.bA),(50,.i (cH.bA.length:Int)),(51,.i ni)]) ⟨rfl,rfl,rfl,rfl,rfl,rfl,rfl,rfl,rfl,rfl,rfl,rfl,rfl,trivial⟩;refine ov _ _ ?_
                 refine cn [] [(0,.U aB),(3,.U cg),(4,.func (.func 103) #[] #[.U cg]),(10,.U mc),(23,.q aW a6 x_.l),(24,.i (x_.l.length:Int)),(25,.i fz),(42,.q fA fK cr.az),(43,.i (cr.az.length:Int)),(44,.i hz),(49,.q kI lK cH.bA),(50,.i (cH.bA.length:Int)),(51,.i (J.av (ni+ 1)))] I fun a I=>?_;exact kS _ _ ⟨afV,agP,W8,aF_,J.av (ni+ 1),I.cut,hm.a1 [3,4,1,0] [0,2,3,4,5,6,7,8,9],h⟩
               refine wp_exit <| bD (bD (cD ?_));exact kR _ _ ⟨Eb,E9,rC,I5,I.cut,hm,(os h)⟩
             rintro a w ⟨O6,PU,yp,X2,I,hm,bf⟩;subst Vw;have h:=S_;clear S_;refine kr _ _ <| wp_seq_k fun K mZ=>a7 <| bh 3 [0,3] [(0,.U aB),(3,.U cg),(4,.func (.func 103) #[] #[.U cg]),(10,.U mc),(23,.q aW a6 x_.l),(24,.i (x_.l.length:Int)),(25,.i fz),(42,.q fA fK cr.az),(43,.i (cr.az.length:Int)),(44,.i hz),(59,.func (.func 103) #[] #[.U cg]),(61,.agg #[.i cH.Returns.Kind,ak cH.Returns.aR])] [mc,3] (aD (a' (hm.e 0 rfl)) aE) I fun a I=>?_;obtain ⟨W9,azo,h⟩:=J.aQ h
             have hc:=hm.l2 [3,2,0,1] rfl rfl;refine mE (f:=103) (vs:=[.agg #[.i cH.Returns.Kind,ak cH.Returns.aR]]) (us:=[]) (cs:=[.U cg]) wn rfl Tryz.call103 (I.g rfl) ⟨(I.g rfl),trivial⟩ (Qa ((hc.into 2).pick ⟨⟨0,rfl⟩,trivial⟩) azo) I rfl rfl ?_;rintro _ w ⟨afW,agQ,aF',rfl,ai⟩;refine ⟨_,rfl,fun a I=>?_⟩;have hm:=hc.back 2 ai;clear ai hc;refine wpList_nil ?_
             have I:=I.sub (l':=[(0,.U aB),(3,.U cg),(4,.func (.func 103) #[] #[.U cg]),(10,.U mc),(23,.q aW a6 x_.l),(24,.i (x_.l.length:Int)),(25,.i fz),(42,.q fA fK cr.az),(43,.i (cr.az.length:Int)),(44,.i hz)]) ⟨rfl,rfl,rfl,rfl,rfl,rfl,rfl,rfl,rfl,rfl,trivial⟩;refine mZ _ _ <| wp_seq_k fun K po=>?_
             refine rg [0,8] [(0,.U aB),(3,.U cg),(4,.func (.func 103) #[] #[.U cg]),(23,.q aW a6 x_.l),(24,.i (x_.l.length:Int)),(25,.i fz),(42,.q fA fK cr.az),(43,.i (cr.az.length:Int)),(44,.i hz),(64,.q kJ lL cH.bp),(65,.i (cH.bp.length:Int)),(66,.i 0)] [mc,8] (aD (a' (hm.e 2 rfl)) aE) I fun a I=>po _ _ ?_;obtain ⟨Vx,h,S'⟩:=J.aQ h
             refine cp (fun a w=>∃ (Jr:aU) (J':Nat) (va:List (List UInt8)) (Oa:dG),Fr ⟨96,[]⟩ [(0,.U aB),(3,.U cg),(4,.func (.func 103) #[] #[.U cg]),(23,.q aW a6 x_.l),(24,.i (x_.l.length:Int)),(25,.i fz),(42,.q fA fK cr.az),(43,.i (cr.az.length:Int)),(44,.i hz)] a/\aw W M0 X w [au.bs cg 125 [.q Jr J' va],au.row 9 1 (.q Jr J' va) va Oa,au.bs mc 133 [ak cH.Name,.bool cH.Static,.q kI lK cH.bA,.i cH.Returns.Kind,ak cH.Returns.aR,.i cH.cT,.i cH.cS,ak cH.Code,.q kJ lL cH.bp],au.bs lp 136 [ak cr.Name,ak cr.b0,.q hX iv cr.Fields,.q fA fK cr.az]] [ap.rows bE Oa va,aa J.eG kJ lL cH.bp,aa J.dB kI lK cH.bA,aa J.b8 fA fK cr.az,aa J.aX hX iv cr.Fields,ap.c3 aB [.q aW a6 x_.l,.map (some b6),.q aS aT x_.b7],aa J.bd aW a6 x_.l,ap.map dA (Value.int .i64) b6 x_.cF,aa (aq .i64) aS aT x_.b7]/\Vx=va) (fun K m0=>?_) ?_
             · clear S'
               refine cN (fun (jo:Nat) a w=>∃ (BB:aU) (B5:Nat) (qv:List (List UInt8)) (I6:dG) (nj:Int),Fr ⟨96,[]⟩ [(0,.U aB),(3,.U cg),(4,.func (.func 103) #[] #[.U cg]),(23,.q aW a6 x_.l),(24,.i (x_.l.length:Int)),(25,.i fz),(42,.q fA fK cr.az),(43,.i (cr.az.length:Int)),(44,.i hz),(64,.q kJ lL cH.bp),(65,.i (cH.bp.length:Int)),(66,.i nj)] a/\aw W M0 X w [au.bs cg 125 [.q BB B5 qv],au.row 9 1 (.q BB B5 qv) qv I6,au.bs mc 133 [ak cH.Name,.bool cH.Static,.q kI lK cH.bA,.i cH.Returns.Kind,ak cH.Returns.aR,.i cH.cT,.i cH.cS,ak cH.Code,.q kJ lL cH.bp],au.bs lp 136 [ak cr.Name,ak cr.b0,.q hX iv cr.Fields,.q fA fK cr.az]] [ap.rows bE I6 qv,aa J.eG kJ lL cH.bp,aa J.dB kI lK cH.bA,aa J.b8 fA fK cr.az,aa J.aX hX iv cr.Fields,ap.c3 aB [.q aW a6 x_.l,.map (some b6),.q aS aT x_.b7],aa J.bd aW a6 x_.l,ap.map dA (Value.int .i64) b6 x_.cF,aa (aq .i64) aS aT x_.b7]/\J.vy cH jo qv nj=some Vx) F ⟨afW,agQ,W9,aF',0,I.cut,hm.eS [0,2,3,4,5,6,7,8,9],h⟩ ?_ ?_
               · rintro a w ⟨BB,B5,qv,I6,nj,I,hm,h⟩;exact absurd h (by simp [J.vy])
               rintro jo a w ⟨BB,B5,qv,I6,nj,I,hm,h⟩ K nF;rw [J.vy] at h;refine aG [] [(0,.U aB),(3,.U cg),(4,.func (.func 103) #[] #[.U cg]),(23,.q aW a6 x_.l),(24,.i (x_.l.length:Int)),(25,.i fz),(42,.q fA fK cr.az),(43,.i (cr.az.length:Int)),(44,.i hz),(64,.q kJ lL cH.bp),(65,.i (cH.bp.length:Int)),(66,.i nj),(67,.bool (decide (nj <(cH.bp.length:Int))))] I fun a I=>wp_seq_k fun K zQ=>bn (I.g rfl) h (fun api h=>?_) (fun api h=>?_)
               · refine wp_skip <| zQ _ _ <| wp_seq_k fun K nG=>wp_block <| wp_seq_k fun K um=>a7 ?_;obtain ⟨oU,aB1,h⟩:=J.aQ h;obtain ⟨ale,av6,_,rfl,arO⟩:=b3 _ (hm.d 1 rfl) aB1;refine bR wn (bL Tryz.underlying131 Tryz.sizeOf150 rfl (I.g rfl) (I.g rfl) ale av6) I rfl rfl fun a I=>?_
                 refine bh 1 [0,0] [(0,.U aB),(3,.U cg),(4,.func (.func 103) #[] #[.U cg]),(23,.q aW a6 x_.l),(24,.i (x_.l.length:Int)),(25,.i fz),(42,.q fA fK cr.az),(43,.i (cr.az.length:Int)),(44,.i hz),(64,.q kJ lL cH.bp),(65,.i (cH.bp.length:Int)),(66,.i nj),(69,.agg #[.i oU.From,.i oU.To,.i oU.hB,ak oU.aR])] [bM kJ,bP kJ+(nj).toNat* 4] (aD arO aE) I fun a I=>cZ (cs:=[.i 0,.i 0,.i 0,ak []]) wn (fc Tryz.zeroValue150 rfl rfl) I hm rfl rfl fun a ajb w _ I hm=>?_
                 refine da (vs:=[.i oU.From,.i oU.To,.i oU.hB,ak oU.aR]) 0 hm rfl wn rfl Tryz.sizeOf150 rfl rfl rfl rfl (I.g rfl) (I.g rfl) rfl fun w hm=>wpList_nil <| um _ _ <| a7 ?_
                 refine bh 3 [0,0,1,3] [(0,.U aB),(3,.U cg),(4,.func (.func 103) #[] #[.U cg]),(23,.q aW a6 x_.l),(24,.i (x_.l.length:Int)),(25,.i fz),(42,.q fA fK cr.az),(43,.i (cr.az.length:Int)),(44,.i hz),(64,.q kJ lL cH.bp),(65,.i (cH.bp.length:Int)),(66,.i nj),(70,.q BB B5 qv),(72,ak oU.aR)] [ajb,3,cg,0] (aD (a' (hm.e 1 rfl)) (aD (a' (hm.e 0 rfl)) aE)) I fun a I=>?_
                 refine hk (cs:=[ak oU.aR]) wn (gW (vs:=[(0,ak oU.aR)]) Tryz.underlying125 Tryz.sizeOf9 Tryz.zeroValue9 rfl rfl rfl ⟨⟨(I.g rfl),rfl⟩,trivial⟩ (by kernel_rfl)) I hm rfl rfl fun a aH6 w _ I hm=>?_;obtain ⟨LH,axo,h⟩:=J.aQ h;refine j5 (T:=bE) (ml:=[oU.aR]) 3 0 0 hm rfl rfl rfl Tryz.underlying125 ym rfl rfl axo rfl rfl ⟨_,_,rfl,rfl,rfl⟩ wn rfl (I.g rfl) (I.g rfl) I rfl rfl fun a YG ZT aGa w I hm=>da (vs:=[.q YG ZT LH]) 1 hm rfl wn rfl Tryz.sizeOf125 rfl rfl rfl rfl (I.g rfl) (I.g rfl) rfl fun w hm=>wpList_nil ?_
                 have I:=I.sub (l':=[(0,.U aB),(3,.U cg),(4,.func (.func 103) #[] #[.U cg]),(23,.q aW a6 x_.l),(24,.i (x_.l.length:Int)),(25,.i fz),(42,.q fA fK cr.az),(43,.i (cr.az.length:Int)),(44,.i hz),(64,.q kJ lL cH.bp),(65,.i (cH.bp.length:Int)),(66,.i nj)]) ⟨rfl,rfl,rfl,rfl,rfl,rfl,rfl,rfl,rfl,rfl,rfl,rfl,trivial⟩;refine nG _ _ ?_
                 refine cn [] [(0,.U aB),(3,.U cg),(4,.func (.func 103) #[] #[.U cg]),(23,.q aW a6 x_.l),(24,.i (x_.l.length:Int)),(25,.i fz),(42,.q fA fK cr.az),(43,.i (cr.az.length:Int)),(44,.i hz),(64,.q kJ lL cH.bp),(65,.i (cH.bp.length:Int)),(66,.i (J.av (nj+ 1)))] I fun a I=>?_;exact nF _ _ ⟨YG,ZT,LH,aGa,J.av (nj+ 1),I.cut,hm.a1 [1,2,3,4] [0,2,3,4,5,6,7,8,9],h⟩
               refine wp_exit <| bD (bD (cD ?_));exact m0 _ _ ⟨BB,B5,qv,I6,I.cut,hm,(os h)⟩
             rintro a w ⟨Jr,J',va,Oa,I,hm,bf⟩;subst Vx;have h:=S';clear S';exact iC _ _ ⟨Jr,J',va,Oa,I.cut,hm.a1 [3,1,0] [0,3,4,5,6,7,8],(os h)⟩
           rintro a w ⟨Jq,J_,u',N_,I,hm,bf⟩;subst adm;have h:=S9;clear S9;refine iB _ _ <| cn [] [(0,.U aB),(3,.U cg),(4,.func (.func 103) #[] #[.U cg]),(23,.q aW a6 x_.l),(24,.i (x_.l.length:Int)),(25,.i fz),(42,.q fA fK cr.az),(43,.i (cr.az.length:Int)),(44,.i (J.av (hz+ 1)))] I fun a I=>?_;exact iK _ _ ⟨Jq,J_,u',N_,J.av (hz+ 1),I.cut,hm,h⟩
         refine wp_exit <| bD (bD (cD ?_));exact hF _ _ ⟨BA,B4,qu,DF,I.cut,hm,(os h)⟩
       rintro a w ⟨Jp,J9,u_,N9,I,hm,bf⟩;subst Vv;have h:=S8;clear S8;exact dN _ _ ⟨Jp,J9,u_,N9,I.cut,hm.a1 [1,2] [0,3,4,5,6],(os h)⟩
     rintro a w ⟨Jn,J7,u7,N5,I,hm,bf⟩;subst adk;have h:=S4;clear S4;refine dx _ _ <| cn [] [(0,.U aB),(3,.U cg),(4,.func (.func 103) #[] #[.U cg]),(23,.q aW a6 x_.l),(24,.i (x_.l.length:Int)),(25,.i (J.av (fz+ 1)))] I fun a I=>?_;exact dH _ _ ⟨Jn,J7,u7,N5,J.av (fz+ 1),I.cut,hm,h⟩
   refine wp_exit <| bD (bD (cD ?_));exact eb _ _ ⟨Bz,B3,qs,DB,I.cut,hm,(os h)⟩
 rintro a w ⟨l7,nz,gG,Bk,I,hm,bf⟩;subst Va;have h:=SJ;clear SJ;refine c4 _ _ <| wp_seq_k fun K rh=>wp_seq_k fun K pq=>rg [0,0] [(0,.U aB),(78,.q l7 nz gG),(79,.i (gG.length:Int)),(80,.i 0)] [cg,0] (aD (a' (hm.e 1 rfl)) aE) I fun a I=>pq _ _ ?_;obtain ⟨Vy,h,Ta⟩:=J.eC h
 refine cp (fun a w=>Fr ⟨96,[]⟩ [] a/\aw W M0 X w [au.row 9 1 (.q l7 nz gG) gG Bk,au.bs cg 125 [.q l7 nz gG]] [ap.rows bE Bk gG,ap.c3 aB [.q aW a6 x_.l,.map (some b6),.q aS aT x_.b7],aa J.bd aW a6 x_.l,ap.map dA (Value.int .i64) b6 x_.cF,aa (aq .i64) aS aT x_.b7]/\Vy=(.go ())) (fun K pr=>?_) ?_
 · refine cN (fun (kU:Nat) a w=>∃ (mz:Int),Fr ⟨96,[]⟩ [(0,.U aB),(78,.q l7 nz gG),(79,.i (gG.length:Int)),(80,.i mz)] a/\aw W M0 X w [au.row 9 1 (.q l7 nz gG) gG Bk,au.bs cg 125 [.q l7 nz gG]] [ap.rows bE Bk gG,ap.c3 aB [.q aW a6 x_.l,.map (some b6),.q aS aT x_.b7],aa J.bd aW a6 x_.l,ap.map dA (Value.int .i64) b6 x_.cF,aa (aq .i64) aS aT x_.b7]/\J.yC x_ gG kU mz=some Vy) F ⟨0,I.cut,hm,h⟩ ?_ ?_
   · rintro a w ⟨mz,I,hm,h⟩;exact absurd h (by simp [J.yC])
   rintro kU a w ⟨mz,I,hm,h⟩ K nH;rw [J.yC] at h;refine aG [] [(0,.U aB),(78,.q l7 nz gG),(79,.i (gG.length:Int)),(80,.i mz),(81,.bool (decide (mz <(gG.length:Int))))] I fun a I=>wp_seq_k fun K uo=>bn (I.g rfl) h (fun apj h=>?_) (fun apj h=>?_)
   · refine wp_skip <| uo _ _ <| wp_seq_k fun K uq=>wp_block <| wp_seq_k fun K p9=>a7 ?_;obtain ⟨Dv,aB2,h⟩:=J.aQ h;obtain ⟨alf,av7,_,rfl,arP⟩:=hJ (hm.e 0 rfl) (hm.d 0 rfl) aB2;refine bR wn (bL Tryz.underlying125 Tryz.sizeOf9 rfl (I.g rfl) (I.g rfl) alf av7) I rfl rfl fun a I=>bh 2 [0,0] [(0,.U aB),(16,ak Dv),(78,.q l7 nz gG),(79,.i (gG.length:Int)),(80,.i mz)] [bM l7,bP l7+(mz).toNat* 1] (aD arP aE) I fun a I=>wpList_nil (p9 _ _ ?_);refine wp_seq_k fun K ur=>a7 ?_
     refine bh 5 [0,1] [(0,.U aB),(78,.q l7 nz gG),(79,.i (gG.length:Int)),(80,.i mz),(88,.map (some b6)),(89,ak Dv)] [aB,1] (aD (hm.d 1 rfl).2.2 aE) I fun a I=>bR wn (I' (K:=dA) (ev:=(Value.int .i64)) Tryz.underlying120 Tryz.underlying9 Tryz.zeroValue3 ((hm.d 3 rfl).2.2) rfl (I.g rfl) (I.g rfl)) I rfl rfl fun a I=>aM 5 [] [(0,.U aB),(18,.bool ((J.dr x_.cF Dv).isSome)),(78,.q l7 nz gG),(79,.i (gG.length:Int)),(80,.i mz)] I fun a I=>wpList_nil (ur _ _ ?_);refine wp_seq_k fun K sG=>?_
     refine cn [] [(0,.U aB),(78,.q l7 nz gG),(79,.i (gG.length:Int)),(80,.i mz),(94,.bool (!((J.dr x_.cF Dv).isSome)))] I fun a I=>sG _ _ <| bn (I.g rfl) h (fun apk h=>?_) (fun apk h=>?_)
     · refine aG [] [(2,.i 5)] I fun a I=>wp_ret ?_;obtain rfl:=aH h;obtain rfl:=aH Ta;refine ba (ao (ao (ba (ao (ao ?_)))));refine bq Tryz.results78 I rfl ?_;exact ⟨rfl,hm.a1 [] []⟩
     refine wp_skip <| uq _ _ <| cn [] [(0,.U aB),(78,.q l7 nz gG),(79,.i (gG.length:Int)),(80,.i (J.av (mz+ 1)))] I fun a I=>?_;exact nH _ _ ⟨J.av (mz+ 1),I.cut,hm,h⟩
   refine wp_exit <| bD (bD (cD ?_));exact pr _ _ ⟨I.cut,hm,(os h)⟩
 rintro a w ⟨I,hm,bf⟩;subst Vy;have h:=Ta;clear Ta;dsimp only [J.ep] at h;refine rh _ _ <| aG [] [(2,.i 0)] I fun a I=>wp_ret ?_;obtain rfl:=aH h;refine bq Tryz.results78 I rfl ?_;exact ⟨rfl,hm.a1 [] []⟩
theorem aas {W:World} {X:List Nat} {F:Nat} {aj:List (List UInt8)} {r:Bool} {ad:aU} {af:Nat} {M0:List Nat} (hm:aw W M0 X W [] [aa bE ad af aj]) (h:J.CV F aj=some r) :
 Calls Tryz.prog 104 [.q ad af aj].toArray W (fun e aJ=>e= .returned (.bool r)/\aw W M0 X aJ [] []):=by
 refine enter Tryz.func104 rfl Tryz.ntmps104 rfl fun a I=>?_;rw [J.CV] at h;refine aG [] [(0,.q ad af aj)] I fun a I=>wp_seq_k fun K bT=>a7 <| LY (κ:=List UInt8) (β:=Bool) dA Value.bool wn rfl I hm rfl rfl fun a cm w _ I hm=>aM 1 [] [(0,.q ad af aj),(3,.map (some cm))] I fun a I=>wpList_nil (bT _ _ ?_);refine wp_seq_k fun K cw=>aG [] [(0,.q ad af aj),(3,.map (some cm)),(7,.q ad af aj),(8,.i (aj.length:Int)),(9,.i 0)] I fun a I=>?_;obtain ⟨UU,h,Sr⟩:=J.aQ h
 refine cp (fun a w=>∃ (CW:List ((List UInt8) × Bool)),Fr ⟨21,[]⟩ [(0,.q ad af aj),(3,.map (some cm))] a/\aw W M0 X w [au.map dA Value.bool cm CW] [aa bE ad af aj]/\UU=CW) (fun K cG=>?_) ?_
 · clear Sr;refine cN (fun (bz:Nat) a w=>∃ (vz:List ((List UInt8) × Bool)) (nW:Int),Fr ⟨21,[]⟩ [(0,.q ad af aj),(3,.map (some cm)),(7,.q ad af aj),(8,.i (aj.length:Int)),(9,.i nW)] a/\aw W M0 X w [au.map dA Value.bool cm vz] [aa bE ad af aj]/\J.yD aj bz vz nW=some UU) F ⟨[],0,I.cut,hm,h⟩ ?_ ?_
   · rintro a w ⟨vz,nW,I,hm,h⟩;exact absurd h (by simp [J.yD])
   rintro bz a w ⟨vz,nW,I,hm,h⟩ K eb;rw [J.yD] at h;refine aG [] [(0,.q ad af aj),(3,.map (some cm)),(7,.q ad af aj),(8,.i (aj.length:Int)),(9,.i nW),(10,.bool (decide (nW <(aj.length:Int))))] I fun a I=>wp_seq_k fun K c6=>bn (I.g rfl) h (fun aoN h=>?_) (fun aoN h=>?_)
   · refine wp_skip <| c6 _ _ <| wp_seq_k fun K dE=>wp_block <| wp_seq_k fun K dx=>a7 ?_;obtain ⟨IF,aBH,h⟩:=J.aQ h;obtain ⟨ak0,avR,_,rfl,arB⟩:=b3 _ (hm.d 0 rfl) aBH;refine bR wn (bL Tryz.underlying125 Tryz.sizeOf9 rfl (I.g rfl) (I.g rfl) ak0 avR) I rfl rfl fun a I=>bh 2 [0,0] [(0,.q ad af aj),(3,.map (some cm)),(5,ak IF),(7,.q ad af aj),(8,.i (aj.length:Int)),(9,.i nW)] [bM ad,bP ad+(nW).toNat* 1] (aD arB aE) I fun a I=>wpList_nil (dx _ _ ?_);refine a7 ?_
     refine aM 2 [] [(0,.q ad af aj),(3,.map (some cm)),(7,.q ad af aj),(8,.i (aj.length:Int)),(9,.i nW),(13,.map (some cm)),(14,ak IF)] I fun a I=>MH (K:=dA) (ev:=Value.bool) 0 hm rfl wn Tryz.underlying178 Tryz.underlying9 (.inl rfl) (I.g rfl) (I.g rfl) (c' _ _) rfl fun w hm=>wpList_nil <| dE _ _ <| cn [] [(0,.q ad af aj),(3,.map (some cm)),(7,.q ad af aj),(8,.i (aj.length:Int)),(9,.i (J.av (nW+ 1)))] I fun a I=>?_;exact eb _ _ ⟨J.iM vz IF true,J.av (nW+ 1),I.cut,hm,h⟩
   refine wp_exit <| bD (bD (cD ?_));exact cG _ _ ⟨vz,I.cut,hm,(os h)⟩
 rintro a w ⟨CW,I,hm,bf⟩;subst UU;have h:=Sr;clear Sr;refine cw _ _ <| wp_seq_k fun K dN=>a7 <| aM 1 [] [(0,.q ad af aj),(16,.map (some cm))] I fun a I=>bR wn (X6 (K:=dA) (ev:=Value.bool) Tryz.underlying178 ((hm.e 0 rfl)) rfl (I.g rfl)) I rfl rfl fun a I=>aM 4 [] [(2,.bool (decide ((CW.length:Int) <(aj.length:Int))))] I fun a I=>wpList_nil (dN _ _ ?_);refine wp_ret ?_;obtain rfl:=aH h;refine bq Tryz.results104 I rfl ?_;exact ⟨rfl,hm.a1 [] []⟩
theorem ahG {W:World} {X:List Nat} {F:Nat} {x_:J.du} {r:Int} {aB:Nat} {aW:aU} {a6:Nat} {b6:Nat} {aS:aU} {aT:Nat} {M0:List Nat} (hm:aw W M0 X W [] [ap.c3 aB [.q aW a6 x_.l,.map (some b6),.q aS aT x_.b7],aa J.bd aW a6 x_.l,ap.map dA (Value.int .i64) b6 x_.cF,aa (aq .i64) aS aT x_.b7]) (h:J.HH F x_=some r) :
 Calls Tryz.prog 79 [.U aB].toArray W (fun e aJ=>e= .returned (.i r)/\aw W M0 X aJ [] []):=by
 refine enter Tryz.func79 rfl Tryz.ntmps79 rfl fun a I=>?_;rw [J.HH] at h;refine aG [] [(0,.U aB)] I fun a I=>wp_seq_k fun K bT=>wp_seq_k fun K cw=>rg [0,0] [(0,.U aB),(14,.q aW a6 x_.l),(15,.i (x_.l.length:Int)),(16,.i 0)] [aB,0] (aD (hm.d 0 rfl).2.2 aE) I fun a I=>cw _ _ ?_;obtain ⟨UQ,h,K7⟩:=J.eC h
 refine cp (fun a w=>Fr ⟨55,[]⟩ [] a/\aw W M0 X w [] [ap.c3 aB [.q aW a6 x_.l,.map (some b6),.q aS aT x_.b7],aa J.bd aW a6 x_.l,ap.map dA (Value.int .i64) b6 x_.cF,aa (aq .i64) aS aT x_.b7]/\UQ=(.go ())) (fun K c4=>?_) ?_
 · refine cN (fun (bz:Nat) a w=>∃ (fE:Int),Fr ⟨55,[]⟩ [(0,.U aB),(14,.q aW a6 x_.l),(15,.i (x_.l.length:Int)),(16,.i fE)] a/\aw W M0 X w [] [ap.c3 aB [.q aW a6 x_.l,.map (some b6),.q aS aT x_.b7],aa J.bd aW a6 x_.l,ap.map dA (Value.int .i64) b6 x_.cF,aa (aq .i64) aS aT x_.b7]/\J.yz F x_ bz fE=some UQ) F ⟨0,I.cut,hm,h⟩ ?_ ?_
   · rintro a w ⟨fE,I,hm,h⟩;exact absurd h (by simp [J.yz])
   rintro bz a w ⟨fE,I,hm,h⟩ K cG;rw [J.yz] at h;refine aG [] [(0,.U aB),(14,.q aW a6 x_.l),(15,.i (x_.l.length:Int)),(16,.i fE),(17,.bool (decide (fE <(x_.l.length:Int))))] I fun a I=>wp_seq_k fun K dH=>bn (I.g rfl) h (fun aoE h=>?_) (fun aoE h=>?_)
   · refine wp_skip <| dH _ _ <| wp_seq_k fun K c6=>?_;obtain ⟨adf,h,La⟩:=J.fl h;refine cp (fun a w=>Fr ⟨55,[]⟩ [(0,.U aB),(14,.q aW a6 x_.l),(15,.i (x_.l.length:Int)),(16,.i fE)] a/\aw W M0 X w [] [ap.c3 aB [.q aW a6 x_.l,.map (some b6),.q aS aT x_.b7],aa J.bd aW a6 x_.l,ap.map dA (Value.int .i64) b6 x_.cF,aa (aq .i64) aS aT x_.b7]/\adf=(.go ())) (fun K dE=>?_) ?_
     · refine wp_seq_k fun K dx=>a7 <| aM 1 [] [(0,.U aB),(14,.q aW a6 x_.l),(15,.i (x_.l.length:Int)),(16,.i fE),(18,.i fE)] I fun a I=>?_;obtain ⟨eN,aBA,h⟩:=J.aQ h;obtain ⟨akQ,avG,_,⟨p1,p5,kn,lk,rfl,atg,ath⟩,aro⟩:=b3 _ (hm.d 1 rfl) aBA;have hm:=hm.more (y:=aa J.aX p1 p5 eN.Fields) atg;have hm:=hm.more (y:=aa J.b8 kn lk eN.az) ath;refine bR wn (bL Tryz.underlying25 Tryz.sizeOf136 rfl (I.g rfl) (I.g rfl) akQ avG) I rfl rfl fun a I=>?_
       refine bh 1 [0,0] [(0,.U aB),(14,.q aW a6 x_.l),(15,.i (x_.l.length:Int)),(16,.i fE),(18,.i fE),(20,.agg #[ak eN.Name,ak eN.b0,.q p1 p5 eN.Fields,.q kn lk eN.az])] [bM aW,bP aW+(fE).toNat* 4] (aD aro aE) I fun a I=>cZ (cs:=[ak [],ak [],.slice none 0 0,.slice none 0 0]) wn (fc Tryz.zeroValue136 rfl rfl) I hm rfl rfl fun a mW w _ I hm=>?_
       refine aM 1 [] [(0,.U aB),(3,.i fE),(4,.U mW),(14,.q aW a6 x_.l),(15,.i (x_.l.length:Int)),(16,.i fE),(20,.agg #[ak eN.Name,ak eN.b0,.q p1 p5 eN.Fields,.q kn lk eN.az])] I fun a I=>da (vs:=[ak eN.Name,ak eN.b0,.q p1 p5 eN.Fields,.q kn lk eN.az]) 0 hm rfl wn rfl Tryz.sizeOf136 rfl rfl rfl rfl (I.g rfl) (I.g rfl) rfl fun w hm=>wpList_nil <| dx _ _ <| wp_seq_k fun K dN=>?_
       refine cn [] [(0,.U aB),(3,.i fE),(4,.U mW),(5,.slice none 0 0),(6,.slice none 0 0),(14,.q aW a6 x_.l),(15,.i (x_.l.length:Int)),(16,.i fE)] I fun a I=>dN _ _ <| wp_seq_k fun K ew=>wp_seq_k fun K ej=>a7 <| aM 2 [] [(0,.U aB),(4,.U mW),(5,.slice none 0 0),(6,.slice none 0 0),(14,.q aW a6 x_.l),(15,.i (x_.l.length:Int)),(16,.i fE),(21,.U aB),(22,.i fE)] I fun a I=>?_;obtain ⟨g6,ay0,h⟩:=J.aQ h;have hc:=hm
       refine bU (vs:=[.U aB,.i fE]) wn rfl Tryz.call82 ⟨(I.g rfl),(I.g rfl),trivial⟩ (P' ((hc.into 0).pick ⟨⟨2,rfl⟩,⟨3,rfl⟩,⟨4,rfl⟩,⟨5,rfl⟩,trivial⟩) ay0) I rfl rfl ?_;rintro _ w ⟨o2,q9,y2,rfl,ai⟩;refine ⟨_,rfl,fun a I=>?_⟩;have hm:=hc.back 0 ai;clear ai hc
       refine aM 2 [] [(0,.U aB),(4,.U mW),(5,.slice none 0 0),(6,.slice none 0 0),(14,.q aW a6 x_.l),(15,.i (x_.l.length:Int)),(16,.i fE),(23,.q o2 q9 g6),(24,.i (g6.length:Int)),(25,.i 0)] I fun a I=>wpList_nil (ej _ _ ?_);have hm:=hm.c5 (α:=List UInt8) 9 1;have hm:=hm.more (y:=ap.rows bE [] []) rfl;obtain ⟨Vg,h,SQ⟩:=J.aQ h
       refine cp (fun a w=>∃ (nx:aU) (nA:Nat) (jI:List (List UInt8)) (Bl:dG),Fr ⟨55,[]⟩ [(0,.U aB),(4,.U mW),(5,.q nx nA jI),(6,.slice none 0 0),(14,.q aW a6 x_.l),(15,.i (x_.l.length:Int)),(16,.i fE)] a/\aw W M0 X w [au.row 9 1 (.q nx nA jI) jI Bl,au.row 105 3 (.q o2 q9 g6) g6 y2,au.bs mW 136 [ak eN.Name,ak eN.b0,.q p1 p5 eN.Fields,.q kn lk eN.az]] [ap.rows bE Bl jI,ap.rows J.aX y2 g6,aa J.b8 kn lk eN.az,aa J.aX p1 p5 eN.Fields,ap.c3 aB [.q aW a6 x_.l,.map (some b6),.q aS aT x_.b7],aa J.bd aW a6 x_.l,ap.map dA (Value.int .i64) b6 x_.cF,aa (aq .i64) aS aT x_.b7]/\Vg=jI) (fun K gb=>?_) ?_
       · clear SQ
         refine cN (fun (dg:Nat) a w=>∃ (tn:aU) (tT:Nat) (nR:List (List UInt8)) (I2:dG) (nf:Int),Fr ⟨55,[]⟩ [(0,.U aB),(4,.U mW),(5,.q tn tT nR),(6,.slice none 0 0),(14,.q aW a6 x_.l),(15,.i (x_.l.length:Int)),(16,.i fE),(23,.q o2 q9 g6),(24,.i (g6.length:Int)),(25,.i nf)] a/\aw W M0 X w [au.row 9 1 (.q tn tT nR) nR I2,au.row 105 3 (.q o2 q9 g6) g6 y2,au.bs mW 136 [ak eN.Name,ak eN.b0,.q p1 p5 eN.Fields,.q kn lk eN.az]] [ap.rows bE I2 nR,ap.rows J.aX y2 g6,aa J.b8 kn lk eN.az,aa J.aX p1 p5 eN.Fields,ap.c3 aB [.q aW a6 x_.l,.map (some b6),.q aS aT x_.b7],aa J.bd aW a6 x_.l,ap.map dA (Value.int .i64) b6 x_.cF,aa (aq .i64) aS aT x_.b7]/\J.vr g6 dg nR nf=some Vg) F ⟨none,0,[],[],0,I.cut,hm,h⟩ ?_ ?_
         · rintro a w ⟨tn,tT,nR,I2,nf,I,hm,h⟩;exact absurd h (by simp [J.vr])
         rintro dg a w ⟨tn,tT,nR,I2,nf,I,hm,h⟩ K fH;rw [J.vr] at h;refine aG [] [(0,.U aB),(4,.U mW),(5,.q tn tT nR),(6,.slice none 0 0),(14,.q aW a6 x_.l),(15,.i (x_.l.length:Int)),(16,.i fE),(23,.q o2 q9 g6),(24,.i (g6.length:Int)),(25,.i nf),(26,.bool (decide (nf <(g6.length:Int))))] I fun a I=>wp_seq_k fun K hO=>bn (I.g rfl) h (fun aoM h=>?_) (fun aoM h=>?_)
         · refine wp_skip <| hO _ _ <| wp_seq_k fun K gd=>wp_block <| wp_seq_k fun K gF=>a7 ?_;obtain ⟨qL,aBC,h⟩:=J.aQ h;obtain ⟨akS,avH,_,rfl,arp⟩:=hJ (hm.e 1 rfl) (hm.d 1 rfl) aBC;refine bR wn (bL Tryz.underlying106 Tryz.sizeOf105 rfl (I.g rfl) (I.g rfl) akS avH) I rfl rfl fun a I=>?_
           refine bh 1 [0,0] [(0,.U aB),(4,.U mW),(5,.q tn tT nR),(6,.slice none 0 0),(14,.q aW a6 x_.l),(15,.i (x_.l.length:Int)),(16,.i fE),(23,.q o2 q9 g6),(24,.i (g6.length:Int)),(25,.i nf),(28,.agg #[ak qL.Name,.i qL.Kind.Kind,ak qL.Kind.aR])] [bM o2,bP o2+(nf).toNat* 3] (aD arp aE) I fun a I=>cZ (cs:=[ak [],.i 0,ak []]) wn (fc Tryz.zeroValue105 rfl rfl) I hm rfl rfl fun a ai8 w _ I hm=>?_
           refine da (vs:=[ak qL.Name,.i qL.Kind.Kind,ak qL.Kind.aR]) 0 hm rfl wn rfl Tryz.sizeOf105 rfl rfl rfl rfl (I.g rfl) (I.g rfl) rfl fun w hm=>wpList_nil <| gF _ _ <| a7 <| bh 3 [0,0] [(0,.U aB),(4,.U mW),(5,.q tn tT nR),(6,.slice none 0 0),(14,.q aW a6 x_.l),(15,.i (x_.l.length:Int)),(16,.i fE),(23,.q o2 q9 g6),(24,.i (g6.length:Int)),(25,.i nf),(29,.q tn tT nR),(31,ak qL.Name)] [ai8,0] (aD (a' (hm.e 0 rfl)) aE) I fun a I=>?_
           refine hk (cs:=[ak qL.Name]) wn (gW (vs:=[(0,ak qL.Name)]) Tryz.underlying125 Tryz.sizeOf9 Tryz.zeroValue9 rfl rfl rfl ⟨⟨(I.g rfl),rfl⟩,trivial⟩ (by kernel_rfl)) I hm rfl rfl fun a aH3 w _ I hm=>?_;obtain ⟨HB,axk,h⟩:=J.aQ h;refine j5 (T:=bE) (ml:=[qL.Name]) 2 0 0 hm rfl rfl rfl Tryz.underlying125 ym rfl rfl axk rfl rfl ⟨_,_,rfl,rfl,rfl⟩ wn rfl (I.g rfl) (I.g rfl) I rfl rfl fun a OX PK aF5 w I hm=>?_
           refine aM 1 [] [(0,.U aB),(4,.U mW),(5,.q OX PK HB),(6,.slice none 0 0),(14,.q aW a6 x_.l),(15,.i (x_.l.length:Int)),(16,.i fE),(23,.q o2 q9 g6),(24,.i (g6.length:Int)),(25,.i nf)] I fun a I=>wpList_nil (gd _ _ ?_);refine cn [] [(0,.U aB),(4,.U mW),(5,.q OX PK HB),(6,.slice none 0 0),(14,.q aW a6 x_.l),(15,.i (x_.l.length:Int)),(16,.i fE),(23,.q o2 q9 g6),(24,.i (g6.length:Int)),(25,.i (J.av (nf+ 1)))] I fun a I=>?_
           exact fH _ _ ⟨OX,PK,HB,aF5,J.av (nf+ 1),I.cut,hm.a1 [1,2,3] [0,2,3,4,5,6,7,8],h⟩
         refine wp_exit <| bD (bD (cD ?_));exact gb _ _ ⟨tn,tT,nR,I2,I.cut,hm,(os h)⟩
       rintro a w ⟨nx,nA,jI,Bl,I,hm,bf⟩;subst Vg;have h:=SQ;clear SQ;refine ew _ _ <| wp_seq_k fun K gQ=>wp_seq_k fun K gR=>rg [0,3] [(0,.U aB),(5,.q nx nA jI),(6,.slice none 0 0),(14,.q aW a6 x_.l),(15,.i (x_.l.length:Int)),(16,.i fE),(36,.q kn lk eN.az),(37,.i (eN.az.length:Int)),(38,.i 0)] [mW,3] (aD (a' (hm.e 2 rfl)) aE) I fun a I=>gR _ _ ?_;have hm:=hm.c5 (α:=List UInt8) 9 1;have hm:=hm.more (y:=ap.rows bE [] []) rfl;obtain ⟨Vi,h,SS⟩:=J.aQ h
       refine cp (fun a w=>∃ (y7:aU) (zv:Nat) (qt:List (List UInt8)) (X1:dG),Fr ⟨55,[]⟩ [(0,.U aB),(5,.q nx nA jI),(6,.q y7 zv qt),(14,.q aW a6 x_.l),(15,.i (x_.l.length:Int)),(16,.i fE)] a/\aw W M0 X w [au.row 9 1 (.q y7 zv qt) qt X1,au.row 9 1 (.q nx nA jI) jI Bl,au.row 105 3 (.q o2 q9 g6) g6 y2,au.bs mW 136 [ak eN.Name,ak eN.b0,.q p1 p5 eN.Fields,.q kn lk eN.az]] [ap.rows bE X1 qt,ap.rows bE Bl jI,ap.rows J.aX y2 g6,aa J.b8 kn lk eN.az,aa J.aX p1 p5 eN.Fields,ap.c3 aB [.q aW a6 x_.l,.map (some b6),.q aS aT x_.b7],aa J.bd aW a6 x_.l,ap.map dA (Value.int .i64) b6 x_.cF,aa (aq .i64) aS aT x_.b7]/\Vi=qt) (fun K hF=>?_) ?_
       · clear SS
         refine cN (fun (eQ:Nat) a w=>∃ (tp:aU) (tU:Nat) (nS:List (List UInt8)) (I3:dG) (ng:Int),Fr ⟨55,[]⟩ [(0,.U aB),(5,.q nx nA jI),(6,.q tp tU nS),(14,.q aW a6 x_.l),(15,.i (x_.l.length:Int)),(16,.i fE),(36,.q kn lk eN.az),(37,.i (eN.az.length:Int)),(38,.i ng)] a/\aw W M0 X w [au.row 9 1 (.q tp tU nS) nS I3,au.row 9 1 (.q nx nA jI) jI Bl,au.row 105 3 (.q o2 q9 g6) g6 y2,au.bs mW 136 [ak eN.Name,ak eN.b0,.q p1 p5 eN.Fields,.q kn lk eN.az]] [ap.rows bE I3 nS,ap.rows bE Bl jI,ap.rows J.aX y2 g6,aa J.b8 kn lk eN.az,aa J.aX p1 p5 eN.Fields,ap.c3 aB [.q aW a6 x_.l,.map (some b6),.q aS aT x_.b7],aa J.bd aW a6 x_.l,ap.map dA (Value.int .i64) b6 x_.cF,aa (aq .i64) aS aT x_.b7]/\J.vt eN eQ nS ng=some Vi) F ⟨none,0,[],[],0,I.cut,hm,h⟩ ?_ ?_
         · rintro a w ⟨tp,tU,nS,I3,ng,I,hm,h⟩;exact absurd h (by simp [J.vt])
         rintro eQ a w ⟨tp,tU,nS,I3,ng,I,hm,h⟩ K iK;rw [J.vt] at h;refine aG [] [(0,.U aB),(5,.q nx nA jI),(6,.q tp tU nS),(14,.q aW a6 x_.l),(15,.i (x_.l.length:Int)),(16,.i fE),(36,.q kn lk eN.az),(37,.i (eN.az.length:Int)),(38,.i ng),(39,.bool (decide (ng <(eN.az.length:Int))))] I fun a I=>wp_seq_k fun K iA=>bn (I.g rfl) h (fun aoR h=>?_) (fun aoR h=>?_)
         · refine wp_skip <| iA _ _ <| wp_seq_k fun K iB=>wp_block <| wp_seq_k fun K iC=>a7 ?_;obtain ⟨jg,aBI,h⟩:=J.aQ h;obtain ⟨akW,avM,_,⟨OY,PL,OZ,PN,rfl,atm,atn⟩,aru⟩:=b3 _ (hm.d 3 rfl) aBI;have hm:=hm.more (y:=aa J.dB OY PL jg.bA) atm;have hm:=hm.more (y:=aa J.eG OZ PN jg.bp) atn;refine bR wn (bL Tryz.underlying134 Tryz.sizeOf133 rfl (I.g rfl) (I.g rfl) akW avM) I rfl rfl fun a I=>?_
           refine bh 1 [0,0] [(0,.U aB),(5,.q nx nA jI),(6,.q tp tU nS),(14,.q aW a6 x_.l),(15,.i (x_.l.length:Int)),(16,.i fE),(36,.q kn lk eN.az),(37,.i (eN.az.length:Int)),(38,.i ng),(41,.agg #[ak jg.Name,.bool jg.Static,.q OY PL jg.bA,.i jg.Returns.Kind,ak jg.Returns.aR,.i jg.cT,.i jg.cS,ak jg.Code,.q OZ PN jg.bp])] [bM kn,bP kn+(ng).toNat* 9] (aD aru aE) I fun a I=>?_
           refine cZ (cs:=[ak [],.bool false,.slice none 0 0,.i 0,ak [],.i 0,.i 0,ak [],.slice none 0 0]) wn (fc Tryz.zeroValue133 rfl rfl) I hm rfl rfl fun a ai_ w _ I hm=>da (vs:=[ak jg.Name,.bool jg.Static,.q OY PL jg.bA,.i jg.Returns.Kind,ak jg.Returns.aR,.i jg.cT,.i jg.cS,ak jg.Code,.q OZ PN jg.bp]) 0 hm rfl wn rfl Tryz.sizeOf133 rfl rfl rfl rfl (I.g rfl) (I.g rfl) rfl fun w hm=>wpList_nil <| iC _ _ <| a7 ?_
           refine bh 3 [0,0] [(0,.U aB),(5,.q nx nA jI),(6,.q tp tU nS),(14,.q aW a6 x_.l),(15,.i (x_.l.length:Int)),(16,.i fE),(36,.q kn lk eN.az),(37,.i (eN.az.length:Int)),(38,.i ng),(42,.q tp tU nS),(44,ak jg.Name)] [ai_,0] (aD (a' (hm.e 0 rfl)) aE) I fun a I=>hk (cs:=[ak jg.Name]) wn (gW (vs:=[(0,ak jg.Name)]) Tryz.underlying125 Tryz.sizeOf9 Tryz.zeroValue9 rfl rfl rfl ⟨⟨(I.g rfl),rfl⟩,trivial⟩ (by kernel_rfl)) I hm rfl rfl fun a aH4 w _ I hm=>?_;obtain ⟨HC,axl,h⟩:=J.aQ h
           refine j5 (T:=bE) (ml:=[jg.Name]) 2 0 2 hm rfl rfl rfl Tryz.underlying125 ym rfl rfl axl rfl rfl ⟨_,_,rfl,rfl,rfl⟩ wn rfl (I.g rfl) (I.g rfl) I rfl rfl fun a O0 PO aF6 w I hm=>aM 1 [] [(0,.U aB),(5,.q nx nA jI),(6,.q O0 PO HC),(14,.q aW a6 x_.l),(15,.i (x_.l.length:Int)),(16,.i fE),(36,.q kn lk eN.az),(37,.i (eN.az.length:Int)),(38,.i ng)] I fun a I=>wpList_nil (iB _ _ ?_)
           refine cn [] [(0,.U aB),(5,.q nx nA jI),(6,.q O0 PO HC),(14,.q aW a6 x_.l),(15,.i (x_.l.length:Int)),(16,.i fE),(36,.q kn lk eN.az),(37,.i (eN.az.length:Int)),(38,.i (J.av (ng+ 1)))] I fun a I=>?_;exact iK _ _ ⟨O0,PO,HC,aF6,J.av (ng+ 1),I.cut,hm.a1 [1,2,3,4] [0,4,5,6,7,8,9,10,11],h⟩
         refine wp_exit <| bD (bD (cD ?_));exact hF _ _ ⟨tp,tU,nS,I3,I.cut,hm,(os h)⟩
       rintro a w ⟨y7,zv,qt,X1,I,hm,bf⟩;subst Vi;have h:=SS;clear SS;refine gQ _ _ <| wp_seq_k fun K kQ=>a7 <| aM 1 [] [(0,.U aB),(6,.q y7 zv qt),(14,.q aW a6 x_.l),(15,.i (x_.l.length:Int)),(16,.i fE),(48,.q nx nA jI)] I fun a I=>?_;obtain ⟨Mo,ay9,h⟩:=J.aQ h;have hc:=hm;have aC:=hc.freeze 1 1 rfl rfl;refine bU (vs:=[.q nx nA jI]) wn rfl Tryz.call104 ⟨(I.g rfl),trivial⟩ (aas ((aC.into 0).pick ⟨⟨0,rfl⟩,trivial⟩) ay9) I rfl rfl ?_;rintro _ w ⟨rfl,ai⟩;refine ⟨_,rfl,fun a I=>?_⟩;have ah:bg [] _ w:=ai.ev;have hm:=hc.hp 0 (by exact trivial) ai
       clear ai hc aC;clear ah;refine aM 1 [] [(0,.U aB),(6,.q y7 zv qt),(14,.q aW a6 x_.l),(15,.i (x_.l.length:Int)),(16,.i fE),(50,.bool Mo)] I fun a I=>?_;rcases Bool.eq_false_or_eq_true Mo with Gl | Gl
       · have h:=J.dz Gl h;have I:=I.cd 50 rfl Gl;refine aM 3 [1,1,1] [(0,.U aB),(14,.q aW a6 x_.l),(15,.i (x_.l.length:Int)),(16,.i fE),(53,.bool true)] I fun a I=>wpList_nil (kQ _ _ ?_);refine eZ (I.g rfl) rfl <| aG [] [(2,.i 6)] I fun a I=>wp_ret ?_;obtain rfl:=aH h;obtain rfl:=aH La;obtain rfl:=aH K7;refine ba (ao (ao (ao (ba (ao (ao ?_))))));refine bq Tryz.results79 I rfl ?_;exact ⟨rfl,hm.a1 [] []⟩
       have h:=J.dy Gl h;have I:=I.cd 50 rfl Gl;refine aM 1 [1] [(0,.U aB),(14,.q aW a6 x_.l),(15,.i (x_.l.length:Int)),(16,.i fE),(50,.bool false),(51,.q y7 zv qt)] I fun a I=>?_;obtain ⟨WY,ay_,h⟩:=J.aQ h;have hc:=hm;have aC:=hc.freeze 0 0 rfl rfl;refine bU (vs:=[.q y7 zv qt]) (db I rfl rfl rfl rfl) rfl Tryz.call104 ⟨(I.g rfl),trivial⟩ (aas ((aC.into 0).pick ⟨⟨0,rfl⟩,trivial⟩) ay_) I rfl rfl ?_;rintro _ w ⟨rfl,ai⟩;refine ⟨_,rfl,fun a I=>?_⟩;have ah:bg [] _ w:=ai.ev;have hm:=hc.hp 0 (by exact trivial) ai;clear ai hc aC
       clear ah;refine aM 1 [1] [(0,.U aB),(14,.q aW a6 x_.l),(15,.i (x_.l.length:Int)),(16,.i fE),(53,.bool WY)] I fun a I=>wpList_nil (kQ _ _ ?_);refine bn (I.g rfl) h (fun aoU h=>?_) (fun aoU h=>?_)
       · refine aG [] [(2,.i 6)] I fun a I=>wp_ret ?_;obtain rfl:=aH h;obtain rfl:=aH La;obtain rfl:=aH K7;refine ba (ao (ao (ao (ba (ao (ao ?_))))));refine bq Tryz.results79 I rfl ?_;exact ⟨rfl,hm.a1 [] []⟩
       refine wp_skip ?_;exact dE _ _ ⟨I.cut,hm.a1 [] [5,6,7,8],(os h)⟩
     rintro a w ⟨I,hm,bf⟩;subst adf;have h:=La;clear La;dsimp only [J.fa] at h;refine c6 _ _ <| cn [] [(0,.U aB),(14,.q aW a6 x_.l),(15,.i (x_.l.length:Int)),(16,.i (J.av (fE+ 1)))] I fun a I=>?_;exact cG _ _ ⟨J.av (fE+ 1),I.cut,hm,h⟩
   refine wp_exit <| bD (bD (cD ?_));exact c4 _ _ ⟨I.cut,hm,(os h)⟩
 rintro a w ⟨I,hm,bf⟩;subst UQ;have h:=K7;clear K7;dsimp only [J.ep] at h;refine bT _ _ <| aG [] [(2,.i 0)] I fun a I=>wp_ret ?_;obtain rfl:=aH h;refine bq Tryz.results79 I rfl ?_;exact ⟨rfl,hm.a1 [] []⟩
theorem ahV {W:World} {X:List Nat} {F:Nat} {bl:List J.Kind} {bQ:List J.Kind} {r:Bool} {ad:aU} {af:Nat} {ar:aU} {ax:Nat} {M0:List Nat} (hm:aw W M0 X W [] [aa J.dB ad af bl,aa J.dB ar ax bQ]) (h:J.Ig F bl bQ=some r) :
 Calls Tryz.prog 133 [.q ad af bl,.q ar ax bQ].toArray W (fun e aJ=>e= .returned (.bool r)/\aw W M0 X aJ [] []):=by
 refine enter Tryz.func133 rfl Tryz.ntmps133 rfl fun a I=>?_;rw [J.Ig] at h;refine aG [] [(0,.q ad af bl),(1,.q ar ax bQ)] I fun a I=>wp_seq_k fun K bT=>aG [] [(0,.q ad af bl),(1,.q ar ax bQ),(10,.bool (!decide ((bl.length:Int)=(bQ.length:Int))))] I fun a I=>bn (I.g rfl) h (fun j0 h=>?_) (fun j0 h=>?_)
 · refine aG [] [(4,.bool false)] I fun a I=>wp_ret ?_;obtain rfl:=aH h;refine ao <| bq Tryz.results133 I rfl ?_;exact ⟨rfl,hm.a1 [] []⟩
 refine wp_skip <| bT _ _ <| wp_seq_k fun K cG=>aG [] [(0,.q ad af bl),(1,.q ar ax bQ),(12,.i (bl.length:Int)),(13,.i 0)] I fun a I=>?_;obtain ⟨hZ,h,hP⟩:=J.eC h;refine cp (fun a w=>Fr ⟨26,[]⟩ [] a/\aw W M0 X w [] [aa J.dB ad af bl,aa J.dB ar ax bQ]/\hZ=(.go ())) (fun K dH=>?_) ?_
 · refine cN (fun (bz:Nat) a w=>∃ (ca:Int),Fr ⟨26,[]⟩ [(0,.q ad af bl),(1,.q ar ax bQ),(12,.i (bl.length:Int)),(13,.i ca)] a/\aw W M0 X w [] [aa J.dB ad af bl,aa J.dB ar ax bQ]/\J.AY bl bQ bz ca=some hZ) F ⟨0,I.cut,hm,h⟩ ?_ ?_
   · rintro a w ⟨ca,I,hm,h⟩;exact absurd h (by simp [J.AY])
   rintro bz a w ⟨ca,I,hm,h⟩ K c6;rw [J.AY] at h;refine aG [] [(0,.q ad af bl),(1,.q ar ax bQ),(12,.i (bl.length:Int)),(13,.i ca),(14,.bool (decide (ca <(bl.length:Int))))] I fun a I=>wp_seq_k fun K dx=>bn (I.g rfl) h (fun pu h=>?_) (fun pu h=>?_)
   · refine wp_skip <| dx _ _ <| wp_seq_k fun K dN=>wp_block <| aG [] [(0,.q ad af bl),(1,.q ar ax bQ),(5,.i ca),(12,.i (bl.length:Int)),(13,.i ca)] I fun a I=>wp_seq_k fun K ej=>jE (by kernel_rfl) (by kernel_rfl) <| dW 2 [] [(0,.q ad af bl),(1,.q ar ax bQ),(5,.i ca),(12,.i (bl.length:Int)),(13,.i ca),(16,.q ad af bl),(17,.i ca)] [] (fun bb ah=>aE) I fun a I=>?_;obtain ⟨e5,pF,h⟩:=J.aQ h;obtain ⟨pj,py,_,rfl,pv⟩:=b3 _ (hm.d 0 rfl) pF
     refine e4 wn (fun bb ah=>bL Tryz.underlying130 Tryz.sizeOf103 rfl (I.g rfl) (I.g rfl) pj py) I rfl rfl fun a I=>dW 3 [0,0] [(0,.q ad af bl),(1,.q ar ax bQ),(12,.i (bl.length:Int)),(13,.i ca),(19,.agg #[.i e5.Kind,ak e5.aR]),(20,.q ar ax bQ),(21,.i ca)] [bM ad,bP ad+(ca).toNat* 2] (fun bb ah=>(aD (ch ah pv) aE)) I fun a I=>?_;obtain ⟨gB,pG,h⟩:=J.aQ h;obtain ⟨pk,pz,_,rfl,pw⟩:=b3 _ (hm.d 1 rfl) pG;refine e4 wn (fun bb ah=>bL Tryz.underlying130 Tryz.sizeOf103 rfl (I.g rfl) (I.g rfl) pk pz) I rfl rfl fun a I=>?_
     refine dW 1 [0,0] [(0,.q ad af bl),(1,.q ar ax bQ),(12,.i (bl.length:Int)),(13,.i ca),(19,.agg #[.i e5.Kind,ak e5.aR]),(23,.agg #[.i gB.Kind,ak gB.aR])] [bM ar,bP ar+(ca).toNat* 2] (fun bb ah=>(aD (ch ah pw) aE)) I fun a I=>e4 wn (fun bb ah=>Ft (X:=e5) (Y:=gB) rfl (I.g rfl) (I.g rfl)) I rfl rfl fun a I=>wpQuiet_nil fun w ah=>?_;have hm:=hm.dX ah;clear ah;refine ej _ _ <| bn (I.g rfl) h (fun nJ h=>?_) (fun nJ h=>?_)
     · refine aG [] [(4,.bool false)] I fun a I=>wp_ret ?_;obtain rfl:=aH h;obtain rfl:=aH hP;refine ba (ao (ao (ba (ao (ao ?_)))));refine bq Tryz.results133 I rfl ?_;exact ⟨rfl,hm.a1 [] []⟩
     refine wp_skip <| dN _ _ <| cn [] [(0,.q ad af bl),(1,.q ar ax bQ),(12,.i (bl.length:Int)),(13,.i (J.av (ca+ 1)))] I fun a I=>?_;exact c6 _ _ ⟨J.av (ca+ 1),I.cut,hm,h⟩
   refine wp_exit <| bD (bD (cD ?_));exact dH _ _ ⟨I.cut,hm,(os h)⟩
 rintro a w ⟨I,hm,bf⟩;subst hZ;have h:=hP;clear hP;dsimp only [J.ep] at h;refine cG _ _ <| aG [] [(4,.bool true)] I fun a I=>wp_ret ?_;obtain rfl:=aH h;refine bq Tryz.results133 I rfl ?_;exact ⟨rfl,hm.a1 [] []⟩
theorem ahB {W:World} {X:List Nat} {F:Nat} {a_:J.Method} {b_:J.Method} {r:Bool} {ad:aU} {af:Nat} {ar:aU} {ax:Nat} {aS:aU} {aT:Nat} {br:aU} {bw:Nat} {M0:List Nat} (hm:aw W M0 X W [] [aa J.dB ad af a_.bA,aa J.eG ar ax a_.bp,aa J.dB aS aT b_.bA,aa J.eG br bw b_.bp]) (h:J.LP F a_ b_=some r) :
 Calls Tryz.prog 106 [.agg #[ak a_.Name,.bool a_.Static,.q ad af a_.bA,.i a_.Returns.Kind,ak a_.Returns.aR,.i a_.cT,.i a_.cS,ak a_.Code,.q ar ax a_.bp],.agg #[ak b_.Name,.bool b_.Static,.q aS aT b_.bA,.i b_.Returns.Kind,ak b_.Returns.aR,.i b_.cT,.i b_.cS,ak b_.Code,.q br bw b_.bp]].toArray W (fun e aJ=>e= .returned (.bool r)/\aw W M0 X aJ [] []):=by
 refine enter Tryz.func106 rfl Tryz.ntmps106 rfl fun a I=>?_;rw [J.LP] at h;refine wp_seq_k fun K dq=>a7 <| cZ (cs:=[ak a_.Name,.bool a_.Static,.q ad af a_.bA,.i a_.Returns.Kind,ak a_.Returns.aR,.i a_.cT,.i a_.cS,ak a_.Code,.q ar ax a_.bp]) wn (eV rfl rfl (I.g rfl)) I hm rfl rfl fun a ga w _ I hm=>cZ (cs:=[ak b_.Name,.bool b_.Static,.q aS aT b_.bA,.i b_.Returns.Kind,ak b_.Returns.aR,.i b_.cT,.i b_.cS,ak b_.Code,.q br bw b_.bp]) wn (eV rfl rfl (I.g rfl)) I hm rfl rfl fun a ui w _ I hm=>?_
 refine aM 1 [] [(2,.U ga),(3,.U ui)] I fun a I=>wpList_nil (dq _ _ ?_);refine wp_seq_k fun K bT=>a7 <| bh 9 [0,1,0,0,1,1,0,0] [(2,.U ga),(3,.U ui),(13,.bool ((!a_.Static) && (!b_.Static)))] [ui,1,ga,1] (aD (a' (hm.e 1 rfl)) (aD (a' (hm.e 0 rfl)) aE)) I fun a I=>?_;rcases Bool.eq_false_or_eq_true ((!a_.Static) && (!b_.Static)) with zW | zW
 · have h:=J.dz zW h;have I:=I.cd 13 rfl zW;refine bh 4 [1,1,0,2,1,1,1,2] [(2,.U ga),(3,.U ui),(13,.bool true),(15,.q ad af a_.bA),(17,.q aS aT b_.bA)] [ui,2,ga,2] (aD (a' (hm.e 1 rfl)) (aD (a' (hm.e 0 rfl)) aE)) I fun a I=>?_;obtain ⟨dh,pC,h⟩:=J.aQ h;have hc:=hm;refine bU (vs:=[.q ad af a_.bA,.q aS aT b_.bA]) (db I rfl rfl rfl rfl) rfl Tryz.call133 ⟨(I.g rfl),(I.g rfl),trivial⟩ (ahV ((hc.into 0).pick ⟨⟨0,rfl⟩,⟨2,rfl⟩,trivial⟩) pC) I rfl rfl ?_;rintro _ w ⟨rfl,ai⟩;refine ⟨_,rfl,fun a I=>?_⟩;have ah:bg [] _ w:=ai.ev;have hm:=hc.back 0 ai
   clear ai hc;clear ah;refine aM 2 [1] [(2,.U ga),(3,.U ui),(20,.bool dh)] I fun a I=>?_;rcases Bool.eq_false_or_eq_true dh with lv | lv
   · have h:=J.dz lv h;have I:=I.cd 20 rfl lv;refine bh 4 [1,1,0,3,1,1,1,3] [(20,.bool true),(22,.agg #[.i a_.Returns.Kind,ak a_.Returns.aR]),(24,.agg #[.i b_.Returns.Kind,ak b_.Returns.aR])] [ui,3,ga,3] (aD (a' (hm.e 1 rfl)) (aD (a' (hm.e 0 rfl)) aE)) I fun a I=>bR (db I rfl rfl rfl rfl) (aiL (X:=a_.Returns) (Y:=b_.Returns) rfl (I.g rfl) (I.g rfl)) I rfl rfl fun a I=>aM 2 [1] [(4,.bool (decide (a_.Returns=b_.Returns)))] I fun a I=>wpList_nil (bT _ _ ?_);refine wp_ret ?_;obtain rfl:=aH h;refine bq Tryz.results106 I rfl ?_
     exact ⟨rfl,hm.a1 [] []⟩
   have h:=J.dy lv h;have I:=I.cd 20 rfl lv;refine aM 7 [1,1,1,1,1,1] [(4,.bool false)] I fun a I=>wpList_nil (bT _ _ ?_);refine wp_ret ?_;obtain rfl:=aH h;refine bq Tryz.results106 I rfl ?_;exact ⟨rfl,hm.a1 [] []⟩
 have h:=J.dy zW h;have I:=I.cd 13 rfl zW;refine aM 14 [1,1,1,1,1,1,1,1,1,1,1,1] [(4,.bool false)] I fun a I=>wpList_nil (bT _ _ ?_);refine wp_ret ?_;obtain rfl:=aH h;refine bq Tryz.results106 I rfl ?_;exact ⟨rfl,hm.a1 [] []⟩
theorem ahE {W:World} {X:List Nat} {F:Nat} {x_:J.du} {r:Int} {aB:Nat} {aW:aU} {a6:Nat} {b6:Nat} {aS:aU} {aT:Nat} {M0:List Nat} (hm:aw W M0 X W [] [ap.c3 aB [.q aW a6 x_.l,.map (some b6),.q aS aT x_.b7],aa J.bd aW a6 x_.l,ap.map dA (Value.int .i64) b6 x_.cF,aa (aq .i64) aS aT x_.b7]) (h:J.HG F x_=some r) :
 Calls Tryz.prog 80 [.U aB].toArray W (fun e aJ=>e= .returned (.i r)/\aw W M0 X aJ [] []):=by
 refine enter Tryz.func80 rfl Tryz.ntmps80 rfl fun a I=>?_;rw [J.HG] at h;refine aG [] [(0,.U aB)] I fun a I=>wp_seq_k fun K bT=>wp_seq_k fun K cw=>rg [0,0] [(0,.U aB),(14,.q aW a6 x_.l),(15,.i (x_.l.length:Int)),(16,.i 0)] [aB,0] (aD (hm.d 0 rfl).2.2 aE) I fun a I=>cw _ _ ?_;obtain ⟨Uo,h,RY⟩:=J.eC h
 refine cp (fun a w=>Fr ⟨65,[]⟩ [] a/\aw W M0 X w [] [ap.c3 aB [.q aW a6 x_.l,.map (some b6),.q aS aT x_.b7],aa J.bd aW a6 x_.l,ap.map dA (Value.int .i64) b6 x_.cF,aa (aq .i64) aS aT x_.b7]/\Uo=(.go ())) (fun K c4=>?_) ?_
 · refine cN (fun (bz:Nat) a w=>∃ (fi:Int),Fr ⟨65,[]⟩ [(0,.U aB),(14,.q aW a6 x_.l),(15,.i (x_.l.length:Int)),(16,.i fi)] a/\aw W M0 X w [] [ap.c3 aB [.q aW a6 x_.l,.map (some b6),.q aS aT x_.b7],aa J.bd aW a6 x_.l,ap.map dA (Value.int .i64) b6 x_.cF,aa (aq .i64) aS aT x_.b7]/\J.yw F x_ bz fi=some Uo) F ⟨0,I.cut,hm,h⟩ ?_ ?_
   · rintro a w ⟨fi,I,hm,h⟩;exact absurd h (by simp [J.yw])
   rintro bz a w ⟨fi,I,hm,h⟩ K cG;rw [J.yw] at h;refine aG [] [(0,.U aB),(14,.q aW a6 x_.l),(15,.i (x_.l.length:Int)),(16,.i fi),(17,.bool (decide (fi <(x_.l.length:Int))))] I fun a I=>wp_seq_k fun K dH=>bn (I.g rfl) h (fun anO h=>?_) (fun anO h=>?_)
   · refine wp_skip <| dH _ _ <| wp_seq_k fun K c6=>?_;obtain ⟨ac3,h,Sh⟩:=J.fl h;refine cp (fun a w=>Fr ⟨65,[]⟩ [(0,.U aB),(14,.q aW a6 x_.l),(15,.i (x_.l.length:Int)),(16,.i fi)] a/\aw W M0 X w [] [ap.c3 aB [.q aW a6 x_.l,.map (some b6),.q aS aT x_.b7],aa J.bd aW a6 x_.l,ap.map dA (Value.int .i64) b6 x_.cF,aa (aq .i64) aS aT x_.b7]/\ac3=(.go ())) (fun K dE=>?_) ?_
     · refine wp_seq_k fun K dx=>a7 <| aM 1 [] [(0,.U aB),(14,.q aW a6 x_.l),(15,.i (x_.l.length:Int)),(16,.i fi),(18,.i fi)] I fun a I=>?_;obtain ⟨cM,aAI,h⟩:=J.aQ h;obtain ⟨ajV,auK,_,⟨kF,kK,gi,gC,rfl,asQ,asR⟩,aqp⟩:=b3 _ (hm.d 1 rfl) aAI;have hm:=hm.more (y:=aa J.aX kF kK cM.Fields) asQ;have hm:=hm.more (y:=aa J.b8 gi gC cM.az) asR;refine bR wn (bL Tryz.underlying25 Tryz.sizeOf136 rfl (I.g rfl) (I.g rfl) ajV auK) I rfl rfl fun a I=>?_
       refine bh 1 [0,0] [(0,.U aB),(14,.q aW a6 x_.l),(15,.i (x_.l.length:Int)),(16,.i fi),(18,.i fi),(20,.agg #[ak cM.Name,ak cM.b0,.q kF kK cM.Fields,.q gi gC cM.az])] [bM aW,bP aW+(fi).toNat* 4] (aD aqp aE) I fun a I=>cZ (cs:=[ak [],ak [],.slice none 0 0,.slice none 0 0]) wn (fc Tryz.zeroValue136 rfl rfl) I hm rfl rfl fun a gP w _ I hm=>?_
       refine aM 1 [] [(0,.U aB),(3,.i fi),(4,.U gP),(14,.q aW a6 x_.l),(15,.i (x_.l.length:Int)),(16,.i fi),(20,.agg #[ak cM.Name,ak cM.b0,.q kF kK cM.Fields,.q gi gC cM.az])] I fun a I=>da (vs:=[ak cM.Name,ak cM.b0,.q kF kK cM.Fields,.q gi gC cM.az]) 0 hm rfl wn rfl Tryz.sizeOf136 rfl rfl rfl rfl (I.g rfl) (I.g rfl) rfl fun w hm=>wpList_nil <| dx _ _ <| wp_seq_k fun K dN=>a7 ?_
       refine aM 2 [] [(0,.U aB),(4,.U gP),(14,.q aW a6 x_.l),(15,.i (x_.l.length:Int)),(16,.i fi),(21,.U aB),(22,.i fi)] I fun a I=>?_;obtain ⟨pP,ays,h⟩:=J.aQ h;have hc:=hm;refine bU (vs:=[.U aB,.i fi]) wn rfl Tryz.call105 ⟨(I.g rfl),(I.g rfl),trivial⟩ (P_ ((hc.into 0).pick ⟨⟨2,rfl⟩,⟨3,rfl⟩,⟨4,rfl⟩,⟨5,rfl⟩,trivial⟩) ays) I rfl rfl ?_;rintro _ w ⟨wb,xo,aII,rfl,ai⟩;refine ⟨_,rfl,fun a I=>?_⟩;have hm:=hc.back 0 ai;clear ai hc
       obtain ⟨ed,aw8,h⟩:=J.aQ h;have hm:=hm.freeze 0 0 rfl rfl;refine aE1 (T:=(aq .i64)) (i:=1) (j:=(pP.length:Int)) 0 hm rfl Tryz.underlying22 Tryz.sizeOf3 aw8 wn rfl (I.g rfl) (.inr ⟨_,rfl,(c' _ _)⟩) (.inl ⟨rfl,rfl⟩) I rfl rfl fun a gX hq I hm=>aM 2 [] [(0,.U aB),(4,.U gP),(14,.q aW a6 x_.l),(15,.i (x_.l.length:Int)),(16,.i fi),(24,.q gX hq ed),(25,.i (ed.length:Int)),(26,.i 0)] I fun a I=>wpList_nil (dN _ _ ?_);obtain ⟨UJ,h,Sj⟩:=J.fl h
       refine cp (fun a w=>Fr ⟨65,[]⟩ [(0,.U aB),(14,.q aW a6 x_.l),(15,.i (x_.l.length:Int)),(16,.i fi)] a/\aw W M0 X w [au.bs gP 136 [ak cM.Name,ak cM.b0,.q kF kK cM.Fields,.q gi gC cM.az]] [aa (aq .i64) gX hq ed,aa (aq .i64) wb xo pP,aa J.b8 gi gC cM.az,aa J.aX kF kK cM.Fields,ap.c3 aB [.q aW a6 x_.l,.map (some b6),.q aS aT x_.b7],aa J.bd aW a6 x_.l,ap.map dA (Value.int .i64) b6 x_.cF,aa (aq .i64) aS aT x_.b7]/\UJ=(.go ())) (fun K ew=>?_) ?_
       · refine cN (fun (dg:Nat) a w=>∃ (hh:Int),Fr ⟨65,[]⟩ [(0,.U aB),(4,.U gP),(14,.q aW a6 x_.l),(15,.i (x_.l.length:Int)),(16,.i fi),(24,.q gX hq ed),(25,.i (ed.length:Int)),(26,.i hh)] a/\aw W M0 X w [au.bs gP 136 [ak cM.Name,ak cM.b0,.q kF kK cM.Fields,.q gi gC cM.az]] [aa (aq .i64) gX hq ed,aa (aq .i64) wb xo pP,aa J.b8 gi gC cM.az,aa J.aX kF kK cM.Fields,ap.c3 aB [.q aW a6 x_.l,.map (some b6),.q aS aT x_.b7],aa J.bd aW a6 x_.l,ap.map dA (Value.int .i64) b6 x_.cF,aa (aq .i64) aS aT x_.b7]/\J.yx F x_ cM ed dg hh=some UJ) F ⟨0,I.cut,hm.eS [0,1,3,4,5,6,7,8],h⟩ ?_ ?_
         · rintro a w ⟨hh,I,hm,h⟩;exact absurd h (by simp [J.yx])
         rintro dg a w ⟨hh,I,hm,h⟩ K ej;rw [J.yx] at h;refine aG [] [(0,.U aB),(4,.U gP),(14,.q aW a6 x_.l),(15,.i (x_.l.length:Int)),(16,.i fi),(24,.q gX hq ed),(25,.i (ed.length:Int)),(26,.i hh),(27,.bool (decide (hh <(ed.length:Int))))] I fun a I=>wp_seq_k fun K fH=>bn (I.g rfl) h (fun anU h=>?_) (fun anU h=>?_)
         · refine wp_skip <| fH _ _ <| wp_seq_k fun K hr=>?_;obtain ⟨ac4,h,Sk⟩:=J.fl h
           refine cp (fun a w=>Fr ⟨65,[]⟩ [(0,.U aB),(4,.U gP),(14,.q aW a6 x_.l),(15,.i (x_.l.length:Int)),(16,.i fi),(24,.q gX hq ed),(25,.i (ed.length:Int)),(26,.i hh)] a/\aw W M0 X w [au.bs gP 136 [ak cM.Name,ak cM.b0,.q kF kK cM.Fields,.q gi gC cM.az]] [aa (aq .i64) gX hq ed,aa (aq .i64) wb xo pP,aa J.b8 gi gC cM.az,aa J.aX kF kK cM.Fields,ap.c3 aB [.q aW a6 x_.l,.map (some b6),.q aS aT x_.b7],aa J.bd aW a6 x_.l,ap.map dA (Value.int .i64) b6 x_.cF,aa (aq .i64) aS aT x_.b7]/\ac4=(.go ())) (fun K hO=>?_) ?_
           · refine wp_seq_k fun K gd=>a7 ?_;obtain ⟨iS,aAK,h⟩:=J.aQ h;obtain ⟨ajX,auM,_,rfl,aqs⟩:=b3 _ (hm.d 0 rfl) aAK;refine bR wn (bL Tryz.underlying22 Tryz.sizeOf3 rfl (I.g rfl) (I.g rfl) ajX auM) I rfl rfl fun a I=>bh 2 [0,0] [(0,.U aB),(4,.U gP),(6,.i iS),(14,.q aW a6 x_.l),(15,.i (x_.l.length:Int)),(16,.i fi),(24,.q gX hq ed),(25,.i (ed.length:Int)),(26,.i hh)] [bM gX,bP gX+(hh).toNat* 1] (aD aqs aE) I fun a I=>wpList_nil (gd _ _ ?_);refine wp_seq_k fun K gF=>?_
             refine rg [0,3] [(0,.U aB),(4,.U gP),(6,.i iS),(14,.q aW a6 x_.l),(15,.i (x_.l.length:Int)),(16,.i fi),(24,.q gX hq ed),(25,.i (ed.length:Int)),(26,.i hh),(31,.q gi gC cM.az),(32,.i (cM.az.length:Int)),(33,.i 0)] [gP,3] (aD (a' (hm.e 0 rfl)) aE) I fun a I=>gF _ _ ?_;obtain ⟨UL,h,Sl⟩:=J.fl h
             refine cp (fun a w=>Fr ⟨65,[]⟩ [(0,.U aB),(4,.U gP),(14,.q aW a6 x_.l),(15,.i (x_.l.length:Int)),(16,.i fi),(24,.q gX hq ed),(25,.i (ed.length:Int)),(26,.i hh)] a/\aw W M0 X w [au.bs gP 136 [ak cM.Name,ak cM.b0,.q kF kK cM.Fields,.q gi gC cM.az]] [aa (aq .i64) gX hq ed,aa (aq .i64) wb xo pP,aa J.b8 gi gC cM.az,aa J.aX kF kK cM.Fields,ap.c3 aB [.q aW a6 x_.l,.map (some b6),.q aS aT x_.b7],aa J.bd aW a6 x_.l,ap.map dA (Value.int .i64) b6 x_.cF,aa (aq .i64) aS aT x_.b7]/\UL=(.go ())) (fun K gQ=>?_) ?_
             · refine cN (fun (eQ:Nat) a w=>∃ (iN:Int),Fr ⟨65,[]⟩ [(0,.U aB),(4,.U gP),(6,.i iS),(14,.q aW a6 x_.l),(15,.i (x_.l.length:Int)),(16,.i fi),(24,.q gX hq ed),(25,.i (ed.length:Int)),(26,.i hh),(31,.q gi gC cM.az),(32,.i (cM.az.length:Int)),(33,.i iN)] a/\aw W M0 X w [au.bs gP 136 [ak cM.Name,ak cM.b0,.q kF kK cM.Fields,.q gi gC cM.az]] [aa (aq .i64) gX hq ed,aa (aq .i64) wb xo pP,aa J.b8 gi gC cM.az,aa J.aX kF kK cM.Fields,ap.c3 aB [.q aW a6 x_.l,.map (some b6),.q aS aT x_.b7],aa J.bd aW a6 x_.l,ap.map dA (Value.int .i64) b6 x_.cF,aa (aq .i64) aS aT x_.b7]/\J.yy F x_ cM iS eQ iN=some UL) F ⟨0,I.cut,hm,h⟩ ?_ ?_
               · rintro a w ⟨iN,I,hm,h⟩;exact absurd h (by simp [J.yy])
               rintro eQ a w ⟨iN,I,hm,h⟩ K gR;rw [J.yy] at h;refine aG [] [(0,.U aB),(4,.U gP),(6,.i iS),(14,.q aW a6 x_.l),(15,.i (x_.l.length:Int)),(16,.i fi),(24,.q gX hq ed),(25,.i (ed.length:Int)),(26,.i hh),(31,.q gi gC cM.az),(32,.i (cM.az.length:Int)),(33,.i iN),(34,.bool (decide (iN <(cM.az.length:Int))))] I fun a I=>wp_seq_k fun K iK=>bn (I.g rfl) h (fun anW h=>?_) (fun anW h=>?_)
               · refine wp_skip <| iK _ _ <| wp_seq_k fun K jn=>?_;obtain ⟨ac5,h,Sm⟩:=J.fl h
                 refine cp (fun a w=>Fr ⟨65,[]⟩ [(0,.U aB),(4,.U gP),(6,.i iS),(14,.q aW a6 x_.l),(15,.i (x_.l.length:Int)),(16,.i fi),(24,.q gX hq ed),(25,.i (ed.length:Int)),(26,.i hh),(31,.q gi gC cM.az),(32,.i (cM.az.length:Int)),(33,.i iN)] a/\aw W M0 X w [au.bs gP 136 [ak cM.Name,ak cM.b0,.q kF kK cM.Fields,.q gi gC cM.az]] [aa (aq .i64) gX hq ed,aa (aq .i64) wb xo pP,aa J.b8 gi gC cM.az,aa J.aX kF kK cM.Fields,ap.c3 aB [.q aW a6 x_.l,.map (some b6),.q aS aT x_.b7],aa J.bd aW a6 x_.l,ap.map dA (Value.int .i64) b6 x_.cF,aa (aq .i64) aS aT x_.b7]/\ac5=(.go ())) (fun K iA=>?_) ?_
                 · refine wp_seq_k fun K iB=>a7 ?_;obtain ⟨dC,aAL,h⟩:=J.aQ h;obtain ⟨ajY,auN,_,⟨tj,tP,tk,tQ,rfl,asU,asV⟩,aqt⟩:=b3 _ (hm.d 2 rfl) aAL;have hm:=hm.more (y:=aa J.dB tj tP dC.bA) asU;have hm:=hm.more (y:=aa J.eG tk tQ dC.bp) asV;refine bR wn (bL Tryz.underlying134 Tryz.sizeOf133 rfl (I.g rfl) (I.g rfl) ajY auN) I rfl rfl fun a I=>?_
                   refine bh 1 [0,0] [(0,.U aB),(4,.U gP),(6,.i iS),(14,.q aW a6 x_.l),(15,.i (x_.l.length:Int)),(16,.i fi),(24,.q gX hq ed),(25,.i (ed.length:Int)),(26,.i hh),(31,.q gi gC cM.az),(32,.i (cM.az.length:Int)),(33,.i iN),(36,.agg #[ak dC.Name,.bool dC.Static,.q tj tP dC.bA,.i dC.Returns.Kind,ak dC.Returns.aR,.i dC.cT,.i dC.cS,ak dC.Code,.q tk tQ dC.bp])] [bM gi,bP gi+(iN).toNat* 9] (aD aqt aE) I fun a I=>?_
                   refine cZ (cs:=[ak [],.bool false,.slice none 0 0,.i 0,ak [],.i 0,.i 0,ak [],.slice none 0 0]) wn (fc Tryz.zeroValue133 rfl rfl) I hm rfl rfl fun a nC w _ I hm=>da (vs:=[ak dC.Name,.bool dC.Static,.q tj tP dC.bA,.i dC.Returns.Kind,ak dC.Returns.aR,.i dC.cT,.i dC.cS,ak dC.Code,.q tk tQ dC.bp]) 0 hm rfl wn rfl Tryz.sizeOf133 rfl rfl rfl rfl (I.g rfl) (I.g rfl) rfl fun w hm=>wpList_nil <| iB _ _ <| wp_seq_k fun K iC=>a7 ?_
                   refine bh 5 [0,0] [(0,.U aB),(4,.U gP),(6,.i iS),(8,.U nC),(14,.q aW a6 x_.l),(15,.i (x_.l.length:Int)),(16,.i fi),(24,.q gX hq ed),(25,.i (ed.length:Int)),(26,.i hh),(31,.q gi gC cM.az),(32,.i (cM.az.length:Int)),(33,.i iN),(40,.q aW a6 x_.l),(41,.i iS)] [aB,0] (aD (hm.d 6 rfl).2.2 aE) I fun a I=>?_;obtain ⟨gT,aAM,h⟩:=J.aQ h;obtain ⟨ajZ,auO,_,⟨OQ,PE,nw,o_,rfl,asW,asX⟩,aqu⟩:=b3 _ (hm.d 7 rfl) aAM
                   have hm:=hm.more (y:=aa J.aX OQ PE gT.Fields) asW;have hm:=hm.more (y:=aa J.b8 nw o_ gT.az) asX;refine bR wn (bL Tryz.underlying25 Tryz.sizeOf136 rfl (I.g rfl) (I.g rfl) ajZ auO) I rfl rfl fun a I=>?_
                   refine bh 4 [0,3] [(0,.U aB),(4,.U gP),(6,.i iS),(8,.U nC),(14,.q aW a6 x_.l),(15,.i (x_.l.length:Int)),(16,.i fi),(24,.q gX hq ed),(25,.i (ed.length:Int)),(26,.i hh),(31,.q gi gC cM.az),(32,.i (cM.az.length:Int)),(33,.i iN),(44,.q nw o_ gT.az),(45,.i (gT.az.length:Int)),(46,.i 0)] [bM aW,bP aW+(iS).toNat* 4 + 3] (aD aqu aE) I fun a I=>wpList_nil (iC _ _ ?_);obtain ⟨UM,h,Sn⟩:=J.fl h
                   refine cp (fun a w=>Fr ⟨65,[]⟩ [(0,.U aB),(4,.U gP),(6,.i iS),(14,.q aW a6 x_.l),(15,.i (x_.l.length:Int)),(16,.i fi),(24,.q gX hq ed),(25,.i (ed.length:Int)),(26,.i hh),(31,.q gi gC cM.az),(32,.i (cM.az.length:Int)),(33,.i iN)] a/\aw W M0 X w [au.bs nC 133 [ak dC.Name,.bool dC.Static,.q tj tP dC.bA,.i dC.Returns.Kind,ak dC.Returns.aR,.i dC.cT,.i dC.cS,ak dC.Code,.q tk tQ dC.bp],au.bs gP 136 [ak cM.Name,ak cM.b0,.q kF kK cM.Fields,.q gi gC cM.az]] [aa J.b8 nw o_ gT.az,aa J.aX OQ PE gT.Fields,aa J.eG tk tQ dC.bp,aa J.dB tj tP dC.bA,aa (aq .i64) gX hq ed,aa (aq .i64) wb xo pP,aa J.b8 gi gC cM.az,aa J.aX kF kK cM.Fields,ap.c3 aB [.q aW a6 x_.l,.map (some b6),.q aS aT x_.b7],aa J.bd aW a6 x_.l,ap.map dA (Value.int .i64) b6 x_.cF,aa (aq .i64) aS aT x_.b7]/\UM=(.go ())) (fun K kQ=>?_) ?_
                   · refine cN (fun (gk:Nat) a w=>∃ (kz:Int),Fr ⟨65,[]⟩ [(0,.U aB),(4,.U gP),(6,.i iS),(8,.U nC),(14,.q aW a6 x_.l),(15,.i (x_.l.length:Int)),(16,.i fi),(24,.q gX hq ed),(25,.i (ed.length:Int)),(26,.i hh),(31,.q gi gC cM.az),(32,.i (cM.az.length:Int)),(33,.i iN),(44,.q nw o_ gT.az),(45,.i (gT.az.length:Int)),(46,.i kz)] a/\aw W M0 X w [au.bs nC 133 [ak dC.Name,.bool dC.Static,.q tj tP dC.bA,.i dC.Returns.Kind,ak dC.Returns.aR,.i dC.cT,.i dC.cS,ak dC.Code,.q tk tQ dC.bp],au.bs gP 136 [ak cM.Name,ak cM.b0,.q kF kK cM.Fields,.q gi gC cM.az]] [aa J.b8 nw o_ gT.az,aa J.aX OQ PE gT.Fields,aa J.eG tk tQ dC.bp,aa J.dB tj tP dC.bA,aa (aq .i64) gX hq ed,aa (aq .i64) wb xo pP,aa J.b8 gi gC cM.az,aa J.aX kF kK cM.Fields,ap.c3 aB [.q aW a6 x_.l,.map (some b6),.q aS aT x_.b7],aa J.bd aW a6 x_.l,ap.map dA (Value.int .i64) b6 x_.cF,aa (aq .i64) aS aT x_.b7]/\J.vq F dC gT gk kz=some UM) F ⟨0,I.cut,hm,h⟩ ?_ ?_
                     · rintro a w ⟨kz,I,hm,h⟩;exact absurd h (by simp [J.vq])
                     rintro gk a w ⟨kz,I,hm,h⟩ K kr;rw [J.vq] at h;refine aG [] [(0,.U aB),(4,.U gP),(6,.i iS),(8,.U nC),(14,.q aW a6 x_.l),(15,.i (x_.l.length:Int)),(16,.i fi),(24,.q gX hq ed),(25,.i (ed.length:Int)),(26,.i hh),(31,.q gi gC cM.az),(32,.i (cM.az.length:Int)),(33,.i iN),(44,.q nw o_ gT.az),(45,.i (gT.az.length:Int)),(46,.i kz),(47,.bool (decide (kz <(gT.az.length:Int))))] I fun a I=>wp_seq_k fun K kR=>?_
                     refine bn (I.g rfl) h (fun anX h=>?_) (fun anX h=>?_)
                     · refine wp_skip <| kR _ _ <| wp_seq_k fun K kS=>wp_block <| wp_seq_k fun K lr=>a7 ?_;obtain ⟨e9,aAN,h⟩:=J.aQ h;obtain ⟨aj0,auP,_,⟨DU,EQ,DV,ER,rfl,asY,asZ⟩,aqv⟩:=b3 _ (hm.d 0 rfl) aAN;have hm:=hm.more (y:=aa J.dB DU EQ e9.bA) asY;have hm:=hm.more (y:=aa J.eG DV ER e9.bp) asZ;refine bR wn (bL Tryz.underlying134 Tryz.sizeOf133 rfl (I.g rfl) (I.g rfl) aj0 auP) I rfl rfl fun a I=>?_
                       refine bh 1 [0,0] [(0,.U aB),(4,.U gP),(6,.i iS),(8,.U nC),(14,.q aW a6 x_.l),(15,.i (x_.l.length:Int)),(16,.i fi),(24,.q gX hq ed),(25,.i (ed.length:Int)),(26,.i hh),(31,.q gi gC cM.az),(32,.i (cM.az.length:Int)),(33,.i iN),(44,.q nw o_ gT.az),(45,.i (gT.az.length:Int)),(46,.i kz),(49,.agg #[ak e9.Name,.bool e9.Static,.q DU EQ e9.bA,.i e9.Returns.Kind,ak e9.Returns.aR,.i e9.cT,.i e9.cS,ak e9.Code,.q DV ER e9.bp])] [bM nw,bP nw+(kz).toNat* 9] (aD aqv aE) I fun a I=>?_
                       refine cZ (cs:=[ak [],.bool false,.slice none 0 0,.i 0,ak [],.i 0,.i 0,ak [],.slice none 0 0]) wn (fc Tryz.zeroValue133 rfl rfl) I hm rfl rfl fun a Qw w _ I hm=>da (vs:=[ak e9.Name,.bool e9.Static,.q DU EQ e9.bA,.i e9.Returns.Kind,ak e9.Returns.aR,.i e9.cT,.i e9.cS,ak e9.Code,.q DV ER e9.bp]) 0 hm rfl wn rfl Tryz.sizeOf133 rfl rfl rfl rfl (I.g rfl) (I.g rfl) rfl fun w hm=>wpList_nil <| lr _ _ <| wp_seq_k fun K ls=>a7 ?_
                       refine bh 6 [0,0,1,0] [(0,.U aB),(4,.U gP),(6,.i iS),(8,.U nC),(10,.U Qw),(14,.q aW a6 x_.l),(15,.i (x_.l.length:Int)),(16,.i fi),(24,.q gX hq ed),(25,.i (ed.length:Int)),(26,.i hh),(31,.q gi gC cM.az),(32,.i (cM.az.length:Int)),(33,.i iN),(44,.q nw o_ gT.az),(45,.i (gT.az.length:Int)),(46,.i kz),(55,.bool (decide (dC.Name=e9.Name)))] [Qw,0,nC,0] (aD (a' (hm.e 1 rfl)) (aD (a' (hm.e 0 rfl)) aE)) I fun a I=>?_
                       rcases Bool.eq_false_or_eq_true (decide (dC.Name=e9.Name)) with FY | FY
                       · have h:=J.dz FY h;have I:=I.cd 55 rfl FY
                         refine bh 2 [1,0,0,1,1,0] [(0,.U aB),(4,.U gP),(6,.i iS),(8,.U nC),(14,.q aW a6 x_.l),(15,.i (x_.l.length:Int)),(16,.i fi),(24,.q gX hq ed),(25,.i (ed.length:Int)),(26,.i hh),(31,.q gi gC cM.az),(32,.i (cM.az.length:Int)),(33,.i iN),(44,.q nw o_ gT.az),(45,.i (gT.az.length:Int)),(46,.i kz),(55,.bool true),(56,.agg #[ak dC.Name,.bool dC.Static,.q tj tP dC.bA,.i dC.Returns.Kind,ak dC.Returns.aR,.i dC.cT,.i dC.cS,ak dC.Code,.q tk tQ dC.bp]),(57,.agg #[ak e9.Name,.bool e9.Static,.q DU EQ e9.bA,.i e9.Returns.Kind,ak e9.Returns.aR,.i e9.cT,.i e9.cS,ak e9.Code,.q DV ER e9.bp])] [Qw,0,nC,0] (aD (a' (hm.e 1 rfl)) (aD (a' (hm.e 0 rfl)) aE)) I fun a I=>?_
                         obtain ⟨WC,ayu,h⟩:=J.aQ h;have hc:=hm
                         refine bU (vs:=[.agg #[ak dC.Name,.bool dC.Static,.q tj tP dC.bA,.i dC.Returns.Kind,ak dC.Returns.aR,.i dC.cT,.i dC.cS,ak dC.Code,.q tk tQ dC.bp],.agg #[ak e9.Name,.bool e9.Static,.q DU EQ e9.bA,.i e9.Returns.Kind,ak e9.Returns.aR,.i e9.cT,.i e9.cS,ak e9.Code,.q DV ER e9.bp]]) (db I rfl rfl rfl rfl) rfl Tryz.call106 ⟨(I.g rfl),(I.g rfl),trivial⟩ (ahB (a_:=dC) (b_:=e9) ((hc.into 0).pick ⟨⟨5,rfl⟩,⟨4,rfl⟩,⟨1,rfl⟩,⟨0,rfl⟩,trivial⟩) ayu) I rfl rfl ?_
                         rintro _ w ⟨rfl,ai⟩;refine ⟨_,rfl,fun a I=>?_⟩;have hm:=hc.back 0 ai;clear ai hc
                         refine aM 2 [1,1] [(0,.U aB),(4,.U gP),(6,.i iS),(8,.U nC),(14,.q aW a6 x_.l),(15,.i (x_.l.length:Int)),(16,.i fi),(24,.q gX hq ed),(25,.i (ed.length:Int)),(26,.i hh),(31,.q gi gC cM.az),(32,.i (cM.az.length:Int)),(33,.i iN),(44,.q nw o_ gT.az),(45,.i (gT.az.length:Int)),(46,.i kz),(60,.bool (!WC))] I fun a I=>wpList_nil (ls _ _ ?_);refine bn (I.g rfl) h (fun anY h=>?_) (fun anY h=>?_)
                         · refine aG [] [(2,.i 4)] I fun a I=>wp_ret ?_;obtain rfl:=aH h;obtain rfl:=aH Sn;obtain rfl:=aH Sm;obtain rfl:=aH Sl;obtain rfl:=aH Sk;obtain rfl:=aH Sj;obtain rfl:=aH Sh;obtain rfl:=aH RY
                           refine ba (ao (ao (ba (ao (ba (ao (ao (ao (ba (ao (ba (ao (ao (ao (ba (ao (ba (ao (ao (ao (ba (ao (ao ?_)))))))))))))))))))))));refine bq Tryz.results80 I rfl ?_;exact ⟨rfl,hm.a1 [] []⟩
                         refine wp_skip <| kS _ _ <| cn [] [(0,.U aB),(4,.U gP),(6,.i iS),(8,.U nC),(14,.q aW a6 x_.l),(15,.i (x_.l.length:Int)),(16,.i fi),(24,.q gX hq ed),(25,.i (ed.length:Int)),(26,.i hh),(31,.q gi gC cM.az),(32,.i (cM.az.length:Int)),(33,.i iN),(44,.q nw o_ gT.az),(45,.i (gT.az.length:Int)),(46,.i (J.av (kz+ 1)))] I fun a I=>?_
                         exact kr _ _ ⟨J.av (kz+ 1),I.cut,hm.a1 [1,2] [2,3,4,5,6,7,8,9,10,11,12,13],h⟩
                       have h:=J.dy FY h;have I:=I.cd 55 rfl FY;refine aM 5 [1,1,1,1,1] [(0,.U aB),(4,.U gP),(6,.i iS),(8,.U nC),(14,.q aW a6 x_.l),(15,.i (x_.l.length:Int)),(16,.i fi),(24,.q gX hq ed),(25,.i (ed.length:Int)),(26,.i hh),(31,.q gi gC cM.az),(32,.i (cM.az.length:Int)),(33,.i iN),(44,.q nw o_ gT.az),(45,.i (gT.az.length:Int)),(46,.i kz),(60,.bool false)] I fun a I=>wpList_nil (ls _ _ ?_);refine jD (I.g rfl) rfl <| wp_skip <| kS _ _ ?_
                       refine cn [] [(0,.U aB),(4,.U gP),(6,.i iS),(8,.U nC),(14,.q aW a6 x_.l),(15,.i (x_.l.length:Int)),(16,.i fi),(24,.q gX hq ed),(25,.i (ed.length:Int)),(26,.i hh),(31,.q gi gC cM.az),(32,.i (cM.az.length:Int)),(33,.i iN),(44,.q nw o_ gT.az),(45,.i (gT.az.length:Int)),(46,.i (J.av (kz+ 1)))] I fun a I=>?_
                       exact kr _ _ ⟨J.av (kz+ 1),I.cut,hm.a1 [1,2] [2,3,4,5,6,7,8,9,10,11,12,13],h⟩
                     refine wp_exit <| bD (bD (cD ?_));exact kQ _ _ ⟨I.cut,hm,(os h)⟩
                   rintro a w ⟨I,hm,bf⟩;subst UM;have h:=Sn;clear Sn;dsimp only [J.fa] at h;exact iA _ _ ⟨I.cut,hm.a1 [1] [4,5,6,7,8,9,10,11],(os h)⟩
                 rintro a w ⟨I,hm,bf⟩;subst ac5;have h:=Sm;clear Sm;dsimp only [J.fa] at h;refine jn _ _ <| cn [] [(0,.U aB),(4,.U gP),(6,.i iS),(14,.q aW a6 x_.l),(15,.i (x_.l.length:Int)),(16,.i fi),(24,.q gX hq ed),(25,.i (ed.length:Int)),(26,.i hh),(31,.q gi gC cM.az),(32,.i (cM.az.length:Int)),(33,.i (J.av (iN+ 1)))] I fun a I=>?_;exact gR _ _ ⟨J.av (iN+ 1),I.cut,hm,h⟩
               refine wp_exit <| bD (bD (cD ?_));exact gQ _ _ ⟨I.cut,hm,(os h)⟩
             rintro a w ⟨I,hm,bf⟩;subst UL;have h:=Sl;clear Sl;dsimp only [J.fa] at h;exact hO _ _ ⟨I.cut,hm,(os h)⟩
           rintro a w ⟨I,hm,bf⟩;subst ac4;have h:=Sk;clear Sk;dsimp only [J.fa] at h;refine hr _ _ <| cn [] [(0,.U aB),(4,.U gP),(14,.q aW a6 x_.l),(15,.i (x_.l.length:Int)),(16,.i fi),(24,.q gX hq ed),(25,.i (ed.length:Int)),(26,.i (J.av (hh+ 1)))] I fun a I=>?_;exact ej _ _ ⟨J.av (hh+ 1),I.cut,hm,h⟩
         refine wp_exit <| bD (bD (cD ?_));exact ew _ _ ⟨I.cut,hm,(os h)⟩
       rintro a w ⟨I,hm,bf⟩;subst UJ;have h:=Sj;clear Sj;dsimp only [J.fa] at h;exact dE _ _ ⟨I.cut,hm.a1 [] [4,5,6,7],(os h)⟩
     rintro a w ⟨I,hm,bf⟩;subst ac3;have h:=Sh;clear Sh;dsimp only [J.fa] at h;refine c6 _ _ <| cn [] [(0,.U aB),(14,.q aW a6 x_.l),(15,.i (x_.l.length:Int)),(16,.i (J.av (fi+ 1)))] I fun a I=>?_;exact cG _ _ ⟨J.av (fi+ 1),I.cut,hm,h⟩
   refine wp_exit <| bD (bD (cD ?_));exact c4 _ _ ⟨I.cut,hm,(os h)⟩
 rintro a w ⟨I,hm,bf⟩;subst Uo;have h:=RY;clear RY;dsimp only [J.ep] at h;refine bT _ _ <| aG [] [(2,.i 0)] I fun a I=>wp_ret ?_;obtain rfl:=aH h;refine bq Tryz.results80 I rfl ?_;exact ⟨rfl,hm.a1 [] []⟩
end Go.Proofs.YtpkhpagplommoaaGreat
namespace J
def My (s_:List Field):Option (List Field):=
 (eO 40 ([]:List Field) s_).bind fun lA=>
 some lA
def MB (s_:List Method):Option (List Method):=
 (eO 128 ([]:List Method) s_).bind fun lA=>
 some lA
def MA (s_:List Kind):Option (List Kind):=
 (eO 24 ([]:List Kind) s_).bind fun lA=>
 some lA
def Mz (s_:List Handler):Option (List Handler):=
 (eO 40 ([]:List Handler) s_).bind fun lA=>
 some lA
def rH:Nat->(List Method)->Int->Int->Option (List Method)
 | 0,_,_,_=>none
 | dg+ 1,jp,mB,hS=>
   cond (decide (hS <mB)) ((idx jp hS).bind fun gV=>
   (MA gV.bA).bind fun H8=>
   (Mz gV.bp).bind fun Dc=>
   (idx jp hS).bind fun iT=>
   (some (jp.set (hS).toNat (⟨iT.Name,iT.Static,H8,(⟨iT.Returns.Kind,iT.Returns.aR⟩:Kind),iT.cT,iT.cS,iT.Code,iT.bp⟩:Method))).bind fun LK=>
   (idx LK hS).bind fun iU=>
   (some (LK.set (hS).toNat (⟨iU.Name,iU.Static,iU.bA,(⟨iU.Returns.Kind,iU.Returns.aR⟩:Kind),iU.cT,iU.cS,iU.Code,Dc⟩:Method))).bind fun LL=>
   rH dg LL mB (av (hS+ 1))) (some jp)
def rG (F:Nat) (aj:List aR):Nat->(List aR)->Int->Option (List aR)
 | 0,_,_=>none
 | bz+ 1,g4,hR=>
   cond (decide (hR <(aj.length:Int))) (Option.bind (α:=List aR) ((idx aj hR).bind fun gU=>
   (My gU.Fields).bind fun nq=>
   (MB gU.az).bind fun vF=>
   Option.bind (α:=List Method) (rH F vF (vF.length:Int) 0) fun (qx:List Method)=>
   (eO 80 g4 [(⟨gU.Name,gU.b0,nq,qx⟩:aR)]).bind fun LM=>
   some LM) fun (sZ:List aR)=>
   rG F aj bz sZ (av (hR+ 1))) (some g4)
def HK (F:Nat) (aj:List aR):Option (List aR):=
 Option.bind (α:=List aR) (rG F aj F [] 0) fun (u6:List aR)=>
 some u6
def yW (s_:List (List UInt8)) (v_:List UInt8):Nat->Int->Option (Way (Int) (Unit))
 | 0,_=>none
 | bz+ 1,gy=>
   cond (decide (gy <(s_.length:Int))) ((idx s_ gy).bind fun Bc=>
   cond (decide (v_=Bc)) (some (.out gy)) (yW s_ v_ bz (av (gy+ 1)))) (some (.go ()))
def Il (F:Nat) (s_:List (List UInt8)) (v_:List UInt8):Option (Int):=
 dD (α:=Unit) (yW s_ v_ F 0) fun (_:Unit)=>
 some (-1)
def yB (F:Nat) (e1:Int) (eY:aR):Nat->(List (List UInt8))->(List Target)->Int->Option ((List (List UInt8)) × (List Target))
 | 0,_,_,_=>none
 | dg+ 1,lB,nT,fk=>
   cond (decide (fk <(eY.az.length:Int))) (Option.bind (α:=(List (List UInt8)) × (List Target)) ((idx eY.az fk).bind fun fZ=>
   (Il F lB fZ.Name).bind fun yL=>
   cond (decide (0 <=yL)) ((idx nT yL).bind fun XW=>
   (some (nT.set (yL).toNat (⟨e1,fk⟩:Target))).bind fun V1=>
   some (lB,V1)) ((eO 16 lB [fZ.Name]).bind fun LN=>
   (eO 16 nT [(⟨e1,fk⟩:Target)]).bind fun s0=>
   some (LN,s0))) fun ((vj,vk):(List (List UInt8)) × (List Target))=>
   yB F e1 eY dg vj vk (av (fk+ 1))) (some (lB,nT))
def yA (F:Nat) (x_:du):List Int->(List (List UInt8))->(List Target)->Option ((List (List UInt8)) × (List Target))
 | [],mo,mq=>some (mo,mq)
 | e1::Mu,mo,mq=>
   Option.bind (α:=(List (List UInt8)) × (List Target)) ((idx x_.l e1).bind fun eY=>
   Option.bind (α:=(List (List UInt8)) × (List Target)) (yB F e1 eY F mo mq 0) fun ((vh,vi):(List (List UInt8)) × (List Target))=>
   some (vh,vi)) fun ((vf,vg):(List (List UInt8)) × (List Target))=>
   yA F x_ Mu vf vg
def HI (F:Nat) (x_:du) (bx:Int):Option ((List (List UInt8)) × (List Target)):=
 (vo F (⟨x_.l,x_.cF,x_.b7⟩:du) bx).bind fun im=>
 (H' im).bind fun g5=>
 Option.bind (α:=(List (List UInt8)) × (List Target)) (yA F x_ im.reverse [] []) fun ((mo,mq):(List (List UInt8)) × (List Target))=>
 some (mo,mq)
def qy (F:Nat) (dn:List aR) (g5:Int × du) (cC:Int × du):Nat->(List (List Target))->(List (List (List UInt8)))->(List (List Field))->Int->Option (Way (bC × Int) ((List (List Target)) × (List (List (List UInt8))) × (List (List Field))))
 | 0,_,_,_,_=>none
 | bz+ 1,qh,qi,qj,gl=>
   cond (decide (gl <(dn.length:Int))) ((HI F (⟨dn,g5.2.cF,cC.2.b7⟩:du) gl).bind fun jd=>
   (yu F (⟨dn,g5.2.cF,cC.2.b7⟩:du) gl).bind fun HZ=>
   (eO 24 qj [HZ]).bind fun AC=>
   (eO 24 qi [jd.1]).bind fun Hs=>
   (eO 24 qh [jd.2]).bind fun Ht=>
   (idx AC gl).bind fun MW=>
   cond ((decide (12 <(MW.length:Int))) || (decide (16 <(jd.1.length:Int)))) (some (.out ((⟨[],[],[],[],[]⟩:bC),2))) (qy F dn g5 cC bz Ht Hs AC (av (gl+ 1)))) (some (.go (qh,qi,qj)))
def yr (F:Nat) (aj:List aR):Option (bC × Int):=
 (Ho F aj).bind fun iP=>
 cond (!decide (iP= 0)) (some ((⟨[],[],[],[],[]⟩:bC),iP)) ((HK F aj).bind fun dn=>
 (CT F (⟨dn,[],[]⟩:du)).bind fun g5=>
 cond (!decide (g5.1 = 0)) (some ((⟨[],[],[],[],[]⟩:bC),g5.1)) ((LQ F (⟨dn,g5.2.cF,[]⟩:du)).bind fun cC=>
 cond (!decide (cC.1 = 0)) (some ((⟨[],[],[],[],[]⟩:bC),cC.1)) ((LR F (⟨dn,g5.2.cF,cC.2.b7⟩:du)).bind fun eB=>
 cond (!decide (eB= 0)) (some ((⟨[],[],[],[],[]⟩:bC),eB)) ((HJ F (⟨dn,g5.2.cF,cC.2.b7⟩:du)).bind fun gN=>
 cond (!decide (gN= 0)) (some ((⟨[],[],[],[],[]⟩:bC),gN)) ((HH F (⟨dn,g5.2.cF,cC.2.b7⟩:du)).bind fun bF=>
 cond (!decide (bF= 0)) (some ((⟨[],[],[],[],[]⟩:bC),bF)) ((HG F (⟨dn,g5.2.cF,cC.2.b7⟩:du)).bind fun vE=>
 cond (!decide (vE= 0)) (some ((⟨[],[],[],[],[]⟩:bC),vE)) (dD (α:=(List (List Target)) × (List (List (List UInt8))) × (List (List Field))) (qy F dn g5 cC F [] [] [] 0) fun ((oF,oG,oH):(List (List Target)) × (List (List (List UInt8))) × (List (List Field)))=>
 some ((⟨dn,cC.2.b7,oH,oG,oF⟩:bC),0))))))))
def yS (bl:List Int) (bQ:List Int):Nat->Int->Option (Way (Bool) (Unit))
 | 0,_=>none
 | bz+ 1,ca=>
   cond (decide (ca <(bl.length:Int))) ((idx bl ca).bind fun e5=>
   (idx bQ ca).bind fun gB=>
   cond (!decide (e5=gB)) (some (.out false)) (yS bl bQ bz (av (ca+ 1)))) (some (.go ()))
def Ii (F:Nat) (bl:List Int) (bQ:List Int):Option (Bool):=
 cond (!decide ((bl.length:Int)=(bQ.length:Int))) (some false) (dD (α:=Unit) (yS bl bQ F 0) fun (_:Unit)=>
 some true)
def yQ (bl:List Field) (bQ:List Field):Nat->Int->Option (Way (Bool) (Unit))
 | 0,_=>none
 | bz+ 1,ca=>
   cond (decide (ca <(bl.length:Int))) ((idx bl ca).bind fun e5=>
   (idx bQ ca).bind fun gB=>
   cond (!decide (e5=gB)) (some (.out false)) (yQ bl bQ bz (av (ca+ 1)))) (some (.go ()))
def If (F:Nat) (bl:List Field) (bQ:List Field):Option (Bool):=
 cond (!decide ((bl.length:Int)=(bQ.length:Int))) (some false) (dD (α:=Unit) (yQ bl bQ F 0) fun (_:Unit)=>
 some true)
def yN (F:Nat) (bl:List (List Field)) (bQ:List (List Field)):Nat->Int->Option (Way (Bool) (Unit))
 | 0,_=>none
 | bz+ 1,dK=>
   cond (decide (dK <(bl.length:Int))) ((idx bl dK).bind fun jf=>
   (idx bQ dK).bind fun ju=>
   (If F jf ju).bind fun rM=>
   cond (!rM) (some (.out false)) (yN F bl bQ bz (av (dK+ 1)))) (some (.go ()))
def Ia (F:Nat) (bl:List (List Field)) (bQ:List (List Field)):Option (Bool):=
 cond (!decide ((bl.length:Int)=(bQ.length:Int))) (some false) (dD (α:=Unit) (yN F bl bQ F 0) fun (_:Unit)=>
 some true)
def yT (bl:List (List UInt8)) (bQ:List (List UInt8)):Nat->Int->Option (Way (Bool) (Unit))
 | 0,_=>none
 | bz+ 1,ca=>
   cond (decide (ca <(bl.length:Int))) ((idx bl ca).bind fun e5=>
   (idx bQ ca).bind fun gB=>
   cond (!decide (e5=gB)) (some (.out false)) (yT bl bQ bz (av (ca+ 1)))) (some (.go ()))
def Ij (F:Nat) (bl:List (List UInt8)) (bQ:List (List UInt8)):Option (Bool):=
 cond (!decide ((bl.length:Int)=(bQ.length:Int))) (some false) (dD (α:=Unit) (yT bl bQ F 0) fun (_:Unit)=>
 some true)
def yP (F:Nat) (bl:List (List (List UInt8))) (bQ:List (List (List UInt8))):Nat->Int->Option (Way (Bool) (Unit))
 | 0,_=>none
 | bz+ 1,dK=>
   cond (decide (dK <(bl.length:Int))) ((idx bl dK).bind fun jf=>
   (idx bQ dK).bind fun ju=>
   (Ij F jf ju).bind fun rM=>
   cond (!rM) (some (.out false)) (yP F bl bQ bz (av (dK+ 1)))) (some (.go ()))
def Ic (F:Nat) (bl:List (List (List UInt8))) (bQ:List (List (List UInt8))):Option (Bool):=
 cond (!decide ((bl.length:Int)=(bQ.length:Int))) (some false) (dD (α:=Unit) (yP F bl bQ F 0) fun (_:Unit)=>
 some true)
def yR (bl:List Target) (bQ:List Target):Nat->Int->Option (Way (Bool) (Unit))
 | 0,_=>none
 | bz+ 1,ca=>
   cond (decide (ca <(bl.length:Int))) ((idx bl ca).bind fun e5=>
   (idx bQ ca).bind fun gB=>
   cond (!decide (e5=gB)) (some (.out false)) (yR bl bQ bz (av (ca+ 1)))) (some (.go ()))
def Ih (F:Nat) (bl:List Target) (bQ:List Target):Option (Bool):=
 cond (!decide ((bl.length:Int)=(bQ.length:Int))) (some false) (dD (α:=Unit) (yR bl bQ F 0) fun (_:Unit)=>
 some true)
def yO (F:Nat) (bl:List (List Target)) (bQ:List (List Target)):Nat->Int->Option (Way (Bool) (Unit))
 | 0,_=>none
 | bz+ 1,dK=>
   cond (decide (dK <(bl.length:Int))) ((idx bl dK).bind fun jf=>
   (idx bQ dK).bind fun ju=>
   (Ih F jf ju).bind fun rM=>
   cond (!rM) (some (.out false)) (yO F bl bQ bz (av (dK+ 1)))) (some (.go ()))
def Ib (F:Nat) (bl:List (List Target)) (bQ:List (List Target)):Option (Bool):=
 cond (!decide ((bl.length:Int)=(bQ.length:Int))) (some false) (dD (α:=Unit) (yO F bl bQ F 0) fun (_:Unit)=>
 some true)
def CU (F:Nat) (a_:bC) (b_:bC):Option (Bool):=
 (Ii F a_.aK b_.aK).bind fun yJ=>
 cond (yJ) ((Ia F a_.Fields b_.Fields).bind fun Mc=>
 cond (Mc) ((Ic F a_.Names b_.Names).bind fun yK=>
 cond (yK) ((Ib F a_.aL b_.aL).bind fun er=>
 some er) (some false)) (some false)) (some false)
def rE (F:Nat) (ag:bC):Option (Int):=
 (yr F ag.aO).bind fun dh=>
 cond (!decide (dh.2 = 0)) (some 4) ((CU F (⟨ag.aO,ag.aK,ag.Fields,ag.Names,ag.aL⟩:bC) (⟨dh.1.aO,dh.1.aK,dh.1.Fields,dh.1.Names,dh.1.aL⟩:bC)).bind fun WK=>
 cond (!WK) (some 4) (some 0))
def Pg:Option (List aR):=
 some [(⟨[79,98,106,101,99,116],[],[],[(⟨[109,97,105,110],true,[],(⟨0,[]⟩:Kind),2,0,[1,0,7,31,27],[]⟩:Method)]⟩:aR),(⟨[69,114,114,111,114],[79,98,106,101,99,116],[(⟨[99,111,100,101],(⟨1,[]⟩:Kind)⟩:Field)],[]⟩:aR)]
end J
