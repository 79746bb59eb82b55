/- Part 3 of the proof that is ended in the last text: small logic, what the functions compute, walks, plain laws. -/
import Derived.Test.YtpkhpagplommoaaGreatZm2
namespace J
def r7 (F:Nat) (aK:List aN):Nat->Int->Option (Way (Int) (Unit))
 | 0,_=>none
 | bu+ 1,eW=>
   cond (decide (eW <(aK.length:Int))) ((idx aK eW).bind fun DZ=>
   (n6 F aK DZ.Name).bind fun W0=>
   cond (!decide (W0=eW)) (some (.out 6)) (r7 F aK bu (ap (eW+ 1)))) (some (.go ()))
def wC (aK:List aN):Nat->Int->Option (Way (Int) (Unit))
 | 0,_=>none
 | c4+ 1,lV=>
   cond (decide (lV <(aK.length:Int))) ((idx aK lV).bind fun DP=>
   (idx aK lV).bind fun IU=>
   cond (!((decide (DP.Name= [79,98,106,101,99,116])) == (decide (IU.bW= [])))) (some (.out 4)) (wC aK c4 (ap (lV+ 1)))) (some (.go ()))
def tj (F:Nat) (aK:List aN):Nat->Int->Option (Way (Int) (Unit))
 | 0,_=>none
 | eB+ 1,kl=>
   cond (decide (kl <(aK.length:Int))) ((idx aK kl).bind fun DT=>
   cond (!decide (DT.bW= [])) ((idx aK kl).bind fun DV=>
   (n6 F aK DV.bW).bind fun Xt=>
   cond (decide (Xt < 0)) (some (.out 5)) (tj F aK eB (ap (kl+ 1)))) (tj F aK eB (ap (kl+ 1)))) (some (.go ()))
def wD (F:Nat) (aK:List aN):Nat->Int->Option (Way (Int) (Unit))
 | 0,_=>none
 | fB+ 1,oW=>
   cond (decide (oW <(aK.length:Int))) ((w2 F aK oW).bind fun Xv=>
   cond (decide ((Xv.length:Int)= 0)) (some (.out 4)) (wD F aK fB (ap (oW+ 1)))) (some (.go ()))
def wE (F:Nat) (aK:List aN) (fC:Int):Nat->Int->Option (Way (Int) (Unit))
 | 0,_=>none
 | jE+ 1,mV=>
   (idx aK fC).bind fun IQ=>
   cond (decide (mV <(IQ.Fields.length:Int))) ((idx aK fC).bind fun IR=>
   (idx IR.Fields mV).bind fun nU=>
   (zm F aK [(⟨nU.Kind.Kind,nU.Kind.aN⟩:Kind)]).bind fun W6=>
   cond (!W6) (some (.out 5)) (wE F aK fC jE (ap (mV+ 1)))) (some (.go ()))
def wG (F:Nat) (aK:List aN) (dO:Method):Nat->Int->Option (Way (Int) (Unit))
 | 0,_=>none
 | uz+ 1,oT=>
   cond (decide (oT <(dO.bH.length:Int))) ((idx dO.bH oT).bind fun NP=>
   (n6 F aK NP.aN).bind fun W9=>
   cond (decide (W9 < 0)) (some (.out 5)) (wG F aK dO uz (ap (oT+ 1)))) (some (.go ()))
def wF (F:Nat) (aK:List aN) (fC:Int):Nat->Int->Option (Way (Int) (Unit))
 | 0,_=>none
 | sx+ 1,kG=>
   (idx aK fC).bind fun rO=>
   cond (decide (kG <(rO.aR.length:Int))) (ed (α:=Unit) ((idx aK fC).bind fun vH=>
   (idx vH.aR kG).bind fun dO=>
   (zm F aK dO.bD).bind fun MT=>
   cond (!MT) (some (.out 5)) ((zm F aK [(⟨dO.Returns.Kind,dO.Returns.aN⟩:Kind)]).bind fun W8=>
   cond (!W8) (some (.out 5)) (ed (α:=Unit) (wG F aK dO F 0) fun (_:Unit)=>
   some (.go ())))) fun (_:Unit)=>
   wF F aK fC sx (ap (kG+ 1))) (some (.go ()))
def tk (F:Nat) (aK:List aN):Nat->Int->Option (Way (Int) (Unit))
 | 0,_=>none
 | h1+ 1,fC=>
   cond (decide (fC <(aK.length:Int))) (ed (α:=Unit) (ed (α:=Unit) (wE F aK fC F 0) fun (_:Unit)=>
   ed (α:=Unit) (wF F aK fC F 0) fun (_:Unit)=>
   some (.go ())) fun (_:Unit)=>
   tk F aK h1 (ap (fC+ 1))) (some (.go ()))
def ww (eX:List Field) (iH:Int):Nat->Int->Option (Way (Int) (Unit))
 | 0,_=>none
 | L3+ 1,nG=>
   cond (decide (nG <iH)) ((idx eX nG).bind fun Oa=>
   (idx eX iH).bind fun Ys=>
   cond (decide (Oa.Name=Ys.Name)) (some (.out 6)) (ww eX iH L3 (ap (nG+ 1)))) (some (.go ()))
def wv (F:Nat) (eX:List Field):Nat->Int->Option (Way (Int) (Unit))
 | 0,_=>none
 | L2+ 1,iH=>
   cond (decide (iH <(eX.length:Int))) (ed (α:=Unit) (ed (α:=Unit) (ww eX iH F 0) fun (_:Unit)=>
   some (.go ())) fun (_:Unit)=>
   wv F eX L2 (ap (iH+ 1))) (some (.go ()))
def wy (gU:aN) (iX:Int):Nat->Int->Option (Way (Int) (Unit))
 | 0,_=>none
 | L5+ 1,oV=>
   cond (decide (oV <iX)) ((idx gU.aR oV).bind fun DU=>
   (idx gU.aR iX).bind fun IY=>
   cond (decide (DU.Name=IY.Name)) (some (.out 6)) (wy gU iX L5 (ap (oV+ 1)))) (some (.go ()))
def wx (F:Nat) (gU:aN):Nat->Int->Option (Way (Int) (Unit))
 | 0,_=>none
 | L4+ 1,iX=>
   cond (decide (iX <(gU.aR.length:Int))) (ed (α:=Unit) (ed (α:=Unit) (wy gU iX F 0) fun (_:Unit)=>
   some (.go ())) fun (_:Unit)=>
   wx F gU L4 (ap (iX+ 1))) (some (.go ()))
def wH (F:Nat) (aK:List aN):Nat->Int->Option (Way (Int) (Unit))
 | 0,_=>none
 | sy+ 1,hj=>
   cond (decide (hj <(aK.length:Int))) (ed (α:=Unit) ((zi F aK hj).bind fun eX=>
   ed (α:=Unit) (wv F eX F 0) fun (_:Unit)=>
   (idx aK hj).bind fun gU=>
   ed (α:=Unit) (wx F gU F 0) fun (_:Unit)=>
   some (.go ())) fun (_:Unit)=>
   wH F aK sy (ap (hj+ 1))) (some (.go ()))
def ti (F:Nat) (aK:List aN) (fj:Int) (fz:List Int) (gg:Int) (h7:Int):Nat->Int->Option (Way (Int) (Unit))
 | 0,_=>none
 | HU+ 1,kn=>
   (idx fz gg).bind fun Ox=>
   (idx aK Ox).bind fun I3=>
   cond (decide (kn <(I3.aR.length:Int))) ((idx aK fj).bind fun Bf=>
   (idx Bf.aR h7).bind fun fQ=>
   (idx fz gg).bind fun Oy=>
   (idx aK Oy).bind fun Bg=>
   (idx Bg.aR kn).bind fun fR=>
   cond (decide (fQ.Name=fR.Name)) (cond (fQ.Static || fR.Static) (some (.out 4)) ((tp F fQ.bD fR.bD).bind fun Nc=>
   cond (!Nc) (some (.out 4)) (cond (!decide ((⟨fQ.Returns.Kind,fQ.Returns.aN⟩:Kind)=(⟨fR.Returns.Kind,fR.Returns.aN⟩:Kind))) (some (.out 4)) (ti F aK fj fz gg h7 HU (ap (kn+ 1)))))) (ti F aK fj fz gg h7 HU (ap (kn+ 1)))) (some (.go ()))
def wB (F:Nat) (aK:List aN) (fj:Int) (fz:List Int) (gg:Int):Nat->Int->Option (Way (Int) (Unit))
 | 0,_=>none
 | L8+ 1,h7=>
   (idx aK fj).bind fun rS=>
   cond (decide (h7 <(rS.aR.length:Int))) (ed (α:=Unit) (ed (α:=Unit) (ti F aK fj fz gg h7 F 0) fun (_:Unit)=>
   some (.go ())) fun (_:Unit)=>
   wB F aK fj fz gg L8 (ap (h7+ 1))) (some (.go ()))
def wA (F:Nat) (aK:List aN) (fj:Int) (fz:List Int):Nat->Int->Option (Way (Int) (Unit))
 | 0,_=>none
 | L7+ 1,gg=>
   cond (decide (gg <(ap ((fz.length:Int) - 1)))) (ed (α:=Unit) (ed (α:=Unit) (wB F aK fj fz gg F 0) fun (_:Unit)=>
   some (.go ())) fun (_:Unit)=>
   wA F aK fj fz L7 (ap (gg+ 1))) (some (.go ()))
def wz (F:Nat) (aK:List aN):Nat->Int->Option (Way (Int) (Unit))
 | 0,_=>none
 | L6+ 1,fj=>
   cond (decide (fj <(aK.length:Int))) (ed (α:=Unit) ((w2 F aK fj).bind fun fz=>
   ed (α:=Unit) (wA F aK fj fz F 0) fun (_:Unit)=>
   some (.go ())) fun (_:Unit)=>
   wz F aK L6 (ap (fj+ 1))) (some (.go ()))
def EX (F:Nat) (aK:List aN):Option (Int):=
 (EW F aK).bind fun ez=>
 cond (!decide (ez= 0)) (some ez) (dw (α:=Unit) (r7 F aK F 0) fun (_:Unit)=>
 (n6 F aK [79,98,106,101,99,116]).bind fun MO=>
 cond (decide (MO < 0)) (some 5) ((n6 F aK [69,114,114,111,114]).bind fun W2=>
 cond (decide (W2 < 0)) (some 5) (dw (α:=Unit) (wC aK F 0) fun (_:Unit)=>
 dw (α:=Unit) (tj F aK F 0) fun (_:Unit)=>
 dw (α:=Unit) (wD F aK F 0) fun (_:Unit)=>
 (n6 F aK [69,114,114,111,114]).bind fun yG=>
 (zi F aK yG).bind fun cF=>
 (idx aK yG).bind fun dI=>
 cond ((!decide (dI.bW= [79,98,106,101,99,116])) || (decide ((cF.length:Int)= 0))) (some 4) ((idx cF 0).bind fun Yu=>
 cond (!decide (Yu.Kind.Kind= 1)) (some 4) (dw (α:=Unit) (tk F aK F 0) fun (_:Unit)=>
 dw (α:=Unit) (wH F aK F 0) fun (_:Unit)=>
 dw (α:=Unit) (wz F aK F 0) fun (_:Unit)=>
 some 0)))))
def qI (F:Nat) (aK:List aN):Nat->(List (List Target))->(List (List (List UInt8)))->(List (List Field))->(List Int)->Int->Option (Way (bw × Int) ((List (List Target)) × (List (List (List UInt8))) × (List (List Field)) × (List Int)))
 | 0,_,_,_,_,_=>none
 | bu+ 1,pE,pF,pG,pH,ki=>
   cond (decide (ki <(aK.length:Int))) ((zi F aK ki).bind fun vq=>
   (EZ F aK ki).bind fun m3=>
   cond ((decide (12 <(vq.length:Int))) || (decide (16 <(m3.1.length:Int)))) (some (.out ((⟨[],[],[],[],[]⟩:bw),2))) ((idx aK ki).bind fun yW=>
   (n6 F aK yW.bW).bind fun Ik=>
   (ej 8 pH [Ik]).bind fun Ma=>
   (ej 24 pG [vq]).bind fun Mb=>
   (ej 24 pF [m3.1]).bind fun Mc=>
   (ej 24 pE [m3.2]).bind fun Md=>
   qI F aK bu Md Mc Mb Ma (ap (ki+ 1)))) (some (.go (pE,pF,pG,pH)))
def EY (F:Nat) (aK:List aN):Option (bw × Int):=
 (EX F aK).bind fun h9=>
 cond (!decide (h9= 0)) (some ((⟨[],[],[],[],[]⟩:bw),h9)) (dw (α:=(List (List Target)) × (List (List (List UInt8))) × (List (List Field)) × (List Int)) (qI F aK F [] [] [] [] 0) fun ((pA,pB,pC,pD):(List (List Target)) × (List (List (List UInt8))) × (List (List Field)) × (List Int))=>
 some ((⟨aK,pD,pC,pB,pA⟩:bw),0))
end J
namespace Go.Proofs.YtpkhpagplommoaaGreat
open Go Go.RowKit a2
set_option maxHeartbeats 4000000
set_option maxRecDepth 20000
theorem aiF {W:World} {X:List Nat} {F:Nat} {aK:List J.aN} {r:Int} {ag:aS} {ah:Nat} {M0:List Nat} (hm:au W M0 X W [] [U J.bd ag ah aK]) (h:J.EX F aK=some r) :
 Calls Tryz.prog 109 [.q ag ah aK].toArray W (fun e aD=>e= .returned (.i r)/\au W M0 X aD [] []):=by
 refine enter Tryz.func109 rfl Tryz.ntmps109 rfl fun a I=>?_;rw [J.EX] at h;refine bc [] [] I fun a I=>wp_seq_k fun K bI=>aY <| aP 1 [] [(29,.q ag ah aK)] I fun a I=>?_;obtain ⟨ez,Ap,h⟩:=J.aF h;have hc:=hm;refine bP (vs:=[.q ag ah aK]) wn rfl Tryz.call135 ⟨(I.g rfl),trivial⟩ (aiD ((hc.into 0).pick ⟨⟨0,rfl⟩,trivial⟩) Ap) I rfl rfl ?_;rintro _ w ⟨rfl,af⟩;refine ⟨_,rfl,fun a I=>?_⟩;have hm:=hc.back 0 af;clear af hc
 refine aP 1 [] [(3,.i ez)] I fun a I=>wpList_nil (bI _ _ ?_);refine wp_seq_k fun K ca=>bc [] [(32,.bool (!decide (ez= 0)))] I fun a I=>bi (I.g rfl) h (fun hZ h=>?_) (fun hZ h=>?_)
 · refine bt [] [(2,.i ez)] I fun a I=>wp_ret ?_;obtain rfl:=aB h;refine ak <| bn Tryz.results109 I rfl ?_;exact ⟨rfl,hm.aW [] []⟩
 refine wp_skip <| ca _ _ <| wp_seq_k fun K dL=>bc [] [(4,.i 0)] I fun a I=>?_;obtain ⟨VX,h,Tu⟩:=J.ef h;refine cb (fun a w=>Fr ⟨353,[]⟩ [(0,.q ag ah aK)] a/\au W M0 X w [] [U J.bd ag ah aK]/\VX=(.go ())) (fun K cO=>?_) ?_
 · refine cA (fun (bu:Nat) a w=>∃ (eW:Int),Fr ⟨353,[]⟩ [(0,.q ag ah aK),(4,.i eW)] a/\au W M0 X w [] [U J.bd ag ah aK]/\J.r7 F aK bu eW=some VX) F ⟨0,I.cut,hm,h⟩ ?_ ?_
   · rintro a w ⟨eW,I,hm,h⟩;exact absurd h (by simp [J.r7])
   rintro bu a w ⟨eW,I,hm,h⟩ K dp;rw [J.r7] at h;refine wp_seq_k fun K da=>bc [] [(37,.bool (decide (eW <(aK.length:Int))))] I fun a I=>bi (I.g rfl) h (fun RF h=>?_) (fun RF h=>?_)
   · refine wp_skip <| da _ _ <| wp_seq_k fun K d_=>wp_block <| wp_seq_k fun K dQ=>aY <| aP 3 [] [(40,.q ag ah aK),(41,.q ag ah aK),(42,.i eW)] I fun a I=>?_;obtain ⟨DZ,aEh,h⟩:=J.aF h;obtain ⟨anD,ays,_,⟨ahC,aiy,ahD,ah1,rfl,auj,RS⟩,auc⟩:=bZ _ (hm.d 0 rfl) aEh;have hm:=hm.more (y:=U J.aX ahC aiy DZ.Fields) auj;have hm:=hm.more (y:=U J.b2 ahD ah1 DZ.aR) RS;refine bQ wn (bF Tryz.underlying25 Tryz.sizeOf136 rfl (I.g rfl) (I.g rfl) anD ays) I rfl rfl fun a I=>?_
     refine bf 2 [0,0] [(45,ao DZ.Name)] [bG ag,bJ ag+(eW).toNat* 4 + 0] (aw auc ax) I fun a I=>?_;obtain ⟨W0,azC,h⟩:=J.aF h;have hc:=hm;refine bP (vs:=[.q ag ah aK,ao DZ.Name]) wn rfl Tryz.call112 ⟨(I.g rfl),(I.g rfl),trivial⟩ (tJ ((hc.into 0).pick ⟨⟨2,rfl⟩,trivial⟩) azC) I rfl rfl ?_;rintro _ w ⟨rfl,af⟩;refine ⟨_,rfl,fun a I=>?_⟩;have hm:=hc.back 0 af;clear af hc;refine aP 2 [] [(48,.bool (!decide (W0=eW)))] I fun a I=>wpList_nil (dQ _ _ ?_);refine bi (I.g rfl) h (fun Rq h=>?_) (fun Rq h=>?_)
     · refine bt [] [(2,.i 6)] I fun a I=>wp_ret ?_;obtain rfl:=aB h;obtain rfl:=aB Tu;refine a6 (ak (ak (a6 (ak (ak ?_)))));refine bn Tryz.results109 I rfl ?_;exact ⟨rfl,hm.aW [] []⟩
     refine wp_skip <| d_ _ _ <| ch [] [(4,.i (J.ap (eW+ 1)))] I fun a I=>?_;exact dp _ _ ⟨J.ap (eW+ 1),I.cut,hm.ec [2],h⟩
   refine wp_exit <| bx (bx (cw ?_));exact cO _ _ ⟨I.cut,hm,(os h)⟩
 rintro a w ⟨I,hm,bb⟩;subst VX;have h:=Tu;clear Tu;dsimp only [J.dZ] at h;refine dL _ _ <| wp_seq_k fun K fi=>wp_seq_k fun K gA=>aY <| aP 1 [] [(49,.q ag ah aK)] I fun a I=>?_;obtain ⟨MO,azE,h⟩:=J.aF h;have hc:=hm;refine bP (vs:=[.q ag ah aK,ao [79,98,106,101,99,116]]) wn rfl Tryz.call112 ⟨(I.g rfl),(cW _ _),trivial⟩ (tJ ((hc.into 0).pick ⟨⟨0,rfl⟩,trivial⟩) azE) I rfl rfl ?_;rintro _ w ⟨rfl,af⟩;refine ⟨_,rfl,fun a I=>?_⟩;have hm:=hc.back 0 af;clear af hc;refine aP 2 [] [(52,.bool (decide (MO < 0)))] I fun a I=>?_
 rcases Bool.eq_false_or_eq_true (decide (MO < 0)) with F8 | F8
 · have h:=J.di F8 h;have I:=I.b5 52 rfl F8;refine aP 4 [1,1,1,1] [(56,.bool true)] I fun a I=>wpList_nil (gA _ _ ?_);refine eN (I.g rfl) rfl <| bt [] [(2,.i 5)] I fun a I=>wp_ret ?_;obtain rfl:=aB h;refine ak <| bn Tryz.results109 I rfl ?_;exact ⟨rfl,hm.aW [] []⟩
 have h:=J.dh F8 h;have I:=I.b5 52 rfl F8;refine aP 1 [1] [(53,.q ag ah aK)] I fun a I=>?_;obtain ⟨W2,azI,h⟩:=J.aF h;have hc:=hm;refine bP (vs:=[.q ag ah aK,ao [69,114,114,111,114]]) (c1 I rfl rfl rfl rfl) rfl Tryz.call112 ⟨(I.g rfl),(cW _ _),trivial⟩ (tJ ((hc.into 0).pick ⟨⟨0,rfl⟩,trivial⟩) azI) I rfl rfl ?_;rintro _ w ⟨rfl,af⟩;refine ⟨_,rfl,fun a I=>?_⟩;have hm:=hc.back 0 af;clear af hc;refine aP 2 [1,1] [(56,.bool (decide (W2 < 0)))] I fun a I=>wpList_nil (gA _ _ ?_);refine bi (I.g rfl) h (fun aoQ h=>?_) (fun aoQ h=>?_)
 · refine bt [] [(2,.i 5)] I fun a I=>wp_ret ?_;obtain rfl:=aB h;refine ak <| bn Tryz.results109 I rfl ?_;exact ⟨rfl,hm.aW [] []⟩
 refine wp_skip <| fi _ _ <| wp_seq_k fun K fO=>bc [] [(5,.i 0)] I fun a I=>?_;obtain ⟨Va,h,SF⟩:=J.ef h;refine cb (fun a w=>Fr ⟨353,[]⟩ [(0,.q ag ah aK)] a/\au W M0 X w [] [U J.bd ag ah aK]/\Va=(.go ())) (fun K gr=>?_) ?_
 · refine cA (fun (c4:Nat) a w=>∃ (lV:Int),Fr ⟨353,[]⟩ [(0,.q ag ah aK),(5,.i lV)] a/\au W M0 X w [] [U J.bd ag ah aK]/\J.wC aK c4 lV=some Va) F ⟨0,I.cut,hm,h⟩ ?_ ?_
   · rintro a w ⟨lV,I,hm,h⟩;exact absurd h (by simp [J.wC])
   rintro c4 a w ⟨lV,I,hm,h⟩ K gN;rw [J.wC] at h;refine wp_seq_k fun K hG=>bc [] [(60,.bool (decide (lV <(aK.length:Int))))] I fun a I=>bi (I.g rfl) h (fun apI h=>?_) (fun apI h=>?_)
   · refine wp_skip <| hG _ _ <| wp_seq_k fun K ht=>wp_block <| wp_seq_k fun K hv=>hF (by kernel_rfl) (by kernel_rfl) <| dM 2 [] [(63,.q ag ah aK),(64,.i lV)] [] (fun a7 ad=>ax) I fun a I=>?_;obtain ⟨DP,aCz,h⟩:=J.aF h;obtain ⟨alJ,awA,_,⟨ahc,ah9,By,Cd,rfl,auM,auN⟩,ash⟩:=bZ _ (hm.d 0 rfl) aCz;have hm:=hm.more (y:=U J.aX ahc ah9 DP.Fields) auM;have hm:=hm.more (y:=U J.b2 By Cd DP.aR) auN;refine eM wn (fun a7 ad=>bF Tryz.underlying25 Tryz.sizeOf136 rfl (I.g rfl) (I.g rfl) alJ awA) I rfl rfl fun a I=>?_
     refine dM 5 [0,0] [(68,.bool (decide (DP.Name= [79,98,106,101,99,116]))),(69,.q ag ah aK),(70,.i lV)] [bG ag,bJ ag+(lV).toNat* 4 + 0] (fun a7 ad=>(aw (b9 ad ash) ax)) I fun a I=>?_;obtain ⟨IU,aCC,h⟩:=J.aF h;obtain ⟨alN,awD,_,⟨ahd,ah_,ahe,ah',rfl,auO,auP⟩,asl⟩:=bZ _ (hm.d 2 rfl) aCC;have hm:=hm.more (y:=U J.aX ahd ah_ IU.Fields) auO;have hm:=hm.more (y:=U J.b2 ahe ah' IU.aR) auP;refine eM wn (fun a7 ad=>bF Tryz.underlying25 Tryz.sizeOf136 rfl (I.g rfl) (I.g rfl) alN awD) I rfl rfl fun a I=>?_
     refine dM 4 [0,1] [(75,.bool (!((decide (DP.Name= [79,98,106,101,99,116])) == (decide (IU.bW= [])))))] [bG ag,bJ ag+(lV).toNat* 4 + 1] (fun a7 ad=>(aw (b9 ad asl) ax)) I fun a I=>wpQuiet_nil fun w ad=>?_;have hm:=hm.dB ad;clear ad;refine hv _ _ <| bi (I.g rfl) h (fun Ru h=>?_) (fun Ru h=>?_)
     · refine bt [] [(2,.i 4)] I fun a I=>wp_ret ?_;obtain rfl:=aB h;obtain rfl:=aB SF;refine a6 (ak (ak (a6 (ak (ak ?_)))));refine bn Tryz.results109 I rfl ?_;exact ⟨rfl,hm.aW [] []⟩
     refine wp_skip <| ht _ _ <| ch [] [(5,.i (J.ap (lV+ 1)))] I fun a I=>?_;exact gN _ _ ⟨J.ap (lV+ 1),I.cut,hm.ec [4],h⟩
   refine wp_exit <| bx (bx (cw ?_));exact gr _ _ ⟨I.cut,hm,(os h)⟩
 rintro a w ⟨I,hm,bb⟩;subst Va;have h:=SF;clear SF;dsimp only [J.dZ] at h;refine fO _ _ <| wp_seq_k fun K jz=>bc [] [(6,.i 0)] I fun a I=>?_;obtain ⟨VA,h,S5⟩:=J.ef h;refine cb (fun a w=>Fr ⟨353,[]⟩ [(0,.q ag ah aK)] a/\au W M0 X w [] [U J.bd ag ah aK]/\VA=(.go ())) (fun K mw=>?_) ?_
 · refine cA (fun (eB:Nat) a w=>∃ (kl:Int),Fr ⟨353,[]⟩ [(0,.q ag ah aK),(6,.i kl)] a/\au W M0 X w [] [U J.bd ag ah aK]/\J.tj F aK eB kl=some VA) F ⟨0,I.cut,hm,h⟩ ?_ ?_
   · rintro a w ⟨kl,I,hm,h⟩;exact absurd h (by simp [J.tj])
   rintro eB a w ⟨kl,I,hm,h⟩ K jA;rw [J.tj] at h;refine wp_seq_k fun K jB=>bc [] [(79,.bool (decide (kl <(aK.length:Int))))] I fun a I=>bi (I.g rfl) h (fun aqi h=>?_) (fun aqi h=>?_)
   · refine wp_skip <| jB _ _ <| wp_seq_k fun K j'=>wp_block <| wp_seq_k fun K nv=>aY <| aP 2 [] [(82,.q ag ah aK),(83,.i kl)] I fun a I=>?_;obtain ⟨DT,aDb,h⟩:=J.aF h;obtain ⟨amq,axi,_,⟨ahm,aii,ahn,aij,rfl,au0,au1⟩,as2⟩:=bZ _ (hm.d 0 rfl) aDb;have hm:=hm.more (y:=U J.aX ahm aii DT.Fields) au0;have hm:=hm.more (y:=U J.b2 ahn aij DT.aR) au1;refine bQ wn (bF Tryz.underlying25 Tryz.sizeOf136 rfl (I.g rfl) (I.g rfl) amq axi) I rfl rfl fun a I=>?_
     refine bf 4 [0,1] [(88,.bool (!decide (DT.bW= [])))] [bG ag,bJ ag+(kl).toNat* 4 + 1] (aw as2 ax) I fun a I=>?_;rcases Bool.eq_false_or_eq_true (!decide (DT.bW= [])) with GM | GM
     · have h:=J.di GM h;have I:=I.b5 88 rfl GM;refine aP 3 [1,1,1] [(89,.q ag ah aK),(90,.q ag ah aK),(91,.i kl)] I fun a I=>?_;obtain ⟨DV,aDg,h⟩:=J.aF h;obtain ⟨amw,axm,_,⟨aho,aik,ahp,ail,rfl,au2,au3⟩,as5⟩:=bZ _ (hm.d 2 rfl) aDg;have hm:=hm.more (y:=U J.aX aho aik DV.Fields) au2;have hm:=hm.more (y:=U J.b2 ahp ail DV.aR) au3;refine bQ (c1 I rfl rfl rfl rfl) (bF Tryz.underlying25 Tryz.sizeOf136 rfl (I.g rfl) (I.g rfl) amw axm) I rfl rfl fun a I=>?_
       refine bf 2 [1,1,0,1] [(94,ao DV.bW)] [bG ag,bJ ag+(kl).toNat* 4 + 1] (aw as5 ax) I fun a I=>?_;obtain ⟨Xt,aAH,h⟩:=J.aF h;have hc:=hm;refine bP (vs:=[.q ag ah aK,ao DV.bW]) (c1 I rfl rfl rfl rfl) rfl Tryz.call112 ⟨(I.g rfl),(I.g rfl),trivial⟩ (tJ ((hc.into 0).pick ⟨⟨4,rfl⟩,trivial⟩) aAH) I rfl rfl ?_;rintro _ w ⟨rfl,af⟩;refine ⟨_,rfl,fun a I=>?_⟩;have hm:=hc.back 0 af;clear af hc;refine aP 2 [1,1] [(97,.bool (decide (Xt < 0)))] I fun a I=>wpList_nil (nv _ _ ?_);refine bi (I.g rfl) h (fun aqr h=>?_) (fun aqr h=>?_)
       · refine bt [] [(2,.i 5)] I fun a I=>wp_ret ?_;obtain rfl:=aB h;obtain rfl:=aB S5;refine a6 (ak (ak (a6 (ak (ak ?_)))));refine bn Tryz.results109 I rfl ?_;exact ⟨rfl,hm.aW [] []⟩
       refine wp_skip <| j' _ _ <| ch [] [(6,.i (J.ap (kl+ 1)))] I fun a I=>?_;exact jA _ _ ⟨J.ap (kl+ 1),I.cut,hm.ec [4],h⟩
     have h:=J.dh GM h;have I:=I.b5 88 rfl GM;refine aP 9 [1,1,1,1,1,1,1,1,1] [(97,.bool false)] I fun a I=>wpList_nil (nv _ _ ?_);refine ij (I.g rfl) rfl <| wp_skip <| j' _ _ <| ch [] [(6,.i (J.ap (kl+ 1)))] I fun a I=>?_;exact jA _ _ ⟨J.ap (kl+ 1),I.cut,hm.ec [2],h⟩
   refine wp_exit <| bx (bx (cw ?_));exact mw _ _ ⟨I.cut,hm,(os h)⟩
 rintro a w ⟨I,hm,bb⟩;subst VA;have h:=S5;clear S5;dsimp only [J.dZ] at h;refine jz _ _ <| wp_seq_k fun K lI=>bc [] [(7,.i 0)] I fun a I=>?_;obtain ⟨VK,h,Tg⟩:=J.ef h;refine cb (fun a w=>Fr ⟨353,[]⟩ [(0,.q ag ah aK)] a/\au W M0 X w [] [U J.bd ag ah aK]/\VK=(.go ())) (fun K lJ=>?_) ?_
 · refine cA (fun (fB:Nat) a w=>∃ (oW:Int),Fr ⟨353,[]⟩ [(0,.q ag ah aK),(7,.i oW)] a/\au W M0 X w [] [U J.bd ag ah aK]/\J.wD F aK fB oW=some VK) F ⟨0,I.cut,hm,h⟩ ?_ ?_
   · rintro a w ⟨oW,I,hm,h⟩;exact absurd h (by simp [J.wD])
   rintro fB a w ⟨oW,I,hm,h⟩ K mx;rw [J.wD] at h;refine wp_seq_k fun K q2=>bc [] [(101,.bool (decide (oW <(aK.length:Int))))] I fun a I=>bi (I.g rfl) h (fun Rx h=>?_) (fun Rx h=>?_)
   · refine wp_skip <| q2 _ _ <| wp_seq_k fun K my=>wp_block <| wp_seq_k fun K tS=>aY <| aP 2 [] [(104,.q ag ah aK),(105,.i oW)] I fun a I=>?_;obtain ⟨Xv,aAK,h⟩:=J.aF h;have hc:=hm;refine bP (vs:=[.q ag ah aK,.i oW]) wn rfl Tryz.call136 ⟨(I.g rfl),(I.g rfl),trivial⟩ (KX ((hc.into 0).pick ⟨⟨0,rfl⟩,trivial⟩) aAK) I rfl rfl ?_;rintro _ w ⟨aI7,aJm,rfl,af⟩;refine ⟨_,rfl,fun a I=>?_⟩;have hm:=hc.back 0 af;clear af hc;refine aP 2 [] [(108,.bool (decide ((Xv.length:Int)= 0)))] I fun a I=>wpList_nil (tS _ _ ?_)
     refine bi (I.g rfl) h (fun aqv h=>?_) (fun aqv h=>?_)
     · refine bt [] [(2,.i 4)] I fun a I=>wp_ret ?_;obtain rfl:=aB h;obtain rfl:=aB Tg;refine a6 (ak (ak (a6 (ak (ak ?_)))));refine bn Tryz.results109 I rfl ?_;exact ⟨rfl,hm.aW [] []⟩
     refine wp_skip <| my _ _ <| ch [] [(7,.i (J.ap (oW+ 1)))] I fun a I=>?_;exact mx _ _ ⟨J.ap (oW+ 1),I.cut,hm.ec [1],h⟩
   refine wp_exit <| bx (bx (cw ?_));exact lJ _ _ ⟨I.cut,hm,(os h)⟩
 rintro a w ⟨I,hm,bb⟩;subst VK;have h:=Tg;clear Tg;dsimp only [J.dZ] at h;refine lI _ _ <| wp_seq_k fun K oy=>aY <| aP 1 [] [(109,.q ag ah aK)] I fun a I=>?_;obtain ⟨yG,aAL,h⟩:=J.aF h;have hc:=hm;refine bP (vs:=[.q ag ah aK,ao [69,114,114,111,114]]) wn rfl Tryz.call112 ⟨(I.g rfl),(cW _ _),trivial⟩ (tJ ((hc.into 0).pick ⟨⟨0,rfl⟩,trivial⟩) aAL) I rfl rfl ?_;rintro _ w ⟨rfl,af⟩;refine ⟨_,rfl,fun a I=>?_⟩;have hm:=hc.back 0 af;clear af hc;refine aP 1 [] [(8,.i yG)] I fun a I=>wpList_nil (oy _ _ ?_)
 refine wp_seq_k fun K oz=>aY <| aP 2 [] [(111,.q ag ah aK),(112,.i yG)] I fun a I=>?_;obtain ⟨cF,aAM,h⟩:=J.aF h;have hc:=hm;refine bP (vs:=[.q ag ah aK,.i yG]) wn rfl Tryz.call110 ⟨(I.g rfl),(I.g rfl),trivial⟩ (Qw ((hc.into 0).pick ⟨⟨0,rfl⟩,trivial⟩) aAM) I rfl rfl ?_;rintro _ w ⟨fM,fT,dU,rfl,af⟩;refine ⟨_,rfl,fun a I=>?_⟩;have hm:=hc.back 0 af;clear af hc;refine aP 1 [] [(9,.q fM fT cF)] I fun a I=>wpList_nil (oz _ _ ?_);refine wp_seq_k fun K mz=>wp_seq_k fun K sm=>aY ?_
 refine aP 2 [] [(114,.q ag ah aK),(115,.i yG)] I fun a I=>?_;obtain ⟨dI,aDn,h⟩:=J.aF h;obtain ⟨amC,axt,_,⟨fY,f_,fZ,f',rfl,au8,au9⟩,ata⟩:=bZ _ (hm.d 1 rfl) aDn;have hm:=hm.more (y:=U J.aX fY f_ dI.Fields) au8;have hm:=hm.more (y:=U J.b2 fZ f' dI.aR) au9;refine bQ wn (bF Tryz.underlying25 Tryz.sizeOf136 rfl (I.g rfl) (I.g rfl) amC axt) I rfl rfl fun a I=>?_
 refine bf 9 [0,1,0,0,0,0] [(125,.bool ((!decide (dI.bW= [79,98,106,101,99,116])) || (decide ((cF.length:Int)= 0))))] [bG ag,bJ ag+(yG).toNat* 4 + 1] (aw ata ax) I fun a I=>?_;rcases Bool.eq_false_or_eq_true ((!decide (dI.bW= [79,98,106,101,99,116])) || (decide ((cF.length:Int)= 0))) with GQ | GQ
 · have h:=J.di GQ h;have I:=I.b5 125 rfl GQ;refine aP 7 [1,1,1,1,1,1,1] [(132,.bool true)] I fun a I=>wpList_nil (sm _ _ ?_);refine eN (I.g rfl) rfl <| bt [] [(2,.i 4)] I fun a I=>wp_ret ?_;obtain rfl:=aB h;refine ak <| bn Tryz.results109 I rfl ?_;exact ⟨rfl,hm.aW [] []⟩
 have h:=J.dh GQ h;have I:=I.b5 125 rfl GQ;refine aP 1 [1] [(126,.q fM fT cF)] I fun a I=>?_;obtain ⟨Yu,aDp,h⟩:=J.aF h;obtain ⟨amE,axv,_,rfl,atd⟩:=gi (hm.e 0 rfl) (hm.d 2 rfl) aDp;refine bQ (c1 I rfl rfl rfl rfl) (bF Tryz.underlying106 Tryz.sizeOf105 rfl (I.g rfl) (cW _ _) amE axv) I rfl rfl fun a I=>bf 5 [1,1,1,0,1,1,1] [(132,.bool (!decide (Yu.Kind.Kind= 1)))] [bG fM,bJ fM+(0 :Int).toNat* 3 + 1 + 0] (aw atd ax) I fun a I=>wpList_nil (sm _ _ ?_);refine bi (I.g rfl) h (fun aqC h=>?_) (fun aqC h=>?_)
 · refine bt [] [(2,.i 4)] I fun a I=>wp_ret ?_;obtain rfl:=aB h;refine ak <| bn Tryz.results109 I rfl ?_;exact ⟨rfl,hm.aW [] []⟩
 refine wp_skip <| mz _ _ <| wp_seq_k fun K sn=>bc [] [(10,.i 0)] I fun a I=>?_;obtain ⟨Wh,h,CY⟩:=J.ef h;refine cb (fun a w=>Fr ⟨353,[]⟩ [(0,.q ag ah aK)] a/\au W M0 X w [aq.row 105 3 (.q fM fT cF) cF dU] [U J.b2 fZ f' dI.aR,U J.aX fY f_ dI.Fields,al.rows J.aX dU cF,U J.bd ag ah aK]/\Wh=(.go ())) (fun K xG=>?_) ?_
 · refine cA (fun (h1:Nat) a w=>∃ (fC:Int),Fr ⟨353,[]⟩ [(0,.q ag ah aK),(10,.i fC)] a/\au W M0 X w [aq.row 105 3 (.q fM fT cF) cF dU] [U J.b2 fZ f' dI.aR,U J.aX fY f_ dI.Fields,al.rows J.aX dU cF,U J.bd ag ah aK]/\J.tk F aK h1 fC=some Wh) F ⟨0,I.cut,hm,h⟩ ?_ ?_
   · rintro a w ⟨fC,I,hm,h⟩;exact absurd h (by simp [J.tk])
   rintro h1 a w ⟨fC,I,hm,h⟩ K tW;rw [J.tk] at h;refine wp_seq_k fun K F5=>bc [] [(136,.bool (decide (fC <(aK.length:Int))))] I fun a I=>bi (I.g rfl) h (fun ao6 h=>?_) (fun ao6 h=>?_)
   · refine wp_skip <| F5 _ _ <| wp_seq_k fun K xH=>?_;obtain ⟨ael,h,CU⟩:=J.e3 h;refine cb (fun a w=>Fr ⟨353,[]⟩ [(0,.q ag ah aK),(10,.i fC)] a/\au W M0 X w [aq.row 105 3 (.q fM fT cF) cF dU] [U J.b2 fZ f' dI.aR,U J.aX fY f_ dI.Fields,al.rows J.aX dU cF,U J.bd ag ah aK]/\ael=(.go ())) (fun K zP=>?_) ?_
     · refine wp_seq_k fun K tX=>bc [] [(11,.i 0)] I fun a I=>?_;obtain ⟨U6,h,Sz⟩:=J.e3 h;refine cb (fun a w=>Fr ⟨353,[]⟩ [(0,.q ag ah aK),(10,.i fC)] a/\au W M0 X w [aq.row 105 3 (.q fM fT cF) cF dU] [U J.b2 fZ f' dI.aR,U J.aX fY f_ dI.Fields,al.rows J.aX dU cF,U J.bd ag ah aK]/\U6=(.go ())) (fun K zQ=>?_) ?_
       · refine cA (fun (jE:Nat) a w=>∃ (mV:Int),Fr ⟨353,[]⟩ [(0,.q ag ah aK),(10,.i fC),(11,.i mV)] a/\au W M0 X w [aq.row 105 3 (.q fM fT cF) cF dU] [U J.b2 fZ f' dI.aR,U J.aX fY f_ dI.Fields,al.rows J.aX dU cF,U J.bd ag ah aK]/\J.wE F aK fC jE mV=some U6) F ⟨0,I.cut,hm,h⟩ ?_ ?_
         · rintro a w ⟨mV,I,hm,h⟩;exact absurd h (by simp [J.wE])
         rintro jE a w ⟨mV,I,hm,h⟩ K xI;rw [J.wE] at h;refine wp_seq_k fun K F6=>wp_seq_k fun K F7=>aY <| aP 3 [] [(139,.i mV),(140,.q ag ah aK),(141,.i fC)] I fun a I=>?_;obtain ⟨IQ,aCa,h⟩:=J.aF h;obtain ⟨alh,awa,_,⟨ag9,ah3,ag_,ah4,rfl,aun,auo⟩,arS⟩:=bZ _ (hm.d 3 rfl) aCa;have hm:=hm.more (y:=U J.aX ag9 ah3 IQ.Fields) aun;have hm:=hm.more (y:=U J.b2 ag_ ah4 IQ.aR) auo;refine bQ wn (bF Tryz.underlying25 Tryz.sizeOf136 rfl (I.g rfl) (I.g rfl) alh awa) I rfl rfl fun a I=>?_
         refine bf 4 [0,2] [(146,.bool (decide (mV <(IQ.Fields.length:Int))))] [bG ag,bJ ag+(fC).toNat* 4 + 2] (aw arS ax) I fun a I=>wpList_nil (F7 _ _ ?_);refine bi (I.g rfl) h (fun ao' h=>?_) (fun ao' h=>?_)
         · refine wp_skip <| F6 _ _ <| wp_seq_k fun K CF=>wp_block <| wp_seq_k fun K zR=>aY <| eo 3 [] [(0,.q ag ah aK),(10,.i fC),(11,.i mV),(149,.q ag ah aK),(150,.q ag ah aK),(151,.i fC)] I fun a I=>?_;obtain ⟨IR,aCb,h⟩:=J.aF h;obtain ⟨ali,awb,_,⟨Jt,aal,ag',ah5,rfl,aup,auq⟩,arT⟩:=bZ _ (hm.d 5 rfl) aCb;have hm:=hm.more (y:=U J.aX Jt aal IR.Fields) aup;have hm:=hm.more (y:=U J.b2 ag' ah5 IR.aR) auq
           refine bQ wn (bF Tryz.underlying25 Tryz.sizeOf136 rfl (I.g rfl) (I.g rfl) ali awb) I rfl rfl fun a I=>bf 3 [0,2] [(154,.q Jt aal IR.Fields),(155,.i mV)] [bG ag,bJ ag+(fC).toNat* 4 + 2] (aw arT ax) I fun a I=>?_;obtain ⟨nU,aCc,h⟩:=J.aF h;obtain ⟨alj,awc,_,rfl,arU⟩:=bZ _ (hm.d 1 rfl) aCc;refine bQ wn (bF Tryz.underlying106 Tryz.sizeOf105 rfl (I.g rfl) (I.g rfl) alj awc) I rfl rfl fun a I=>bf 2 [0,1] [(158,.agg #[.i nU.Kind.Kind,ao nU.Kind.aN])] [bG Jt,bJ Jt+(mV).toNat* 3 + 1] (aw arU ax) I fun a I=>?_
           refine gw (cs:=[.i nU.Kind.Kind,ao nU.Kind.aN]) wn (fX (vs:=[(0,.agg #[.i nU.Kind.Kind,ao nU.Kind.aN])]) Tryz.underlying130 Tryz.sizeOf103 Tryz.zeroValue103 rfl rfl rfl ⟨⟨(I.g rfl),rfl⟩,trivial⟩ (by kernel_rfl)) I hm rfl rfl fun a akI w _ I hm=>?_;obtain ⟨W6,azS,h⟩:=J.aF h;have hc:=hm;have az:=(hc.jH (sz:=2) 0 [nU.Kind] rfl rfl rfl rfl).more (y:=al.rows J.dx [.i nU.Kind.Kind,ao nU.Kind.aN] [nU.Kind]) ⟨_,_,rfl,rfl,rfl⟩;have az:=az.freeze 0 0 rfl rfl
           refine bP (vs:=[.q ag ah aK,.slice (some ⟨akI,0,none⟩) 1 1]) wn rfl Tryz.call137 ⟨(I.g rfl),(I.g rfl),trivial⟩ (Qx (kinds_:=[nU.Kind]) ((az.into 0).pick ⟨⟨9,rfl⟩,⟨0,rfl⟩,trivial⟩) azS) I rfl rfl ?_;rintro _ w ⟨rfl,af⟩;refine ⟨_,rfl,fun a I=>?_⟩;have ad:a' [] _ w:=af.ev;have hm:=hc.gl 0 (by exact trivial) af;clear af hc az;clear ad;refine aP 1 [] [(161,.bool (!W6))] I fun a I=>wpList_nil (zR _ _ ?_);refine bi (I.g rfl) h (fun apa h=>?_) (fun apa h=>?_)
           · refine bt [] [(2,.i 5)] I fun a I=>wp_ret ?_;obtain rfl:=aB h;obtain rfl:=aB Sz;obtain rfl:=aB CU;obtain rfl:=aB CY;refine a6 (ak (ak (a6 (ak (ak (a6 (ak (ak (ak (a6 (ak (ak ?_))))))))))));refine bn Tryz.results109 I rfl ?_;exact ⟨rfl,hm.aW [] []⟩
           refine wp_skip <| CF _ _ <| ch [] [(11,.i (J.ap (mV+ 1)))] I fun a I=>?_;exact xI _ _ ⟨J.ap (mV+ 1),I.cut,hm.aW [1] [4,5,6,7],h⟩
         refine wp_exit <| bx (bx (cw ?_));exact zQ _ _ ⟨I.cut,hm.ec [2,3,4,5],(os h)⟩
       rintro a w ⟨I,hm,bb⟩;subst U6;have h:=Sz;clear Sz;dsimp only [J.eV] at h;refine tX _ _ <| bc [] [(12,.i 0)] I fun a I=>?_;obtain ⟨U8,h,Hd⟩:=J.e3 h;refine cb (fun a w=>Fr ⟨353,[]⟩ [(0,.q ag ah aK),(10,.i fC)] a/\au W M0 X w [aq.row 105 3 (.q fM fT cF) cF dU] [U J.b2 fZ f' dI.aR,U J.aX fY f_ dI.Fields,al.rows J.aX dU cF,U J.bd ag ah aK]/\U8=(.go ())) (fun K Q'=>?_) ?_
       · refine cA (fun (sx:Nat) a w=>∃ (kG:Int),Fr ⟨353,[]⟩ [(0,.q ag ah aK),(10,.i fC),(12,.i kG)] a/\au W M0 X w [aq.row 105 3 (.q fM fT cF) cF dU] [U J.b2 fZ f' dI.aR,U J.aX fY f_ dI.Fields,al.rows J.aX dU cF,U J.bd ag ah aK]/\J.wF F aK fC sx kG=some U8) F ⟨0,I.cut,hm,h⟩ ?_ ?_
         · rintro a w ⟨kG,I,hm,h⟩;exact absurd h (by simp [J.wF])
         rintro sx a w ⟨kG,I,hm,h⟩ K aoq;rw [J.wF] at h;refine wp_seq_k fun K Ra=>wp_seq_k fun K Lk=>aY <| aP 3 [] [(162,.i kG),(163,.q ag ah aK),(164,.i fC)] I fun a I=>?_;obtain ⟨rO,aCj,h⟩:=J.aF h;obtain ⟨alr,awj,_,⟨Jx,Kl,Jy,Km,rfl,aur,aus⟩,ar2⟩:=bZ _ (hm.d 3 rfl) aCj;have hm:=hm.more (y:=U J.aX Jx Kl rO.Fields) aur;have hm:=hm.more (y:=U J.b2 Jy Km rO.aR) aus;refine bQ wn (bF Tryz.underlying25 Tryz.sizeOf136 rfl (I.g rfl) (I.g rfl) alr awj) I rfl rfl fun a I=>?_
         refine bf 4 [0,3] [(169,.bool (decide (kG <(rO.aR.length:Int))))] [bG ag,bJ ag+(fC).toNat* 4 + 3] (aw ar2 ax) I fun a I=>wpList_nil (Lk _ _ ?_);refine bi (I.g rfl) h (fun api h=>?_) (fun api h=>?_)
         · refine wp_skip <| Ra _ _ <| wp_seq_k fun K Rb=>?_;obtain ⟨aen,h,Hf⟩:=J.e3 h;refine cb (fun a w=>Fr ⟨353,[]⟩ [(0,.q ag ah aK),(10,.i fC),(12,.i kG)] a/\au W M0 X w [aq.row 105 3 (.q fM fT cF) cF dU] [U J.b2 Jy Km rO.aR,U J.aX Jx Kl rO.Fields,U J.b2 fZ f' dI.aR,U J.aX fY f_ dI.Fields,al.rows J.aX dU cF,U J.bd ag ah aK]/\aen=(.go ())) (fun K Rc=>?_) ?_
           · refine wp_seq_k fun K Ll=>aY <| eo 2 [] [(0,.q ag ah aK),(10,.i fC),(12,.i kG),(172,.q ag ah aK),(173,.i fC)] I fun a I=>?_;obtain ⟨vH,aCk,h⟩:=J.aF h;obtain ⟨als,awk,_,⟨Px,P_,Bv,Kn,rfl,aut,auu⟩,ar3⟩:=bZ _ (hm.d 5 rfl) aCk;have hm:=hm.more (y:=U J.aX Px P_ vH.Fields) aut;have hm:=hm.more (y:=U J.b2 Bv Kn vH.aR) auu;refine bQ wn (bF Tryz.underlying25 Tryz.sizeOf136 rfl (I.g rfl) (I.g rfl) als awk) I rfl rfl fun a I=>?_
             refine bf 3 [0,3] [(176,.q Bv Kn vH.aR),(177,.i kG)] [bG ag,bJ ag+(fC).toNat* 4 + 3] (aw ar3 ax) I fun a I=>?_;obtain ⟨dO,aCl,h⟩:=J.aF h;obtain ⟨alu,awl,_,⟨s4,tz,rX,xb,rfl,auv,auw⟩,ar4⟩:=bZ _ (hm.d 0 rfl) aCl;have hm:=hm.more (y:=U J.dx s4 tz dO.bD) auv;have hm:=hm.more (y:=U J.er rX xb dO.bH) auw;refine bQ wn (bF Tryz.underlying134 Tryz.sizeOf133 rfl (I.g rfl) (I.g rfl) alu awl) I rfl rfl fun a I=>?_
             refine bf 1 [0,0] [(179,.agg #[ao dO.Name,.bool dO.Static,.q s4 tz dO.bD,.i dO.Returns.Kind,ao dO.Returns.aN,.i dO.cT,.i dO.cS,ao dO.Code,.q rX xb dO.bH])] [bG Bv,bJ Bv+(kG).toNat* 9] (aw ar4 ax) I fun a I=>cy (cs:=[ao [],.bool false,.slice none 0 0,.i 0,ao [],.i 0,.i 0,ao [],.slice none 0 0]) wn (eJ Tryz.zeroValue133 rfl rfl) I hm rfl rfl fun a zF w _ I hm=>?_
             refine cx (vs:=[ao dO.Name,.bool dO.Static,.q s4 tz dO.bD,.i dO.Returns.Kind,ao dO.Returns.aN,.i dO.cT,.i dO.cS,ao dO.Code,.q rX xb dO.bH]) 0 hm rfl wn rfl Tryz.sizeOf133 rfl rfl rfl rfl (I.g rfl) (I.g rfl) rfl fun w hm=>wpList_nil <| Ll _ _ <| wp_seq_k fun K zS=>wp_seq_k fun K acM=>aY <| bf 3 [0,2] [(180,.q ag ah aK),(182,.q s4 tz dO.bD)] [zF,2] (aw (aZ (hm.e 0 rfl)) ax) I fun a I=>?_;obtain ⟨MT,azY,h⟩:=J.aF h;have hc:=hm
             refine bP (vs:=[.q ag ah aK,.q s4 tz dO.bD]) wn rfl Tryz.call137 ⟨(I.g rfl),(I.g rfl),trivial⟩ (Qx ((hc.into 0).pick ⟨⟨9,rfl⟩,⟨1,rfl⟩,trivial⟩) azY) I rfl rfl ?_;rintro _ w ⟨rfl,af⟩;refine ⟨_,rfl,fun a I=>?_⟩;have hm:=hc.back 0 af;clear af hc;refine aP 2 [] [(185,.bool (!MT))] I fun a I=>?_;rcases Bool.eq_false_or_eq_true (!MT) with Gj | Gj
             · have h:=J.di Gj h;have I:=I.b5 185 rfl Gj;refine aP 7 [1,1,1,1,1,1,1] [(192,.bool true)] I fun a I=>wpList_nil (acM _ _ ?_);refine eN (I.g rfl) rfl <| bt [] [(2,.i 5)] I fun a I=>wp_ret ?_;obtain rfl:=aB h;obtain rfl:=aB Hf;obtain rfl:=aB Hd;obtain rfl:=aB CU;obtain rfl:=aB CY;refine ak (a6 (ak (ak (ak (a6 (ak (a6 (ak (ak (ak (a6 (ak (ak ?_)))))))))))))
               refine bn Tryz.results109 I rfl ?_;exact ⟨rfl,hm.aW [] []⟩
             have h:=J.dh Gj h;have I:=I.b5 185 rfl Gj;refine bf 3 [1,1,1,0,3] [(186,.q ag ah aK),(188,.agg #[.i dO.Returns.Kind,ao dO.Returns.aN])] [zF,3] (aw (aZ (hm.e 0 rfl)) ax) I fun a I=>gw (cs:=[.i dO.Returns.Kind,ao dO.Returns.aN]) (c1 I rfl rfl rfl rfl) (fX (vs:=[(0,.agg #[.i dO.Returns.Kind,ao dO.Returns.aN])]) Tryz.underlying130 Tryz.sizeOf103 Tryz.zeroValue103 rfl rfl rfl ⟨⟨(I.g rfl),rfl⟩,trivial⟩ (by kernel_rfl)) I hm rfl rfl fun a QW w _ I hm=>?_;obtain ⟨W8,azZ,h⟩:=J.aF h;have hc:=hm
             have az:=(hc.jH (sz:=2) 0 [dO.Returns] rfl rfl rfl rfl).more (y:=al.rows J.dx [.i dO.Returns.Kind,ao dO.Returns.aN] [dO.Returns]) ⟨_,_,rfl,rfl,rfl⟩;have az:=az.freeze 0 0 rfl rfl;refine bP (vs:=[.q ag ah aK,.slice (some ⟨QW,0,none⟩) 1 1]) (c1 I rfl rfl rfl rfl) rfl Tryz.call137 ⟨(I.g rfl),(I.g rfl),trivial⟩ (Qx (kinds_:=[dO.Returns]) ((az.into 0).pick ⟨⟨11,rfl⟩,⟨0,rfl⟩,trivial⟩) azZ) I rfl rfl ?_;rintro _ w ⟨rfl,af⟩;refine ⟨_,rfl,fun a I=>?_⟩;have ad:a' [] _ w:=af.ev;have hm:=hc.gl 0 (by exact trivial) af
             clear af hc az;clear ad;refine aP 2 [1,1] [(192,.bool (!W8))] I fun a I=>wpList_nil (acM _ _ ?_);refine bi (I.g rfl) h (fun apk h=>?_) (fun apk h=>?_)
             · refine bt [] [(2,.i 5)] I fun a I=>wp_ret ?_;obtain rfl:=aB h;obtain rfl:=aB Hf;obtain rfl:=aB Hd;obtain rfl:=aB CU;obtain rfl:=aB CY;refine ak (a6 (ak (ak (ak (a6 (ak (a6 (ak (ak (ak (a6 (ak (ak ?_)))))))))))));refine bn Tryz.results109 I rfl ?_;exact ⟨rfl,hm.aW [] []⟩
             refine wp_skip <| zS _ _ <| bc [] [(14,.i 0)] I fun a I=>?_;obtain ⟨U_,h,SB⟩:=J.e3 h
             refine cb (fun a w=>Fr ⟨353,[]⟩ [(0,.q ag ah aK),(10,.i fC),(12,.i kG)] a/\au W M0 X w [aq.bm QW 103 [.i dO.Returns.Kind,ao dO.Returns.aN],aq.bm zF 133 [ao dO.Name,.bool dO.Static,.q s4 tz dO.bD,.i dO.Returns.Kind,ao dO.Returns.aN,.i dO.cT,.i dO.cS,ao dO.Code,.q rX xb dO.bH],aq.row 105 3 (.q fM fT cF) cF dU] [U J.er rX xb dO.bH,U J.dx s4 tz dO.bD,U J.b2 Bv Kn vH.aR,U J.aX Px P_ vH.Fields,U J.b2 Jy Km rO.aR,U J.aX Jx Kl rO.Fields,U J.b2 fZ f' dI.aR,U J.aX fY f_ dI.Fields,al.rows J.aX dU cF,U J.bd ag ah aK]/\U_=(.go ())) (fun K aor=>?_) ?_
             · refine cA (fun (uz:Nat) a w=>∃ (oT:Int),Fr ⟨353,[]⟩ [(0,.q ag ah aK),(10,.i fC),(12,.i kG),(13,.aL zF),(14,.i oT)] a/\au W M0 X w [aq.bm QW 103 [.i dO.Returns.Kind,ao dO.Returns.aN],aq.bm zF 133 [ao dO.Name,.bool dO.Static,.q s4 tz dO.bD,.i dO.Returns.Kind,ao dO.Returns.aN,.i dO.cT,.i dO.cS,ao dO.Code,.q rX xb dO.bH],aq.row 105 3 (.q fM fT cF) cF dU] [U J.er rX xb dO.bH,U J.dx s4 tz dO.bD,U J.b2 Bv Kn vH.aR,U J.aX Px P_ vH.Fields,U J.b2 Jy Km rO.aR,U J.aX Jx Kl rO.Fields,U J.b2 fZ f' dI.aR,U J.aX fY f_ dI.Fields,al.rows J.aX dU cF,U J.bd ag ah aK]/\J.wG F aK dO uz oT=some U_) F ⟨0,I.cut,hm,h⟩ ?_ ?_
               · rintro a w ⟨oT,I,hm,h⟩;exact absurd h (by simp [J.wG])
               rintro uz a w ⟨oT,I,hm,h⟩ K Rd;rw [J.wG] at h;refine wp_seq_k fun K aos=>wp_seq_k fun K Rf=>eI [0,8] [(197,.bool (decide (oT <(dO.bH.length:Int))))] [zF,8] (aw (aZ (hm.e 1 rfl)) ax) I fun a I=>Rf _ _ <| bi (I.g rfl) h (fun apl h=>?_) (fun apl h=>?_)
               · refine wp_skip <| aos _ _ <| wp_seq_k fun K Rg=>wp_block <| wp_seq_k fun K Rh=>aY <| bf 4 [0,8] [(200,.q ag ah aK),(202,.q rX xb dO.bH),(203,.i oT)] [zF,8] (aw (aZ (hm.e 1 rfl)) ax) I fun a I=>?_;obtain ⟨NP,aCm,h⟩:=J.aF h;obtain ⟨alv,awm,_,rfl,ar5⟩:=bZ _ (hm.d 0 rfl) aCm;refine bQ wn (bF Tryz.underlying131 Tryz.sizeOf150 rfl (I.g rfl) (I.g rfl) alv awm) I rfl rfl fun a I=>bf 2 [0,3] [(206,ao NP.aN)] [bG rX,bJ rX+(oT).toNat* 4 + 3] (aw ar5 ax) I fun a I=>?_;obtain ⟨W9,az0,h⟩:=J.aF h;have hc:=hm
                 refine bP (vs:=[.q ag ah aK,ao NP.aN]) wn rfl Tryz.call112 ⟨(I.g rfl),(I.g rfl),trivial⟩ (tJ ((hc.into 0).pick ⟨⟨9,rfl⟩,trivial⟩) az0) I rfl rfl ?_;rintro _ w ⟨rfl,af⟩;refine ⟨_,rfl,fun a I=>?_⟩;have hm:=hc.back 0 af;clear af hc;refine aP 1 [] [(208,.bool (decide (W9 < 0)))] I fun a I=>wpList_nil (Rh _ _ ?_);refine bi (I.g rfl) h (fun apm h=>?_) (fun apm h=>?_)
                 · refine bt [] [(2,.i 5)] I fun a I=>wp_ret ?_;obtain rfl:=aB h;obtain rfl:=aB SB;obtain rfl:=aB Hf;obtain rfl:=aB Hd;obtain rfl:=aB CU;obtain rfl:=aB CY;refine a6 (ak (ak (a6 (ak (a6 (ak (ak (ak (a6 (ak (a6 (ak (ak (ak (a6 (ak (ak ?_)))))))))))))))));refine bn Tryz.results109 I rfl ?_;exact ⟨rfl,hm.aW [] []⟩
                 refine wp_skip <| Rg _ _ <| ch [] [(14,.i (J.ap (oT+ 1)))] I fun a I=>?_;exact Rd _ _ ⟨J.ap (oT+ 1),I.cut,hm,h⟩
               refine wp_exit <| bx (bx (cw ?_));exact aor _ _ ⟨I.cut,hm,(os h)⟩
             rintro a w ⟨I,hm,bb⟩;subst U_;have h:=SB;clear SB;dsimp only [J.eV] at h;exact Rc _ _ ⟨I.cut,hm.aW [2] [4,5,6,7,8,9],(os h)⟩
           rintro a w ⟨I,hm,bb⟩;subst aen;have h:=Hf;clear Hf;dsimp only [J.eV] at h;refine Rb _ _ <| ch [] [(12,.i (J.ap (kG+ 1)))] I fun a I=>?_;exact aoq _ _ ⟨J.ap (kG+ 1),I.cut,hm.ec [2,3,4,5],h⟩
         refine wp_exit <| bx (bx (cw ?_));exact Q' _ _ ⟨I.cut,hm.ec [2,3,4,5],(os h)⟩
       rintro a w ⟨I,hm,bb⟩;subst U8;have h:=Hd;clear Hd;dsimp only [J.eV] at h;exact zP _ _ ⟨I.cut,hm,(os h)⟩
     rintro a w ⟨I,hm,bb⟩;subst ael;have h:=CU;clear CU;dsimp only [J.eV] at h;refine xH _ _ <| ch [] [(10,.i (J.ap (fC+ 1)))] I fun a I=>?_;exact tW _ _ ⟨J.ap (fC+ 1),I.cut,hm,h⟩
   refine wp_exit <| bx (bx (cw ?_));exact xG _ _ ⟨I.cut,hm,(os h)⟩
 rintro a w ⟨I,hm,bb⟩;subst Wh;have h:=CY;clear CY;dsimp only [J.dZ] at h;refine sn _ _ <| wp_seq_k fun K Ri=>bc [] [(15,.i 0)] I fun a I=>?_;obtain ⟨Vq,h,LC⟩:=J.ef h;refine cb (fun a w=>Fr ⟨353,[]⟩ [(0,.q ag ah aK)] a/\au W M0 X w [aq.row 105 3 (.q fM fT cF) cF dU] [U J.b2 fZ f' dI.aR,U J.aX fY f_ dI.Fields,al.rows J.aX dU cF,U J.bd ag ah aK]/\Vq=(.go ())) (fun K Rj=>?_) ?_
 · refine cA (fun (sy:Nat) a w=>∃ (hj:Int),Fr ⟨353,[]⟩ [(0,.q ag ah aK),(15,.i hj)] a/\au W M0 X w [aq.row 105 3 (.q fM fT cF) cF dU] [U J.b2 fZ f' dI.aR,U J.aX fY f_ dI.Fields,al.rows J.aX dU cF,U J.bd ag ah aK]/\J.wH F aK sy hj=some Vq) F ⟨0,I.cut,hm,h⟩ ?_ ?_
   · rintro a w ⟨hj,I,hm,h⟩;exact absurd h (by simp [J.wH])
   rintro sy a w ⟨hj,I,hm,h⟩ K aou;rw [J.wH] at h;refine wp_seq_k fun K Rk=>bc [] [(212,.bool (decide (hj <(aK.length:Int))))] I fun a I=>bi (I.g rfl) h (fun ap6 h=>?_) (fun ap6 h=>?_)
   · refine wp_skip <| Rk _ _ <| wp_seq_k fun K Rl=>?_;obtain ⟨aey,h,LG⟩:=J.e3 h;refine cb (fun a w=>Fr ⟨353,[]⟩ [(0,.q ag ah aK),(15,.i hj)] a/\au W M0 X w [aq.row 105 3 (.q fM fT cF) cF dU] [U J.b2 fZ f' dI.aR,U J.aX fY f_ dI.Fields,al.rows J.aX dU cF,U J.bd ag ah aK]/\aey=(.go ())) (fun K aov=>?_) ?_
     · refine wp_seq_k fun K Lm=>aY <| aP 2 [] [(215,.q ag ah aK),(216,.i hj)] I fun a I=>?_;obtain ⟨eX,aAB,h⟩:=J.aF h;have hc:=hm;refine bP (vs:=[.q ag ah aK,.i hj]) wn rfl Tryz.call110 ⟨(I.g rfl),(I.g rfl),trivial⟩ (Qw ((hc.into 0).pick ⟨⟨3,rfl⟩,trivial⟩) aAB) I rfl rfl ?_;rintro _ w ⟨iN,ky,jY,rfl,af⟩;refine ⟨_,rfl,fun a I=>?_⟩;have hm:=hc.back 0 af;clear af hc;refine aP 1 [] [(16,.q iN ky eX)] I fun a I=>wpList_nil (Lm _ _ ?_);refine wp_seq_k fun K Ln=>wp_seq_k fun K aow=>?_
       refine ch [] [(17,.i 0)] I fun a I=>aow _ _ ?_;obtain ⟨VE,h,S7⟩:=J.e3 h;refine cb (fun a w=>Fr ⟨353,[]⟩ [(0,.q ag ah aK),(15,.i hj)] a/\au W M0 X w [aq.row 105 3 (.q iN ky eX) eX jY,aq.row 105 3 (.q fM fT cF) cF dU] [al.rows J.aX jY eX,U J.b2 fZ f' dI.aR,U J.aX fY f_ dI.Fields,al.rows J.aX dU cF,U J.bd ag ah aK]/\VE=(.go ())) (fun K anI=>?_) ?_
       · refine cA (fun (L2:Nat) a w=>∃ (iH:Int),Fr ⟨353,[]⟩ [(0,.q ag ah aK),(15,.i hj),(16,.q iN ky eX),(17,.i iH)] a/\au W M0 X w [aq.row 105 3 (.q iN ky eX) eX jY,aq.row 105 3 (.q fM fT cF) cF dU] [al.rows J.aX jY eX,U J.b2 fZ f' dI.aR,U J.aX fY f_ dI.Fields,al.rows J.aX dU cF,U J.bd ag ah aK]/\J.wv F eX L2 iH=some VE) F ⟨0,I.cut,hm,h⟩ ?_ ?_
         · rintro a w ⟨iH,I,hm,h⟩;exact absurd h (by simp [J.wv])
         rintro L2 a w ⟨iH,I,hm,h⟩ K anJ;rw [J.wv] at h;refine wp_seq_k fun K anK=>bc [] [(221,.bool (decide (iH <(eX.length:Int))))] I fun a I=>bi (I.g rfl) h (fun aqe h=>?_) (fun aqe h=>?_)
         · refine wp_skip <| anK _ _ <| wp_seq_k fun K anL=>?_;obtain ⟨aez,h,S8⟩:=J.e3 h;refine cb (fun a w=>Fr ⟨353,[]⟩ [(0,.q ag ah aK),(15,.i hj),(16,.q iN ky eX),(17,.i iH)] a/\au W M0 X w [aq.row 105 3 (.q iN ky eX) eX jY,aq.row 105 3 (.q fM fT cF) cF dU] [al.rows J.aX jY eX,U J.b2 fZ f' dI.aR,U J.aX fY f_ dI.Fields,al.rows J.aX dU cF,U J.bd ag ah aK]/\aez=(.go ())) (fun K anM=>?_) ?_
           · refine bc [] [(18,.i 0)] I fun a I=>?_;obtain ⟨VF,h,S9⟩:=J.e3 h;refine cb (fun a w=>Fr ⟨353,[]⟩ [(0,.q ag ah aK),(15,.i hj),(16,.q iN ky eX),(17,.i iH)] a/\au W M0 X w [aq.row 105 3 (.q iN ky eX) eX jY,aq.row 105 3 (.q fM fT cF) cF dU] [al.rows J.aX jY eX,U J.b2 fZ f' dI.aR,U J.aX fY f_ dI.Fields,al.rows J.aX dU cF,U J.bd ag ah aK]/\VF=(.go ())) (fun K anN=>?_) ?_
             · refine cA (fun (L3:Nat) a w=>∃ (nG:Int),Fr ⟨353,[]⟩ [(0,.q ag ah aK),(15,.i hj),(16,.q iN ky eX),(17,.i iH),(18,.i nG)] a/\au W M0 X w [aq.row 105 3 (.q iN ky eX) eX jY,aq.row 105 3 (.q fM fT cF) cF dU] [al.rows J.aX jY eX,U J.b2 fZ f' dI.aR,U J.aX fY f_ dI.Fields,al.rows J.aX dU cF,U J.bd ag ah aK]/\J.ww eX iH L3 nG=some VF) F ⟨0,I.cut,hm,h⟩ ?_ ?_
               · rintro a w ⟨nG,I,hm,h⟩;exact absurd h (by simp [J.ww])
               rintro L3 a w ⟨nG,I,hm,h⟩ K anO;rw [J.ww] at h;refine wp_seq_k fun K anP=>bt [] [(0,.q ag ah aK),(15,.i hj),(16,.q iN ky eX),(17,.i iH),(18,.i nG),(226,.bool (decide (nG <iH)))] I fun a I=>bi (I.g rfl) h (fun aqf h=>?_) (fun aqf h=>?_)
               · refine wp_skip <| anP _ _ <| wp_seq_k fun K anQ=>wp_block <| wp_seq_k fun K anR=>hF (by kernel_rfl) (by kernel_rfl) <| dM 2 [] [(229,.q iN ky eX),(230,.i nG)] [] (fun a7 ad=>ax) I fun a I=>?_;obtain ⟨Oa,aC8,h⟩:=J.aF h;obtain ⟨amk,axb,_,rfl,asU⟩:=gi (hm.e 0 rfl) (hm.d 0 rfl) aC8;refine eM wn (fun a7 ad=>bF Tryz.underlying106 Tryz.sizeOf105 rfl (I.g rfl) (I.g rfl) amk axb) I rfl rfl fun a I=>dM 4 [0,0] [(233,ao Oa.Name),(234,.q iN ky eX),(235,.i iH)] [bG iN,bJ iN+(nG).toNat* 3 + 0] (fun a7 ad=>(aw (b9 ad asU) ax)) I fun a I=>?_
                 obtain ⟨Ys,aC9,h⟩:=J.aF h;obtain ⟨aml,axc,_,rfl,asV⟩:=gi (hm.e 0 rfl) (hm.d 0 rfl) aC9;refine eM wn (fun a7 ad=>bF Tryz.underlying106 Tryz.sizeOf105 rfl (I.g rfl) (I.g rfl) aml axc) I rfl rfl fun a I=>dM 3 [0,0] [(239,.bool (decide (Oa.Name=Ys.Name)))] [bG iN,bJ iN+(iH).toNat* 3 + 0] (fun a7 ad=>(aw (b9 ad asV) ax)) I fun a I=>wpQuiet_nil fun w ad=>?_;have hm:=hm.dB ad;clear ad;refine anR _ _ <| bi (I.g rfl) h (fun aqg h=>?_) (fun aqg h=>?_)
                 · refine bt [] [(2,.i 6)] I fun a I=>wp_ret ?_;obtain rfl:=aB h;obtain rfl:=aB S9;obtain rfl:=aB S8;obtain rfl:=aB S7;obtain rfl:=aB LG;obtain rfl:=aB LC;refine a6 (ak (ak (a6 (ak (a6 (ak (ak (ak (a6 (ak (ak (a6 (ak (ak (ak (a6 (ak (ak ?_))))))))))))))))));refine bn Tryz.results109 I rfl ?_;exact ⟨rfl,hm.aW [] []⟩
                 refine wp_skip <| anQ _ _ <| ch [] [(18,.i (J.ap (nG+ 1)))] I fun a I=>?_;exact anO _ _ ⟨J.ap (nG+ 1),I.cut,hm,h⟩
               refine wp_exit <| bx (bx (cw ?_));exact anN _ _ ⟨I.cut,hm,(os h)⟩
             rintro a w ⟨I,hm,bb⟩;subst VF;have h:=S9;clear S9;dsimp only [J.eV] at h;exact anM _ _ ⟨I.cut,hm,(os h)⟩
           rintro a w ⟨I,hm,bb⟩;subst aez;have h:=S8;clear S8;dsimp only [J.eV] at h;refine anL _ _ <| ch [] [(17,.i (J.ap (iH+ 1)))] I fun a I=>?_;exact anJ _ _ ⟨J.ap (iH+ 1),I.cut,hm,h⟩
         refine wp_exit <| bx (bx (cw ?_));exact anI _ _ ⟨I.cut,hm,(os h)⟩
       rintro a w ⟨I,hm,bb⟩;subst VE;have h:=S7;clear S7;dsimp only [J.eV] at h;refine Ln _ _ <| wp_seq_k fun K anS=>aY <| aP 2 [] [(240,.q ag ah aK),(241,.i hj)] I fun a I=>?_;obtain ⟨gU,aC_,h⟩:=J.aF h;obtain ⟨amm,axd,_,⟨BC,Cj,kS,ol,rfl,auU,auV⟩,asW⟩:=bZ _ (hm.d 4 rfl) aC_;have hm:=hm.more (y:=U J.aX BC Cj gU.Fields) auU;have hm:=hm.more (y:=U J.b2 kS ol gU.aR) auV;refine bQ wn (bF Tryz.underlying25 Tryz.sizeOf136 rfl (I.g rfl) (I.g rfl) amm axd) I rfl rfl fun a I=>?_
       refine jS 3 [0,3] [(0,.q ag ah aK),(15,.i hj),(19,.q kS ol gU.aR)] [bG ag,bJ ag+(hj).toNat* 4 + 3] (aw asW ax) I fun a I=>wpList_nil (anS _ _ ?_);refine bc [] [(20,.i 0)] I fun a I=>?_;obtain ⟨VG,h,S'⟩:=J.e3 h
       refine cb (fun a w=>Fr ⟨353,[]⟩ [(0,.q ag ah aK),(15,.i hj)] a/\au W M0 X w [aq.row 105 3 (.q iN ky eX) eX jY,aq.row 105 3 (.q fM fT cF) cF dU] [U J.b2 kS ol gU.aR,U J.aX BC Cj gU.Fields,al.rows J.aX jY eX,U J.b2 fZ f' dI.aR,U J.aX fY f_ dI.Fields,al.rows J.aX dU cF,U J.bd ag ah aK]/\VG=(.go ())) (fun K anT=>?_) ?_
       · refine cA (fun (L4:Nat) a w=>∃ (iX:Int),Fr ⟨353,[]⟩ [(0,.q ag ah aK),(15,.i hj),(19,.q kS ol gU.aR),(20,.i iX)] a/\au W M0 X w [aq.row 105 3 (.q iN ky eX) eX jY,aq.row 105 3 (.q fM fT cF) cF dU] [U J.b2 kS ol gU.aR,U J.aX BC Cj gU.Fields,al.rows J.aX jY eX,U J.b2 fZ f' dI.aR,U J.aX fY f_ dI.Fields,al.rows J.aX dU cF,U J.bd ag ah aK]/\J.wx F gU L4 iX=some VG) F ⟨0,I.cut,hm,h⟩ ?_ ?_
         · rintro a w ⟨iX,I,hm,h⟩;exact absurd h (by simp [J.wx])
         rintro L4 a w ⟨iX,I,hm,h⟩ K anU;rw [J.wx] at h;refine wp_seq_k fun K anV=>bc [] [(248,.bool (decide (iX <(gU.aR.length:Int))))] I fun a I=>bi (I.g rfl) h (fun aqj h=>?_) (fun aqj h=>?_)
         · refine wp_skip <| anV _ _ <| wp_seq_k fun K anW=>?_;obtain ⟨aeB,h,Ta⟩:=J.e3 h
           refine cb (fun a w=>Fr ⟨353,[]⟩ [(0,.q ag ah aK),(15,.i hj),(19,.q kS ol gU.aR),(20,.i iX)] a/\au W M0 X w [aq.row 105 3 (.q iN ky eX) eX jY,aq.row 105 3 (.q fM fT cF) cF dU] [U J.b2 kS ol gU.aR,U J.aX BC Cj gU.Fields,al.rows J.aX jY eX,U J.b2 fZ f' dI.aR,U J.aX fY f_ dI.Fields,al.rows J.aX dU cF,U J.bd ag ah aK]/\aeB=(.go ())) (fun K anX=>?_) ?_
           · refine bc [] [(21,.i 0)] I fun a I=>?_;obtain ⟨VH,h,Tb⟩:=J.e3 h
             refine cb (fun a w=>Fr ⟨353,[]⟩ [(0,.q ag ah aK),(15,.i hj),(19,.q kS ol gU.aR),(20,.i iX)] a/\au W M0 X w [aq.row 105 3 (.q iN ky eX) eX jY,aq.row 105 3 (.q fM fT cF) cF dU] [U J.b2 kS ol gU.aR,U J.aX BC Cj gU.Fields,al.rows J.aX jY eX,U J.b2 fZ f' dI.aR,U J.aX fY f_ dI.Fields,al.rows J.aX dU cF,U J.bd ag ah aK]/\VH=(.go ())) (fun K anY=>?_) ?_
             · refine cA (fun (L5:Nat) a w=>∃ (oV:Int),Fr ⟨353,[]⟩ [(0,.q ag ah aK),(15,.i hj),(19,.q kS ol gU.aR),(20,.i iX),(21,.i oV)] a/\au W M0 X w [aq.row 105 3 (.q iN ky eX) eX jY,aq.row 105 3 (.q fM fT cF) cF dU] [U J.b2 kS ol gU.aR,U J.aX BC Cj gU.Fields,al.rows J.aX jY eX,U J.b2 fZ f' dI.aR,U J.aX fY f_ dI.Fields,al.rows J.aX dU cF,U J.bd ag ah aK]/\J.wy gU iX L5 oV=some VH) F ⟨0,I.cut,hm,h⟩ ?_ ?_
               · rintro a w ⟨oV,I,hm,h⟩;exact absurd h (by simp [J.wy])
               rintro L5 a w ⟨oV,I,hm,h⟩ K anZ;rw [J.wy] at h;refine wp_seq_k fun K an0=>bc [] [(253,.bool (decide (oV <iX)))] I fun a I=>bi (I.g rfl) h (fun aqk h=>?_) (fun aqk h=>?_)
               · refine wp_skip <| an0 _ _ <| wp_seq_k fun K an1=>wp_block <| wp_seq_k fun K an2=>hF (by kernel_rfl) (by kernel_rfl) <| dM 2 [] [(256,.q kS ol gU.aR),(257,.i oV)] [] (fun a7 ad=>ax) I fun a I=>?_;obtain ⟨DU,aDc,h⟩:=J.aF h;obtain ⟨amr,axg,_,⟨ahi,aid,ahj,aie,rfl,auW,auX⟩,as0⟩:=bZ _ (hm.d 0 rfl) aDc;have hm:=hm.more (y:=U J.dx ahi aid DU.bD) auW;have hm:=hm.more (y:=U J.er ahj aie DU.bH) auX
                 refine eM wn (fun a7 ad=>bF Tryz.underlying134 Tryz.sizeOf133 rfl (I.g rfl) (I.g rfl) amr axg) I rfl rfl fun a I=>dM 4 [0,0] [(260,ao DU.Name),(261,.q kS ol gU.aR),(262,.i iX)] [bG kS,bJ kS+(oV).toNat* 9 + 0] (fun a7 ad=>(aw (b9 ad as0) ax)) I fun a I=>?_;obtain ⟨IY,aDd,h⟩:=J.aF h;obtain ⟨ams,axh,_,⟨ahk,aif,ahl,aih,rfl,auY,auZ⟩,as1⟩:=bZ _ (hm.d 2 rfl) aDd;have hm:=hm.more (y:=U J.dx ahk aif IY.bD) auY;have hm:=hm.more (y:=U J.er ahl aih IY.bH) auZ
                 refine eM wn (fun a7 ad=>bF Tryz.underlying134 Tryz.sizeOf133 rfl (I.g rfl) (I.g rfl) ams axh) I rfl rfl fun a I=>dM 3 [0,0] [(266,.bool (decide (DU.Name=IY.Name)))] [bG kS,bJ kS+(iX).toNat* 9 + 0] (fun a7 ad=>(aw (b9 ad as1) ax)) I fun a I=>wpQuiet_nil fun w ad=>?_;have hm:=hm.dB ad;clear ad;refine an2 _ _ <| bi (I.g rfl) h (fun aql h=>?_) (fun aql h=>?_)
                 · refine bt [] [(2,.i 6)] I fun a I=>wp_ret ?_;obtain rfl:=aB h;obtain rfl:=aB Tb;obtain rfl:=aB Ta;obtain rfl:=aB S';obtain rfl:=aB LG;obtain rfl:=aB LC;refine a6 (ak (ak (a6 (ak (a6 (ak (ak (ak (a6 (ak (a6 (ak (ak (ak (a6 (ak (ak ?_)))))))))))))))));refine bn Tryz.results109 I rfl ?_;exact ⟨rfl,hm.aW [] []⟩
                 refine wp_skip <| an1 _ _ <| ch [] [(21,.i (J.ap (oV+ 1)))] I fun a I=>?_;exact anZ _ _ ⟨J.ap (oV+ 1),I.cut,hm.ec [4,5,6,7,8,9,10],h⟩
               refine wp_exit <| bx (bx (cw ?_));exact anY _ _ ⟨I.cut,hm,(os h)⟩
             rintro a w ⟨I,hm,bb⟩;subst VH;have h:=Tb;clear Tb;dsimp only [J.eV] at h;exact anX _ _ ⟨I.cut,hm,(os h)⟩
           rintro a w ⟨I,hm,bb⟩;subst aeB;have h:=Ta;clear Ta;dsimp only [J.eV] at h;refine anW _ _ <| ch [] [(20,.i (J.ap (iX+ 1)))] I fun a I=>?_;exact anU _ _ ⟨J.ap (iX+ 1),I.cut,hm,h⟩
         refine wp_exit <| bx (bx (cw ?_));exact anT _ _ ⟨I.cut,hm,(os h)⟩
       rintro a w ⟨I,hm,bb⟩;subst VG;have h:=S';clear S';dsimp only [J.eV] at h;exact aov _ _ ⟨I.cut,hm.aW [1] [3,4,5,6],(os h)⟩
     rintro a w ⟨I,hm,bb⟩;subst aey;have h:=LG;clear LG;dsimp only [J.eV] at h;refine Rl _ _ <| ch [] [(15,.i (J.ap (hj+ 1)))] I fun a I=>?_;exact aou _ _ ⟨J.ap (hj+ 1),I.cut,hm,h⟩
   refine wp_exit <| bx (bx (cw ?_));exact Rj _ _ ⟨I.cut,hm,(os h)⟩
 rintro a w ⟨I,hm,bb⟩;subst Vq;have h:=LC;clear LC;dsimp only [J.dZ] at h;refine Ri _ _ <| wp_seq_k fun K an3=>bc [] [(22,.i 0)] I fun a I=>?_;obtain ⟨VJ,h,Hj⟩:=J.ef h;refine cb (fun a w=>Fr ⟨353,[]⟩ [] a/\au W M0 X w [aq.row 105 3 (.q fM fT cF) cF dU] [U J.b2 fZ f' dI.aR,U J.aX fY f_ dI.Fields,al.rows J.aX dU cF,U J.bd ag ah aK]/\VJ=(.go ())) (fun K an4=>?_) ?_
 · refine cA (fun (L6:Nat) a w=>∃ (fj:Int),Fr ⟨353,[]⟩ [(0,.q ag ah aK),(22,.i fj)] a/\au W M0 X w [aq.row 105 3 (.q fM fT cF) cF dU] [U J.b2 fZ f' dI.aR,U J.aX fY f_ dI.Fields,al.rows J.aX dU cF,U J.bd ag ah aK]/\J.wz F aK L6 fj=some VJ) F ⟨0,I.cut,hm,h⟩ ?_ ?_
   · rintro a w ⟨fj,I,hm,h⟩;exact absurd h (by simp [J.wz])
   rintro L6 a w ⟨fj,I,hm,h⟩ K an5;rw [J.wz] at h;refine wp_seq_k fun K an6=>bc [] [(270,.bool (decide (fj <(aK.length:Int))))] I fun a I=>bi (I.g rfl) h (fun ari h=>?_) (fun ari h=>?_)
   · refine wp_skip <| an6 _ _ <| wp_seq_k fun K an7=>?_;obtain ⟨aeT,h,Hk⟩:=J.e3 h;refine cb (fun a w=>Fr ⟨353,[]⟩ [(0,.q ag ah aK),(22,.i fj)] a/\au W M0 X w [aq.row 105 3 (.q fM fT cF) cF dU] [U J.b2 fZ f' dI.aR,U J.aX fY f_ dI.Fields,al.rows J.aX dU cF,U J.bd ag ah aK]/\aeT=(.go ())) (fun K an8=>?_) ?_
     · refine wp_seq_k fun K an9=>aY <| aP 2 [] [(273,.q ag ah aK),(274,.i fj)] I fun a I=>?_;obtain ⟨fz,aBi,h⟩:=J.aF h;have hc:=hm;refine bP (vs:=[.q ag ah aK,.i fj]) wn rfl Tryz.call136 ⟨(I.g rfl),(I.g rfl),trivial⟩ (KX ((hc.into 0).pick ⟨⟨3,rfl⟩,trivial⟩) aBi) I rfl rfl ?_;rintro _ w ⟨hE,ix,rfl,af⟩;refine ⟨_,rfl,fun a I=>?_⟩;have hm:=hc.back 0 af;clear af hc;refine aP 1 [] [(23,.q hE ix fz)] I fun a I=>wpList_nil (an9 _ _ ?_);refine wp_seq_k fun K an_=>?_
       refine ch [] [(24,.i 0)] I fun a I=>an_ _ _ ?_;obtain ⟨Wc,h,Hl⟩:=J.e3 h;refine cb (fun a w=>Fr ⟨353,[]⟩ [(0,.q ag ah aK),(22,.i fj)] a/\au W M0 X w [aq.row 105 3 (.q fM fT cF) cF dU] [U (aj .i64) hE ix fz,U J.b2 fZ f' dI.aR,U J.aX fY f_ dI.Fields,al.rows J.aX dU cF,U J.bd ag ah aK]/\Wc=(.go ())) (fun K an'=>?_) ?_
       · refine cA (fun (L7:Nat) a w=>∃ (gg:Int),Fr ⟨353,[]⟩ [(0,.q ag ah aK),(22,.i fj),(23,.q hE ix fz),(24,.i gg)] a/\au W M0 X w [aq.row 105 3 (.q fM fT cF) cF dU] [U (aj .i64) hE ix fz,U J.b2 fZ f' dI.aR,U J.aX fY f_ dI.Fields,al.rows J.aX dU cF,U J.bd ag ah aK]/\J.wA F aK fj fz L7 gg=some Wc) F ⟨0,I.cut,hm,h⟩ ?_ ?_
         · rintro a w ⟨gg,I,hm,h⟩;exact absurd h (by simp [J.wA])
         rintro L7 a w ⟨gg,I,hm,h⟩ K aoa;rw [J.wA] at h;refine wp_seq_k fun K aob=>bc [] [(280,.bool (decide (gg <(J.ap ((fz.length:Int) - 1)))))] I fun a I=>bi (I.g rfl) h (fun arp h=>?_) (fun arp h=>?_)
         · refine wp_skip <| aob _ _ <| wp_seq_k fun K aoc=>?_;obtain ⟨aeV,h,Hm⟩:=J.e3 h;refine cb (fun a w=>Fr ⟨353,[]⟩ [(0,.q ag ah aK),(22,.i fj),(23,.q hE ix fz),(24,.i gg)] a/\au W M0 X w [aq.row 105 3 (.q fM fT cF) cF dU] [U (aj .i64) hE ix fz,U J.b2 fZ f' dI.aR,U J.aX fY f_ dI.Fields,al.rows J.aX dU cF,U J.bd ag ah aK]/\aeV=(.go ())) (fun K aod=>?_) ?_
           · refine bt [] [(0,.q ag ah aK),(22,.i fj),(23,.q hE ix fz),(24,.i gg),(25,.i 0)] I fun a I=>?_;obtain ⟨Wf,h,Hn⟩:=J.e3 h
             refine cb (fun a w=>Fr ⟨353,[]⟩ [(0,.q ag ah aK),(22,.i fj),(23,.q hE ix fz),(24,.i gg)] a/\au W M0 X w [aq.row 105 3 (.q fM fT cF) cF dU] [U (aj .i64) hE ix fz,U J.b2 fZ f' dI.aR,U J.aX fY f_ dI.Fields,al.rows J.aX dU cF,U J.bd ag ah aK]/\Wf=(.go ())) (fun K aoe=>?_) ?_
             · refine cA (fun (L8:Nat) a w=>∃ (h7:Int),Fr ⟨353,[]⟩ [(0,.q ag ah aK),(22,.i fj),(23,.q hE ix fz),(24,.i gg),(25,.i h7)] a/\au W M0 X w [aq.row 105 3 (.q fM fT cF) cF dU] [U (aj .i64) hE ix fz,U J.b2 fZ f' dI.aR,U J.aX fY f_ dI.Fields,al.rows J.aX dU cF,U J.bd ag ah aK]/\J.wB F aK fj fz gg L8 h7=some Wf) F ⟨0,I.cut,hm,h⟩ ?_ ?_
               · rintro a w ⟨h7,I,hm,h⟩;exact absurd h (by simp [J.wB])
               rintro L8 a w ⟨h7,I,hm,h⟩ K aof;rw [J.wB] at h;refine wp_seq_k fun K aog=>wp_seq_k fun K aoh=>aY <| aP 3 [] [(283,.i h7),(284,.q ag ah aK),(285,.i fj)] I fun a I=>?_;obtain ⟨rS,aD9,h⟩:=J.aF h;obtain ⟨ans,ayi,_,⟨J5,KQ,J6,KR,rfl,avD,avE⟩,at3⟩:=bZ _ (hm.d 4 rfl) aD9;have hm:=hm.more (y:=U J.aX J5 KQ rS.Fields) avD;have hm:=hm.more (y:=U J.b2 J6 KR rS.aR) avE
               refine bQ wn (bF Tryz.underlying25 Tryz.sizeOf136 rfl (I.g rfl) (I.g rfl) ans ayi) I rfl rfl fun a I=>bf 4 [0,3] [(290,.bool (decide (h7 <(rS.aR.length:Int))))] [bG ag,bJ ag+(fj).toNat* 4 + 3] (aw at3 ax) I fun a I=>wpList_nil (aoh _ _ ?_);refine bi (I.g rfl) h (fun arq h=>?_) (fun arq h=>?_)
               · refine wp_skip <| aog _ _ <| wp_seq_k fun K aoi=>?_;obtain ⟨aeW,h,Ho⟩:=J.e3 h
                 refine cb (fun a w=>Fr ⟨353,[]⟩ [(0,.q ag ah aK),(22,.i fj),(23,.q hE ix fz),(24,.i gg),(25,.i h7)] a/\au W M0 X w [aq.row 105 3 (.q fM fT cF) cF dU] [U J.b2 J6 KR rS.aR,U J.aX J5 KQ rS.Fields,U (aj .i64) hE ix fz,U J.b2 fZ f' dI.aR,U J.aX fY f_ dI.Fields,al.rows J.aX dU cF,U J.bd ag ah aK]/\aeW=(.go ())) (fun K aoj=>?_) ?_
                 · refine bc [] [(26,.i 0)] I fun a I=>?_;obtain ⟨Wg,h,Hp⟩:=J.e3 h
                   refine cb (fun a w=>Fr ⟨353,[]⟩ [(0,.q ag ah aK),(22,.i fj),(23,.q hE ix fz),(24,.i gg),(25,.i h7)] a/\au W M0 X w [aq.row 105 3 (.q fM fT cF) cF dU] [U J.b2 J6 KR rS.aR,U J.aX J5 KQ rS.Fields,U (aj .i64) hE ix fz,U J.b2 fZ f' dI.aR,U J.aX fY f_ dI.Fields,al.rows J.aX dU cF,U J.bd ag ah aK]/\Wg=(.go ())) (fun K aok=>?_) ?_
                   · refine cA (fun (HU:Nat) a w=>∃ (kn:Int),Fr ⟨353,[]⟩ [(0,.q ag ah aK),(22,.i fj),(23,.q hE ix fz),(24,.i gg),(25,.i h7),(26,.i kn)] a/\au W M0 X w [aq.row 105 3 (.q fM fT cF) cF dU] [U J.b2 J6 KR rS.aR,U J.aX J5 KQ rS.Fields,U (aj .i64) hE ix fz,U J.b2 fZ f' dI.aR,U J.aX fY f_ dI.Fields,al.rows J.aX dU cF,U J.bd ag ah aK]/\J.ti F aK fj fz gg h7 HU kn=some Wg) F ⟨0,I.cut,hm,h⟩ ?_ ?_
                     · rintro a w ⟨kn,I,hm,h⟩;exact absurd h (by simp [J.ti])
                     rintro HU a w ⟨kn,I,hm,h⟩ K acK;rw [J.ti] at h;refine wp_seq_k fun K aol=>wp_seq_k fun K aom=>aY <| aP 4 [] [(293,.i kn),(294,.q ag ah aK),(295,.q hE ix fz),(296,.i gg)] I fun a I=>?_;obtain ⟨Ox,aD_,h⟩:=J.aF h;obtain ⟨ant,ayj,_,rfl,at4⟩:=bZ _ (hm.d 2 rfl) aD_;refine bQ wn (bF Tryz.underlying22 Tryz.sizeOf3 rfl (I.g rfl) (I.g rfl) ant ayj) I rfl rfl fun a I=>bf 1 [0,0] [(298,.i Ox)] [bG hE,bJ hE+(gg).toNat* 1] (aw at4 ax) I fun a I=>?_;obtain ⟨I3,aD',h⟩:=J.aF h
                     obtain ⟨anu,ayk,_,⟨ahz,aiv,ahA,aiw,rfl,avF,avG⟩,at5⟩:=bZ _ (hm.d 6 rfl) aD';have hm:=hm.more (y:=U J.aX ahz aiv I3.Fields) avF;have hm:=hm.more (y:=U J.b2 ahA aiw I3.aR) avG;refine bQ wn (bF Tryz.underlying25 Tryz.sizeOf136 rfl (I.g rfl) (I.g rfl) anu ayk) I rfl rfl fun a I=>bf 4 [0,3] [(303,.bool (decide (kn <(I3.aR.length:Int))))] [bG ag,bJ ag+(Ox).toNat* 4 + 3] (aw at5 ax) I fun a I=>wpList_nil (aom _ _ ?_);refine bi (I.g rfl) h (fun arr h=>?_) (fun arr h=>?_)
                     · refine wp_skip <| aol _ _ <| wp_seq_k fun K acL=>wp_block <| wp_seq_k fun K aon=>hd (m:=23) 23 (a' []) (by kernel_rfl) rfl fun w ad=>?_;have hm:=hm.dB ad;clear ad;have ba:=hm;have av:=a'.refl [] w;refine cc [0,1,5,8,9,10,16] 7 [] [(306,.q ag ah aK),(307,.i fj),(311,.i h7),(314,.q ag ah aK),(315,.q hE ix fz),(316,.i gg),(322,.i kn)] [] (fun a7 ad=>ax) I av fun a I=>?_;obtain ⟨Bf,aEa,h⟩:=J.aF h;obtain ⟨anv,ayl,_,⟨ZN,abh,EP,Qt,rfl,ac8,ac9⟩,at6⟩:=bZ _ (ba.d 8 rfl) aEa
                       have ba:=ba.more (y:=U J.aX ZN abh Bf.Fields) ac8;have hm:=hm.more (y:=U J.aX ZN abh Bf.Fields) ac8;have ba:=ba.more (y:=U J.b2 EP Qt Bf.aR) ac9;have hm:=hm.more (y:=U J.b2 EP Qt Bf.aR) ac9;refine eR 2 rfl (by kernel_rfl) wn (fun a7=>bF Tryz.underlying25 Tryz.sizeOf136 rfl (I.g rfl) (I.g rfl) anv ayl) av I rfl rfl fun a I=>?_
                       refine cc [3,4] 2 [0,3] [(310,.q EP Qt Bf.aR)] [bG ag,bJ ag+(fj).toNat* 4 + 3] (fun a7 ad=>(aw (b9 ad at6) ax)) I av fun a I=>?_;obtain ⟨fQ,aEb,h⟩:=J.aF h;obtain ⟨anw,aym,_,⟨BL,Cs,J7,KS,rfl,ac_,ac'⟩,at7⟩:=bZ _ (ba.d 0 rfl) aEb;have ba:=ba.more (y:=U J.dx BL Cs fQ.bD) ac_;have hm:=hm.more (y:=U J.dx BL Cs fQ.bD) ac_
                       have ba:=ba.more (y:=U J.er J7 KS fQ.bH) ac';have hm:=hm.more (y:=U J.er J7 KS fQ.bH) ac';refine eR 6 rfl (by kernel_rfl) wn (fun a7=>bF Tryz.underlying134 Tryz.sizeOf133 rfl (I.g rfl) (I.g rfl) anw aym) av I rfl rfl fun a I=>?_
                       refine cc [7] 1 [0,0] [(313,.agg #[ao fQ.Name,.bool fQ.Static,.q BL Cs fQ.bD,.i fQ.Returns.Kind,ao fQ.Returns.aN,.i fQ.cT,.i fQ.cS,ao fQ.Code,.q J7 KS fQ.bH])] [bG EP,bJ EP+(h7).toNat* 9] (fun a7 ad=>(aw (b9 ad at7) ax)) I av fun a I=>?_;obtain ⟨Oy,aEc,h⟩:=J.aF h;obtain ⟨anx,ayn,_,rfl,at8⟩:=bZ _ (ba.d 8 rfl) aEc;refine eR 11 rfl (by kernel_rfl) wn (fun a7=>bF Tryz.underlying22 Tryz.sizeOf3 rfl (I.g rfl) (I.g rfl) anx ayn) av I rfl rfl fun a I=>?_
                       refine cc [12] 1 [0,0] [(318,.i Oy)] [bG hE,bJ hE+(gg).toNat* 1] (fun a7 ad=>(aw (b9 ad at8) ax)) I av fun a I=>?_;obtain ⟨Bg,aEd,h⟩:=J.aF h;obtain ⟨anz,ayo,_,⟨ZO,abi,EQ,Qu,rfl,ada,adb⟩,at9⟩:=bZ _ (ba.d 12 rfl) aEd;have ba:=ba.more (y:=U J.aX ZO abi Bg.Fields) ada;have hm:=hm.more (y:=U J.aX ZO abi Bg.Fields) ada;have ba:=ba.more (y:=U J.b2 EQ Qu Bg.aR) adb
                       have hm:=hm.more (y:=U J.b2 EQ Qu Bg.aR) adb;refine eR 13 rfl (by kernel_rfl) wn (fun a7=>bF Tryz.underlying25 Tryz.sizeOf136 rfl (I.g rfl) (I.g rfl) anz ayo) av I rfl rfl fun a I=>cc [14,15] 2 [0,3] [(321,.q EQ Qu Bg.aR)] [bG ag,bJ ag+(Oy).toNat* 4 + 3] (fun a7 ad=>(aw (b9 ad at9) ax)) I av fun a I=>?_;obtain ⟨fR,aEe,h⟩:=J.aF h;obtain ⟨anA,ayp,_,⟨BM,Ct,J8,KT,rfl,ade,adf⟩,at'⟩:=bZ _ (ba.d 0 rfl) aEe
                       have ba:=ba.more (y:=U J.dx BM Ct fR.bD) ade;have hm:=hm.more (y:=U J.dx BM Ct fR.bD) ade;have ba:=ba.more (y:=U J.er J8 KT fR.bH) adf;have hm:=hm.more (y:=U J.er J8 KT fR.bH) adf;refine eR 17 rfl (by kernel_rfl) wn (fun a7=>bF Tryz.underlying134 Tryz.sizeOf133 rfl (I.g rfl) (I.g rfl) anA ayp) av I rfl rfl fun a I=>?_
                       refine cc [18] 1 [0,0] [(324,.agg #[ao fR.Name,.bool fR.Static,.q BM Ct fR.bD,.i fR.Returns.Kind,ao fR.Returns.aN,.i fR.cT,.i fR.cS,ao fR.Code,.q J8 KT fR.bH])] [bG EQ,bJ EQ+(kn).toNat* 9] (fun a7 ad=>(aw (b9 ad at') ax)) I av fun a I=>?_
                       refine P4 (ci:=[ao [],.bool false,.slice none 0 0,.i 0,ao [],.i 0,.i 0,ao [],.slice none 0 0]) (cj:=[ao [],.bool false,.slice none 0 0,.i 0,ao [],.i 0,.i 0,ao [],.slice none 0 0]) 19 20 rfl rfl (by kernel_rfl) (by kernel_rfl) (by kernel_rfl) (by kernel_rfl) rfl rfl (fun b w=>eJ Tryz.zeroValue133 rfl rfl) (fun b w=>eJ Tryz.zeroValue133 rfl rfl) I hm rfl rfl rfl rfl rfl (fun a7 h=>fp av h) fun a FZ F0 w ad R8 R9 I hm=>?_;have R8:=Nat.le_trans av.size R8;have R9:=Nat.le_trans av.size R9;have av:=fp av ad;clear ad;refine cQ 21 rfl (by kernel_rfl) (fun _=>av) ?_
                       refine AX (vs:=[ao fQ.Name,.bool fQ.Static,.q BL Cs fQ.bD,.i fQ.Returns.Kind,ao fQ.Returns.aN,.i fQ.cT,.i fQ.cS,ao fQ.Code,.q J7 KS fQ.bH]) 0 hm rfl wn rfl Tryz.sizeOf133 rfl rfl rfl rfl (I.g rfl) (I.g rfl) rfl fun w ad hm=>?_;have av:=sg av ad R8;clear ad;refine cD <| cQ 22 rfl (by kernel_rfl) (fun _=>av) ?_
                       refine AX (vs:=[ao fR.Name,.bool fR.Static,.q BM Ct fR.bD,.i fR.Returns.Kind,ao fR.Returns.aN,.i fR.cT,.i fR.cS,ao fR.Code,.q J8 KT fR.bH]) 1 hm rfl wn rfl Tryz.sizeOf133 rfl rfl rfl rfl (I.g rfl) (I.g rfl) rfl fun w ad hm=>?_;have av:=sg av ad R9;clear ad;refine cD <| fm (by kernel_rfl) ?_ (fun _=>av);clear ba av;refine aon _ _ <| wp_seq_k fun K Lj=>aY ?_
                       refine bf 6 [0,0,1,0] [(330,.bool (decide (fQ.Name=fR.Name)))] [F0,0,FZ,0] (aw (aZ (hm.e 0 rfl)) (aw (aZ (hm.e 1 rfl)) ax)) I fun a I=>?_;rcases Bool.eq_false_or_eq_true (decide (fQ.Name=fR.Name)) with G1 | G1
                       · have h:=J.di G1 h;have I:=I.b5 330 rfl G1;refine bf 7 [1,1,0,1,1,0,0,1,1,1,0,1] [(337,.bool (fQ.Static || fR.Static))] [F0,1,FZ,1] (aw (aZ (hm.e 0 rfl)) (aw (aZ (hm.e 1 rfl)) ax)) I fun a I=>?_;rcases Bool.eq_false_or_eq_true (fQ.Static || fR.Static) with G2 | G2
                         · have h:=J.di G2 h;have I:=I.b5 337 rfl G2;refine eo 15 [1,1,1,1,1,1,1,1,1,1,1,1,1,1,1,1,1] [(0,.q ag ah aK),(22,.i fj),(23,.q hE ix fz),(24,.i gg),(25,.i h7),(26,.i kn),(352,.bool true)] I fun a I=>wpList_nil (Lj _ _ ?_);refine eN (I.g rfl) rfl <| bt [] [(2,.i 4)] I fun a I=>wp_ret ?_;obtain rfl:=aB h;obtain rfl:=aB Hp;obtain rfl:=aB Ho;obtain rfl:=aB Hn
                           obtain rfl:=aB Hm;obtain rfl:=aB Hl;obtain rfl:=aB Hk;obtain rfl:=aB Hj;refine a6 (ak (ak (a6 (ak (a6 (ak (ak (ak (a6 (ak (a6 (ak (ak (ak (a6 (ak (a6 (ak (ak (ak (a6 (ak (ak ?_)))))))))))))))))))))));refine bn Tryz.results109 I rfl ?_;exact ⟨rfl,hm.aW [] []⟩
                         have h:=J.dh G2 h;have I:=I.b5 337 rfl G2;refine jS 4 [1,1,0,2,1,1,1,2] [(0,.q ag ah aK),(22,.i fj),(23,.q hE ix fz),(24,.i gg),(25,.i h7),(26,.i kn),(27,.aL FZ),(28,.aL F0),(330,.bool true),(337,.bool false),(339,.q BL Cs fQ.bD),(341,.q BM Ct fR.bD)] [F0,2,FZ,2] (aw (aZ (hm.e 0 rfl)) (aw (aZ (hm.e 1 rfl)) ax)) I fun a I=>?_;obtain ⟨Nc,aBn,h⟩:=J.aF h;have hc:=hm
                         refine bP (vs:=[.q BL Cs fQ.bD,.q BM Ct fR.bD]) (c1 I rfl rfl rfl rfl) rfl Tryz.call138 ⟨(I.g rfl),(I.g rfl),trivial⟩ (abo ((hc.into 0).pick ⟨⟨5,rfl⟩,⟨1,rfl⟩,trivial⟩) aBn) I rfl rfl ?_;rintro _ w ⟨rfl,af⟩;refine ⟨_,rfl,fun a I=>?_⟩;have hm:=hc.back 0 af;clear af hc;refine aP 3 [1,1,1,1] [(345,.bool (!Nc))] I fun a I=>?_;rcases Bool.eq_false_or_eq_true (!Nc) with G3 | G3
                         · have h:=J.di G3 h;have I:=I.b5 345 rfl G3;refine aP 7 [1,1,1,1,1,1,1,1] [(352,.bool true)] I fun a I=>wpList_nil (Lj _ _ ?_);refine eN (I.g rfl) rfl <| bt [] [(2,.i 4)] I fun a I=>wp_ret ?_;obtain rfl:=aB h;obtain rfl:=aB Hp;obtain rfl:=aB Ho;obtain rfl:=aB Hn;obtain rfl:=aB Hm;obtain rfl:=aB Hl;obtain rfl:=aB Hk
                           obtain rfl:=aB Hj;refine a6 (ak (ak (a6 (ak (a6 (ak (ak (ak (a6 (ak (a6 (ak (ak (ak (a6 (ak (a6 (ak (ak (ak (a6 (ak (ak ?_)))))))))))))))))))))));refine bn Tryz.results109 I rfl ?_;exact ⟨rfl,hm.aW [] []⟩
                         have h:=J.dh G3 h;have I:=I.b5 345 rfl G3;refine bf 4 [1,1,0,3,1,1,1,3] [(347,.agg #[.i fQ.Returns.Kind,ao fQ.Returns.aN]),(349,.agg #[.i fR.Returns.Kind,ao fR.Returns.aN])] [F0,3,FZ,3] (aw (aZ (hm.e 0 rfl)) (aw (aZ (hm.e 1 rfl)) ax)) I fun a I=>bQ (c1 I rfl rfl rfl rfl) (FT (X:=fQ.Returns) (Y:=fR.Returns) rfl (I.g rfl) (I.g rfl)) I rfl rfl fun a I=>aP 2 [1,1,1] [(352,.bool (!decide (fQ.Returns=fR.Returns)))] I fun a I=>wpList_nil (Lj _ _ ?_)
                         refine bi (I.g rfl) h (fun ars h=>?_) (fun ars h=>?_)
                         · refine bt [] [(2,.i 4)] I fun a I=>wp_ret ?_;obtain rfl:=aB h;obtain rfl:=aB Hp;obtain rfl:=aB Ho;obtain rfl:=aB Hn;obtain rfl:=aB Hm;obtain rfl:=aB Hl;obtain rfl:=aB Hk;obtain rfl:=aB Hj
                           refine a6 (ak (ak (a6 (ak (a6 (ak (ak (ak (a6 (ak (a6 (ak (ak (ak (a6 (ak (a6 (ak (ak (ak (a6 (ak (ak ?_)))))))))))))))))))))));refine bn Tryz.results109 I rfl ?_;exact ⟨rfl,hm.aW [] []⟩
                         refine wp_skip <| acL _ _ <| ch [] [(26,.i (J.ap (kn+ 1)))] I fun a I=>?_;exact acK _ _ ⟨J.ap (kn+ 1),I.cut,hm.aW [2] [10,11,12,13,14,15,16],h⟩
                       have h:=J.dh G1 h;have I:=I.b5 330 rfl G1;refine aP 22 [1,1,1,1,1,1,1,1,1,1,1,1,1,1,1,1,1,1,1,1,1,1] [(352,.bool false)] I fun a I=>wpList_nil (Lj _ _ ?_);refine ij (I.g rfl) rfl <| wp_skip <| acL _ _ <| DB [] [(0,.q ag ah aK),(22,.i fj),(23,.q hE ix fz),(24,.i gg),(25,.i h7),(26,.i (J.ap (kn+ 1)))] I fun a I=>?_;exact acK _ _ ⟨J.ap (kn+ 1),I.cut,hm.aW [2] [10,11,12,13,14,15,16],h⟩
                     refine wp_exit <| bx (bx (cw ?_));exact aok _ _ ⟨I.cut,hm.ec [2,3,4,5,6,7,8],(os h)⟩
                   rintro a w ⟨I,hm,bb⟩;subst Wg;have h:=Hp;clear Hp;dsimp only [J.eV] at h;exact aoj _ _ ⟨I.cut,hm,(os h)⟩
                 rintro a w ⟨I,hm,bb⟩;subst aeW;have h:=Ho;clear Ho;dsimp only [J.eV] at h;refine aoi _ _ <| ch [] [(25,.i (J.ap (h7+ 1)))] I fun a I=>?_;exact aof _ _ ⟨J.ap (h7+ 1),I.cut,hm.ec [2,3,4,5,6],h⟩
               refine wp_exit <| bx (bx (cw ?_));exact aoe _ _ ⟨I.cut,hm.ec [2,3,4,5,6],(os h)⟩
             rintro a w ⟨I,hm,bb⟩;subst Wf;have h:=Hn;clear Hn;dsimp only [J.eV] at h;exact aod _ _ ⟨I.cut,hm,(os h)⟩
           rintro a w ⟨I,hm,bb⟩;subst aeV;have h:=Hm;clear Hm;dsimp only [J.eV] at h;refine aoc _ _ <| DB [] [(0,.q ag ah aK),(22,.i fj),(23,.q hE ix fz),(24,.i (J.ap (gg+ 1)))] I fun a I=>?_;exact aoa _ _ ⟨J.ap (gg+ 1),I.cut,hm,h⟩
         refine wp_exit <| bx (bx (cw ?_));exact an' _ _ ⟨I.cut,hm,(os h)⟩
       rintro a w ⟨I,hm,bb⟩;subst Wc;have h:=Hl;clear Hl;dsimp only [J.eV] at h;exact an8 _ _ ⟨I.cut,hm.ec [1,2,3,4],(os h)⟩
     rintro a w ⟨I,hm,bb⟩;subst aeT;have h:=Hk;clear Hk;dsimp only [J.eV] at h;refine an7 _ _ <| ch [] [(22,.i (J.ap (fj+ 1)))] I fun a I=>?_;exact an5 _ _ ⟨J.ap (fj+ 1),I.cut,hm,h⟩
   refine wp_exit <| bx (bx (cw ?_));exact an4 _ _ ⟨I.cut,hm,(os h)⟩
 rintro a w ⟨I,hm,bb⟩;subst VJ;have h:=Hj;clear Hj;dsimp only [J.dZ] at h;refine an3 _ _ <| bt [] [(2,.i 0)] I fun a I=>wp_ret ?_;obtain rfl:=aB h;refine bn Tryz.results109 I rfl ?_;exact ⟨rfl,hm.aW [] []⟩
theorem aiI {W:World} {X:List Nat} {F:Nat} {aK:List J.aN} {r:J.bw × Int} {ag:aS} {ah:Nat} {M0:List Nat} (hm:au W M0 X W [] [U J.bd ag ah aK]) (h:J.EY F aK=some r) :
 Calls Tryz.prog 84 [.q ag ah aK].toArray W (fun e aD=>∃ Y3:Option Addr,∃ aat:Nat,∃ Y4:Option Addr,∃ aau:Nat,∃ agI:List Value,∃ Y5:Option Addr,∃ aav:Nat,∃ agJ:List Value,∃ Y6:Option Addr,∃ aaw:Nat,∃ agK:List Value,∃ Y7:Option Addr,∃ aax:Nat,∃ agL:List Value,e= .returned (.tuple #[.agg #[.q Y3 aat r.1.aJ,.q Y4 aau r.1.aG,.q Y5 aav r.1.Fields,.q Y6 aaw r.1.Names,.q Y7 aax r.1.aE],.i r.2])/\au W M0 X aD [aq.row 3 1 (.q Y4 aau r.1.aG) r.1.aG agI,aq.row 106 1 (.q Y5 aav r.1.Fields) r.1.Fields agJ,aq.row 125 1 (.q Y6 aaw r.1.Names) r.1.Names agK,aq.row 126 1 (.q Y7 aax r.1.aE) r.1.aE agL] [U J.bd Y3 aat r.1.aJ,al.rows (aj .i64) agI r.1.aG,al.rows (aH J.aX) agJ r.1.Fields,al.rows (aH bz) agK r.1.Names,al.rows (aH J.bR) agL r.1.aE]):=by
 refine enter Tryz.func84 rfl Tryz.ntmps84 rfl fun a I=>?_;rw [J.EY] at h;refine wp_seq_k fun K cZ=>aY <| cy (cs:=[.slice none 0 0,.slice none 0 0,.slice none 0 0,.slice none 0 0,.slice none 0 0]) wn (eJ Tryz.zeroValue30 rfl rfl) I hm rfl rfl fun a fN w _ I hm=>aP 1 [] [] I fun a I=>wpList_nil (cZ _ _ ?_);refine wp_seq_k fun K bI=>aY <| aP 1 [] [(10,.q ag ah aK)] I fun a I=>?_;obtain ⟨h9,Aq,h⟩:=J.aF h;have hc:=hm;refine bP (vs:=[.q ag ah aK]) wn rfl Tryz.call109 ⟨(I.g rfl),trivial⟩ (aiF ((hc.into 0).pick ⟨⟨0,rfl⟩,trivial⟩) Aq) I rfl rfl ?_;rintro _ w ⟨rfl,af⟩;refine ⟨_,rfl,?_⟩
 intro a I;have hm:=hc.back 0 af;clear af hc;refine aP 1 [] [(4,.i h9)] I fun a I=>wpList_nil (bI _ _ ?_);refine wp_seq_k fun K ca=>bc [] [(13,.bool (!decide (h9= 0)))] I fun a I=>bi (I.g rfl) h (fun RB h=>?_) (fun RB h=>?_)
 · refine wp_seq_k fun K cu=>aY <| bQ wn (gk (vs:=[]) (cs:=[.slice none 0 0,.slice none 0 0,.slice none 0 0,.slice none 0 0,.slice none 0 0]) Tryz.zeroValue30 Tryz.underlying30 qg rfl trivial (by kernel_rfl)) I rfl rfl fun a I=>aP 1 [] [(15,.i h9)] I fun a I=>cx (vs:=[.slice none 0 0,.slice none 0 0,.slice none 0 0,.slice none 0 0,.slice none 0 0]) 0 hm rfl wn rfl Tryz.sizeOf30 rfl rfl rfl rfl (I.g rfl) (I.g rfl) rfl fun w hm=>aP 1 [] [(3,.i h9)] I fun a I=>wpList_nil (cu _ _ ?_);refine wp_ret ?_;obtain rfl:=aB h;refine ak ?_
   refine gR (vs:=[.agg #[.slice none 0 0,.slice none 0 0,.slice none 0 0,.slice none 0 0,.slice none 0 0],.i h9]) Tryz.results84 I ⟨⟨_,_,I.g rfl,.inl ⟨[.slice none 0 0,.slice none 0 0,.slice none 0 0,.slice none 0 0,.slice none 0 0],Tryz.isAgg30,Tryz.sizeOf30,g0 (hm.e 0 rfl) 0 ⟨rfl,rfl,rfl,rfl,rfl,trivial⟩,rfl⟩⟩,I.g rfl,trivial⟩ ?_;have hm:=hm.cV (α:=Int) 3 1;have hm:=hm.more (y:=al.rows (aj .i64) [] []) rfl;have hm:=hm.cV (α:=List J.Field) 106 1;have hm:=hm.more (y:=al.rows (aH J.aX) [] []) rfl;have hm:=hm.cV (α:=List (List UInt8)) 125 1;have hm:=hm.more (y:=al.rows (aH bz) [] []) rfl;have hm:=hm.cV (α:=List J.Target) 126 1;have hm:=hm.more (y:=al.rows (aH J.bR) [] []) rfl
   have hm:=hm.more (y:=al.of (aH J.bd) [.slice none 0 0] ([]:List J.aN)) (i_ _ _ _);exact ⟨none,0,none,0,[],none,0,[],none,0,[],none,0,[],rfl,hm.aW [3,2,1,0] [0,1,1,1,1]⟩
 refine wp_skip <| ca _ _ <| wp_seq_k fun K dL=>aY <| aP 1 [] [(16,.q ag ah aK)] I fun a I=>bQ wn (gk (vs:=[(0,.q ag ah aK)]) (cs:=[.q ag ah aK,.slice none 0 0,.slice none 0 0,.slice none 0 0,.slice none 0 0]) Tryz.zeroValue30 Tryz.underlying30 qg rfl ⟨⟨(I.g rfl),rfl⟩,trivial⟩ (by kernel_rfl)) I rfl rfl fun a I=>cy (cs:=[.slice none 0 0,.slice none 0 0,.slice none 0 0,.slice none 0 0,.slice none 0 0]) wn (eJ Tryz.zeroValue30 rfl rfl) I hm rfl rfl fun a dc w _ I hm=>cx (vs:=[.q ag ah aK,.slice none 0 0,.slice none 0 0,.slice none 0 0,.slice none 0 0]) 0 hm rfl wn rfl Tryz.sizeOf30 rfl rfl rfl rfl (I.g rfl) (I.g rfl) rfl ?_
 intro w hm;refine wpList_nil <| dL _ _ <| wp_seq_k fun K dt=>bc [] [(6,.i 0)] I fun a I=>?_;have hm:=hm.cV (α:=Int) 3 1;have hm:=hm.more (y:=al.rows (aj .i64) [] []) rfl;have hm:=hm.cV (α:=List J.Field) 106 1;have hm:=hm.more (y:=al.rows (aH J.aX) [] []) rfl;have hm:=hm.cV (α:=List (List UInt8)) 125 1;have hm:=hm.more (y:=al.rows (aH bz) [] []) rfl;have hm:=hm.cV (α:=List J.Target) 126 1;have hm:=hm.more (y:=al.rows (aH J.bR) [] []) rfl;obtain ⟨U5,h,Sy⟩:=J.ef h
 refine cb (fun a w=>∃ (vO:aS) (w9:Nat) (pA:List (List J.Target)) (OC:dF) (vP:aS) (w_:Nat) (pB:List (List (List UInt8))) (OD:dF) (vQ:aS) (w':Nat) (pC:List (List J.Field)) (OE:dF) (vR:aS) (xa:Nat) (pD:eK) (OG:dF),Fr ⟨73,[]⟩ [(2,.aL fN),(5,.aL dc)] a/\au W M0 X w [aq.row 126 1 (.q vO w9 pA) pA OC,aq.row 125 1 (.q vP w_ pB) pB OD,aq.row 106 1 (.q vQ w' pC) pC OE,aq.row 3 1 (.q vR xa pD) pD OG,aq.bm dc 30 [.q ag ah aK,.q vR xa pD,.q vQ w' pC,.q vP w_ pB,.q vO w9 pA],aq.bm fN 30 [.slice none 0 0,.slice none 0 0,.slice none 0 0,.slice none 0 0,.slice none 0 0]] [al.rows (aH J.bR) OC pA,al.rows (aH bz) OD pB,al.rows (aH J.aX) OE pC,al.rows (aj .i64) OG pD,U J.bd ag ah aK]/\U5=(.go (pA,pB,pC,pD))) (fun K dp=>?_) ?_
 · refine cA (fun (bu:Nat) a w=>∃ (Br:aS) (B9:Nat) (pE:List (List J.Target)) (I8:dF) (Bs:aS) (B_:Nat) (pF:List (List (List UInt8))) (I9:dF) (Bt:aS) (B':Nat) (pG:List (List J.Field)) (I_:dF) (Bu:aS) (Ca:Nat) (pH:eK) (I':dF) (ki:Int),Fr ⟨73,[]⟩ [(0,.q ag ah aK),(2,.aL fN),(5,.aL dc),(6,.i ki)] a/\au W M0 X w [aq.row 126 1 (.q Br B9 pE) pE I8,aq.row 125 1 (.q Bs B_ pF) pF I9,aq.row 106 1 (.q Bt B' pG) pG I_,aq.row 3 1 (.q Bu Ca pH) pH I',aq.bm dc 30 [.q ag ah aK,.q Bu Ca pH,.q Bt B' pG,.q Bs B_ pF,.q Br B9 pE],aq.bm fN 30 [.slice none 0 0,.slice none 0 0,.slice none 0 0,.slice none 0 0,.slice none 0 0]] [al.rows (aH J.bR) I8 pE,al.rows (aH bz) I9 pF,al.rows (aH J.aX) I_ pG,al.rows (aj .i64) I' pH,U J.bd ag ah aK]/\J.qI F aK bu pE pF pG pH ki=some U5) F ⟨none,0,[],[],none,0,[],[],none,0,[],[],none,0,[],[],0,I.cut,hm.ec [0,0,0,0,4],h⟩ ?_ ?_
   · rintro a w ⟨Br,B9,pE,I8,Bs,B_,pF,I9,Bt,B',pG,I_,Bu,Ca,pH,I',ki,I,hm,h⟩;exact absurd h (by simp [J.qI])
   rintro bu a w ⟨Br,B9,pE,I8,Bs,B_,pF,I9,Bt,B',pG,I_,Bu,Ca,pH,I',ki,I,hm,h⟩ K da;rw [J.qI] at h;refine wp_seq_k fun K dA=>bc [] [(21,.bool (decide (ki <(aK.length:Int))))] I fun a I=>bi (I.g rfl) h (fun apd h=>?_) (fun apd h=>?_)
   · refine wp_skip <| dA _ _ <| wp_seq_k fun K dQ=>wp_block <| wp_seq_k fun K fx=>aY <| aP 2 [] [(24,.q ag ah aK),(25,.i ki)] I fun a I=>?_;obtain ⟨vq,azT,h⟩:=J.aF h;have hc:=hm;refine bP (vs:=[.q ag ah aK,.i ki]) wn rfl Tryz.call110 ⟨(I.g rfl),(I.g rfl),trivial⟩ (Qw ((hc.into 0).pick ⟨⟨4,rfl⟩,trivial⟩) azT) I rfl rfl ?_;rintro _ w ⟨Ju,Ki,aKx,rfl,af⟩;refine ⟨_,rfl,fun a I=>?_⟩;have hm:=hc.back 0 af;clear af hc
     refine aP 1 [] [(7,.q Ju Ki vq)] I fun a I=>wpList_nil (fx _ _ ?_);refine wp_seq_k fun K fi=>aY <| aP 2 [] [(28,.q ag ah aK),(29,.i ki)] I fun a I=>?_;obtain ⟨m3,azU,h⟩:=J.aF h;have hc:=hm;refine bP (vs:=[.q ag ah aK,.i ki]) wn rfl Tryz.call111 ⟨(I.g rfl),(I.g rfl),trivial⟩ (aiO ((hc.into 0).pick ⟨⟨5,rfl⟩,trivial⟩) azU) I rfl rfl ?_;rintro _ w ⟨Jv,Kj,aKy,Jw,Kk,aKz,rfl,af⟩;refine ⟨_,rfl,fun a I=>?_⟩;have hm:=hc.back 0 af;clear af hc
     refine aP 5 [] [(8,.q Jv Kj m3.1),(9,.q Jw Kk m3.2)] I fun a I=>wpList_nil (fi _ _ ?_);refine wp_seq_k fun K gA=>bc [0,0,0,0] [(40,.bool ((decide (12 <(vq.length:Int))) || (decide (16 <(m3.1.length:Int)))))] I fun a I=>bi (I.g rfl) h (fun apf h=>?_) (fun apf h=>?_)
     · refine wp_seq_k fun K fy=>aY <| bQ wn (gk (vs:=[]) (cs:=[.slice none 0 0,.slice none 0 0,.slice none 0 0,.slice none 0 0,.slice none 0 0]) Tryz.zeroValue30 Tryz.underlying30 qg rfl trivial (by kernel_rfl)) I rfl rfl fun a I=>cx (vs:=[.slice none 0 0,.slice none 0 0,.slice none 0 0,.slice none 0 0,.slice none 0 0]) 8 hm rfl wn rfl Tryz.sizeOf30 rfl rfl rfl rfl (I.g rfl) (I.g rfl) rfl fun w hm=>aP 1 [] [(3,.i 2)] I fun a I=>wpList_nil (fy _ _ ?_);refine wp_ret ?_;obtain rfl:=aB h;obtain rfl:=aB Sy
       refine ak (a6 (ak (ak (a6 (ak (ak ?_))))));refine gR (vs:=[.agg #[.slice none 0 0,.slice none 0 0,.slice none 0 0,.slice none 0 0,.slice none 0 0],.i 2]) Tryz.results84 I ⟨⟨_,_,I.g rfl,.inl ⟨[.slice none 0 0,.slice none 0 0,.slice none 0 0,.slice none 0 0,.slice none 0 0],Tryz.isAgg30,Tryz.sizeOf30,g0 (hm.e 8 rfl) 0 ⟨rfl,rfl,rfl,rfl,rfl,trivial⟩,rfl⟩⟩,I.g rfl,trivial⟩ ?_;have hm:=hm.cV (α:=Int) 3 1;have hm:=hm.more (y:=al.rows (aj .i64) [] []) rfl;have hm:=hm.cV (α:=List J.Field) 106 1;have hm:=hm.more (y:=al.rows (aH J.aX) [] []) rfl;have hm:=hm.cV (α:=List (List UInt8)) 125 1;have hm:=hm.more (y:=al.rows (aH bz) [] []) rfl;have hm:=hm.cV (α:=List J.Target) 126 1
       have hm:=hm.more (y:=al.rows (aH J.bR) [] []) rfl;have hm:=hm.more (y:=al.of (aH J.bd) [.slice none 0 0] ([]:List J.aN)) (i_ _ _ _);exact ⟨none,0,none,0,[],none,0,[],none,0,[],none,0,[],rfl,hm.aW [3,2,1,0] [0,1,1,1,1]⟩
     refine wp_skip <| gA _ _ <| wp_seq_k fun K fO=>hd (m:=13) 10 (a' []) (by kernel_rfl) rfl fun w ad=>?_;have hm:=hm.dB ad;clear ad;have ba:=hm;have av:=a'.refl [] w;refine cc [0,1,2,3,4] 5 [0,1] [(43,.q Bu Ca pH),(44,.q ag ah aK),(45,.q ag ah aK),(46,.i ki)] [dc,1] (fun a7 ad=>(aw (b9 ad (aZ (ba.e 7 rfl))) ax)) I av fun a I=>?_;obtain ⟨yW,aCg,h⟩:=J.aF h;obtain ⟨alo,awg,_,⟨YX,aan,YY,aao,rfl,ac6,ac7⟩,arY⟩:=bZ _ (ba.d 7 rfl) aCg;have ba:=ba.more (y:=U J.aX YX aan yW.Fields) ac6
     have hm:=hm.more (y:=U J.aX YX aan yW.Fields) ac6;have ba:=ba.more (y:=U J.b2 YY aao yW.aR) ac7;have hm:=hm.more (y:=U J.b2 YY aao yW.aR) ac7;refine eR 5 rfl (by kernel_rfl) wn (fun a7=>bF Tryz.underlying25 Tryz.sizeOf136 rfl (I.g rfl) (I.g rfl) alo awg) av I rfl rfl fun a I=>cc [6,7] 2 [0,1] [(49,ao yW.bW)] [bG ag,bJ ag+(ki).toNat* 4 + 1] (fun a7 ad=>(aw (b9 ad arY) ax)) I av fun a I=>cQ 8 rfl (by kernel_rfl) (fun _=>av) ?_
     obtain ⟨Ik,azW,h⟩:=J.aF h;have hc:=hm;refine bP (vs:=[.q ag ah aK,ao yW.bW]) wn rfl Tryz.call112 ⟨(I.g rfl),(I.g rfl),trivial⟩ (tJ ((hc.into 0).pick ⟨⟨9,rfl⟩,trivial⟩) azW) I rfl rfl ?_;rintro _ w ⟨rfl,af⟩;refine ⟨_,rfl,fun a I=>?_⟩;have ad:a' [] _ w:=af.ev;have hm:=hc.back 0 af;clear af hc;have av:=fp av ad;clear ad;refine cD <| cQ 9 rfl (by kernel_rfl) (fun _=>av) <| o3 (cs:=[.i Ik]) wn (fX (vs:=[(0,.i Ik)]) Tryz.underlying22 Tryz.sizeOf3 Tryz.zeroValue3 rfl rfl rfl ⟨⟨(I.g rfl),rfl⟩,trivial⟩ (by kernel_rfl)) I hm rfl rfl fun a aJN w ad adm I hm=>?_
     have adm:=Nat.le_trans av.size adm;have av:=fp av ad;clear ad;refine cD <| cQ 10 rfl (by kernel_rfl) (fun _=>av) ?_;obtain ⟨Ma,ayL,h⟩:=J.aF h;refine iJ (T:=(aj .i64)) (ml:=[Ik]) 7 0 8 hm rfl rfl rfl Tryz.underlying22 jC rfl rfl ayL rfl rfl ⟨_,_,rfl,rfl,rfl⟩ wn rfl (I.g rfl) (I.g rfl) I rfl rfl fun a YZ aap aHG w I hm=>cD ?_;clear ba av;have ba:=hm;have av:=a'.refl [] w;refine dV.next 12 (a' [] w) (by kernel_rfl) <| cc [11] 1 [] [(53,.pointer (some ⟨dc,1,none⟩))] [] (fun a7 ad=>ax) I av fun a I=>cQ 12 rfl (by kernel_rfl) (fun _=>av) ?_
     refine cx (vs:=[.q YZ aap Ma]) 7 hm rfl wn rfl Tryz.sizeOf22 rfl rfl rfl rfl (I.g rfl) (I.g rfl) rfl fun w hm=>cD ?_;clear ba av;have ba:=hm;have av:=a'.refl [] w;refine dV.next 13 (a' [] w) (by kernel_rfl) <| fm (by kernel_rfl) ?_ (fun _=>av);clear ba av;refine fO _ _ <| wp_seq_k fun K fU=>aY <| bf 3 [0,2] [(55,.q Bt B' pG),(56,.q Ju Ki vq)] [dc,2] (aw (aZ (hm.e 7 rfl)) ax) I fun a I=>?_;have hm:=hm.freeze 2 5 rfl rfl
     refine gw (cs:=[.q Ju Ki vq]) wn (fX (vs:=[(0,.q Ju Ki vq)]) Tryz.underlying26 Tryz.sizeOf106 Tryz.zeroValue106 rfl rfl rfl ⟨⟨(I.g rfl),rfl⟩,trivial⟩ (by kernel_rfl)) I hm rfl rfl fun a aJO w _ I hm=>?_;obtain ⟨Mb,ayM,h⟩:=J.aF h;refine iJ (T:=(aH J.aX)) (ml:=[vq]) 5 0 9 hm rfl rfl rfl Tryz.underlying26 ad' rfl rfl ayM rfl rfl ⟨_,_,rfl,(hm.d 0 rfl),rfl⟩ wn rfl (I.g rfl) (I.g rfl) I rfl rfl fun a Y0 aaq aHH w I hm=>aP 1 [] [(59,.pointer (some ⟨dc,2,none⟩))] I fun a I=>cx (vs:=[.q Y0 aaq Mb]) 6 hm rfl wn rfl Tryz.sizeOf26 rfl rfl rfl rfl (I.g rfl) (I.g rfl) rfl fun w hm=>?_
     refine wpList_nil <| fU _ _ <| wp_seq_k fun K gr=>aY <| bf 3 [0,3] [(61,.q Bs B_ pF),(62,.q Jv Kj m3.1)] [dc,3] (aw (aZ (hm.e 6 rfl)) ax) I fun a I=>?_;have hm:=hm.freeze 0 5 rfl rfl;refine gw (cs:=[.q Jv Kj m3.1]) wn (fX (vs:=[(0,.q Jv Kj m3.1)]) Tryz.underlying27 Tryz.sizeOf125 Tryz.zeroValue125 rfl rfl rfl ⟨⟨(I.g rfl),rfl⟩,trivial⟩ (by kernel_rfl)) I hm rfl rfl fun a aJP w _ I hm=>?_;obtain ⟨Mc,ayN,h⟩:=J.aF h
     refine iJ (T:=(aH bz)) (ml:=[m3.1]) 3 0 10 hm rfl rfl rfl Tryz.underlying27 aea rfl rfl ayN rfl rfl ⟨_,_,rfl,(hm.d 0 rfl),rfl⟩ wn rfl (I.g rfl) (I.g rfl) I rfl rfl fun a Y1 aar aHI w I hm=>aP 1 [] [(65,.pointer (some ⟨dc,3,none⟩))] I fun a I=>cx (vs:=[.q Y1 aar Mc]) 5 hm rfl wn rfl Tryz.sizeOf27 rfl rfl rfl rfl (I.g rfl) (I.g rfl) rfl fun w hm=>wpList_nil <| gr _ _ <| aY <| bf 3 [0,4] [(67,.q Br B9 pE),(68,.q Jw Kk m3.2)] [dc,4] (aw (aZ (hm.e 5 rfl)) ax) I fun a I=>?_
     have hm:=hm.freeze 0 8 rfl rfl;refine gw (cs:=[.q Jw Kk m3.2]) wn (fX (vs:=[(0,.q Jw Kk m3.2)]) Tryz.underlying28 Tryz.sizeOf126 Tryz.zeroValue126 rfl rfl rfl ⟨⟨(I.g rfl),rfl⟩,trivial⟩ (by kernel_rfl)) I hm rfl rfl fun a aJQ w _ I hm=>?_;obtain ⟨Md,ayO,h⟩:=J.aF h;refine iJ (T:=(aH J.bR)) (ml:=[m3.2]) 1 0 11 hm rfl rfl rfl Tryz.underlying28 aeb rfl rfl ayO rfl rfl ⟨_,_,rfl,(hm.d 0 rfl),rfl⟩ wn rfl (I.g rfl) (I.g rfl) I rfl rfl fun a Y2 aas aHJ w I hm=>aP 1 [] [(71,.pointer (some ⟨dc,4,none⟩))] I fun a I=>?_
     refine cx (vs:=[.q Y2 aas Md]) 4 hm rfl wn rfl Tryz.sizeOf28 rfl rfl rfl rfl (I.g rfl) (I.g rfl) rfl fun w hm=>wpList_nil <| dQ _ _ <| ch [] [(6,.i (J.ap (ki+ 1)))] I fun a I=>?_;exact da _ _ ⟨Y2,aas,Md,aHJ,Y1,aar,Mc,aHI,Y0,aaq,Mb,aHH,YZ,aap,Ma,aHG,J.ap (ki+ 1),I.cut,hm.ec [0,2,4,6,16],h⟩
   refine wp_exit <| bx (bx (cw ?_));exact dp _ _ ⟨Br,B9,pE,I8,Bs,B_,pF,I9,Bt,B',pG,I_,Bu,Ca,pH,I',I.cut,hm,(os h)⟩
 rintro a w ⟨vO,w9,pA,OC,vP,w_,pB,OD,vQ,w',pC,OE,vR,xa,pD,OG,I,hm,bb⟩;subst U5;have h:=Sy;clear Sy;dsimp only [J.dZ] at h;refine dt _ _ <| wp_seq_k fun K gN=>aY <| bf 1 [0,0] [(72,.agg #[.q ag ah aK,.q vR xa pD,.q vQ w' pC,.q vP w_ pB,.q vO w9 pA])] [dc,0] (aw (aZ (hm.e 4 rfl)) ax) I fun a I=>cx (vs:=[.q ag ah aK,.q vR xa pD,.q vQ w' pC,.q vP w_ pB,.q vO w9 pA]) 5 hm rfl wn rfl Tryz.sizeOf30 rfl rfl rfl rfl (I.g rfl) (I.g rfl) rfl fun w hm=>?_
 refine aP 1 [] [(3,.i 0)] I fun a I=>wpList_nil (gN _ _ ?_);refine wp_ret ?_;obtain rfl:=aB h;refine gR (vs:=[.agg #[.q ag ah aK,.q vR xa pD,.q vQ w' pC,.q vP w_ pB,.q vO w9 pA],.i 0]) Tryz.results84 I ⟨⟨_,_,I.g rfl,.inl ⟨[.q ag ah aK,.q vR xa pD,.q vQ w' pC,.q vP w_ pB,.q vO w9 pA],Tryz.isAgg30,Tryz.sizeOf30,g0 (hm.e 5 rfl) 0 ⟨rfl,rfl,rfl,rfl,rfl,trivial⟩,rfl⟩⟩,I.g rfl,trivial⟩ ?_
 exact ⟨ag,ah,vR,xa,OG,vQ,w',OE,vP,w_,OD,vO,w9,OC,rfl,hm.aW [3,2,1,0] [4,3,2,1,0]⟩
end Go.Proofs.YtpkhpagplommoaaGreat
namespace J
def rr (x_:df):Nat->(List ((List UInt8) × Int))->Int->Option (Way (Int × df) (List ((List UInt8) × Int)))
 | 0,_,_=>none
 | bu+ 1,jJ,kK=>
   cond (decide (kK <(x_.l.length:Int))) ((idx x_.l kK).bind fun kN=>
   cond ((dv jJ kN.Name).isSome) (some (.out (6,(⟨x_.l,jJ,x_.b1⟩:df)))) (rr x_ bu (hI jJ kN.Name kK) (ap (kK+ 1)))) (some (.go jJ))
def Da (F:Nat) (x_:df):Option (Int × df):=
 dw (α:=List ((List UInt8) × Int)) (rr x_ F x_.cH 0) fun (pW:List ((List UInt8) × Int))=>
 cond ((!((dv pW [79,98,106,101,99,116]).isSome)) || (!((dv pW [69,114,114,111,114]).isSome))) (some (5,(⟨x_.l,pW,x_.b1⟩:df))) (some (0,(⟨x_.l,pW,x_.b1⟩:df)))
def u' (x_:df):Nat->Int->Option (Way (Int × df) (Unit))
 | 0,_=>none
 | bu+ 1,p_=>
   cond (decide (p_ <(x_.l.length:Int))) ((idx x_.l p_).bind fun m'=>
   cond (!((decide (m'.Name= [79,98,106,101,99,116])) == (decide (m'.bW= [])))) (some (.out (4,(⟨x_.l,x_.cH,x_.b1⟩:df)))) (u' x_ bu (ap (p_+ 1)))) (some (.go ()))
def oO (x_:df):Nat->(List Int)->Int->Option (Way (Int × df) (List Int))
 | 0,_,_=>none
 | c4+ 1,jp,mZ=>
   cond (decide (mZ <(x_.l.length:Int))) (ed (α:=List Int) ((idx x_.l mZ).bind fun gV=>
   ed (α:=Int) (ed (α:=Int) (cond (decide (gV.bW= [])) (some (.go (-1))) (cond (!((dv x_.cH gV.bW).isSome)) (some (.out (5,(⟨x_.l,x_.cH,jp⟩:df)))) (some (.go ((dv x_.cH gV.bW).getD 0))))) fun (Dn:Int)=>
   some (.go Dn)) fun (rv:Int)=>
   (ej 8 jp [rv]).bind fun C_=>
   some (.go C_)) fun (rm:List Int)=>
   oO x_ c4 rm (ap (mZ+ 1))) (some (.go jp))
def yf (x_:df) (fs:List Int):Nat->Int->Int->Option (Int)
 | 0,_,_=>none
 | fB+ 1,sJ,sK=>
   cond (decide (sK <(x_.l.length:Int))) ((idx fs sJ).bind fun yY=>
   cond (decide (yY < 0)) (some yY) (yf x_ fs fB yY (ap (sK+ 1)))) (some sJ)
def va (F:Nat) (x_:df) (fs:List Int):Nat->Int->Option (Way (Int × df) (Unit))
 | 0,_=>none
 | eB+ 1,kF=>
   cond (decide (kF <(x_.l.length:Int))) (ed (α:=Unit) (Option.bind (α:=Int) (Option.bind (α:=Int) (yf x_ fs F kF 0) fun (Dl:Int)=>
   some Dl) fun (Dk:Int)=>
   cond (decide (0 <=Dk)) (some (.out (4,(⟨x_.l,x_.cH,fs⟩:df)))) (some (.go ()))) fun (_:Unit)=>
   va F x_ fs eB (ap (kF+ 1))) (some (.go ()))
def Mv (F:Nat) (x_:df):Option (Int × df):=
 dw (α:=Unit) (u' x_ F 0) fun (_:Unit)=>
 dw (α:=List Int) (oO x_ F x_.b1 0) fun (fs:List Int)=>
 dw (α:=Unit) (va F x_ fs F 0) fun (_:Unit)=>
 some (0,(⟨x_.l,x_.cH,fs⟩:df))
def vd (x_:df):Nat->(List Int)->Int->Option (List Int)
 | 0,_,_=>none
 | bu+ 1,py,mU=>
   cond (decide (0 <=mU)) ((ej 8 py [mU]).bind fun HW=>
   (idx x_.b1 mU).bind fun gT=>
   vd x_ bu HW gT) (some py)
def vb (F:Nat) (x_:df) (bY:Int):Option (List Int):=
 Option.bind (α:=List Int) (vd x_ F [] bY) fun (uC:List Int)=>
 some uC
def Iv (_:List Int):Option Unit:=some ()
def yh (x_:df):List Int->(List Field)->Option (List Field)
 | [],k8=>some k8
 | yX::Ng,k8=>
   (idx x_.l yX).bind fun y0=>
   (ej 40 k8 y0.Fields).bind fun Mt=>
   yh x_ Ng Mt
def yg (F:Nat) (x_:df) (bY:Int):Option (List Field):=
 (vb F (⟨x_.l,x_.cH,x_.b1⟩:df) bY).bind fun rG=>
 (Iv rG).bind fun Ij=>
 Option.bind (α:=List Field) (yh x_ rG.reverse []) fun (k8:List Field)=>
 some k8
def Mw (F:Nat) (x_:df):Option (Int):=
 (yg F (⟨x_.l,x_.cH,x_.b1⟩:df) ((dv x_.cH [69,114,114,111,114]).getD 0)).bind fun dK=>
 (idx x_.l ((dv x_.cH [69,114,114,111,114]).getD 0)).bind fun DN=>
 cond ((!decide (DN.bW= [79,98,106,101,99,116])) || (decide ((dK.length:Int)= 0))) (some 4) ((idx dK 0).bind fun Yq=>
 cond (!decide (Yq.Kind.Kind= 1)) (some 4) (some 0))
def AE (aa:Kind) (q1_:List (List UInt8)):Option (List (List UInt8)):=
 cond (!decide (aa.aN= [])) ((ej 16 q1_ [aa.aN]).bind fun mR=>
 some mR) (some q1_)
def vj (cN:aN):Nat->(List (List UInt8))->Int->Option (List (List UInt8))
 | 0,_,_=>none
 | c4+ 1,rn,oZ=>
   cond (decide (oZ <(cN.Fields.length:Int))) ((idx cN.Fields oZ).bind fun o'=>
   (AE (⟨o'.Kind.Kind,o'.Kind.aN⟩:Kind) rn).bind fun XE=>
   vj cN c4 XE (ap (oZ+ 1))) (some rn)
def vl (cX:Method):Nat->(List (List UInt8))->Int->Option (List (List UInt8))
 | 0,_,_=>none
 | fB+ 1,rp,o1=>
   cond (decide (o1 <(cX.bD.length:Int))) ((idx cX.bD o1).bind fun rP=>
   (AE (⟨rP.Kind,rP.aN⟩:Kind) rp).bind fun XH=>
   vl cX fB XH (ap (o1+ 1))) (some rp)
def vm (cX:Method):Nat->(List (List UInt8))->Int->Option (List (List UInt8))
 | 0,_,_=>none
 | h1+ 1,pS,o2=>
   cond (decide (o2 <(cX.bH.length:Int))) ((idx cX.bH o2).bind fun nW=>
   (ej 16 pS [nW.aN]).bind fun Mn=>
   vm cX h1 Mn (ap (o2+ 1))) (some pS)
def vk (F:Nat) (cN:aN):Nat->(List (List UInt8))->Int->Option (List (List UInt8))
 | 0,_,_=>none
 | eB+ 1,pR,jM=>
   cond (decide (jM <(cN.aR.length:Int))) (Option.bind (α:=List (List UInt8)) ((idx cN.aR jM).bind fun cX=>
   Option.bind (α:=List (List UInt8)) (vl cX F pR 0) fun (yc:List (List UInt8))=>
   (AE (⟨cX.Returns.Kind,cX.Returns.aN⟩:Kind) yc).bind fun XI=>
   Option.bind (α:=List (List UInt8)) (vm cX F XI 0) fun (uV:List (List UInt8))=>
   some uV) fun (uU:List (List UInt8))=>
   vk F cN eB uU (ap (jM+ 1))) (some pR)
def vi (F:Nat) (x_:df):Nat->(List (List UInt8))->Int->Option (List (List UInt8))
 | 0,_,_=>none
 | bu+ 1,pN,hS=>
   cond (decide (hS <(x_.l.length:Int))) (Option.bind (α:=List (List UInt8)) ((idx x_.l hS).bind fun cN=>
   Option.bind (α:=List (List UInt8)) (vj cN F pN 0) fun (uS:List (List UInt8))=>
   Option.bind (α:=List (List UInt8)) (vk F cN F uS 0) fun (uT:List (List UInt8))=>
   some uT) fun (uR:List (List UInt8))=>
   vi F x_ bu uR (ap (hS+ 1))) (some pN)
def yo (x_:df) (hP:List (List UInt8)):Nat->Int->Option (Way (Int) (Unit))
 | 0,_=>none
 | jE+ 1,p8=>
   cond (decide (p8 <(hP.length:Int))) ((idx hP p8).bind fun DW=>
   cond (!((dv x_.cH DW).isSome)) (some (.out 5)) (yo x_ hP jE (ap (p8+ 1)))) (some (.go ()))
def H4 (F:Nat) (x_:df):Option (Int):=
 Option.bind (α:=List (List UInt8)) (vi F x_ F [] 0) fun (hP:List (List UInt8))=>
 dw (α:=Unit) (yo x_ hP F 0) fun (_:Unit)=>
 some 0
def yp (aK:List (List UInt8)):Nat->(List ((List UInt8) × Bool))->Int->Option (List ((List UInt8) × Bool))
 | 0,_,_=>none
 | bu+ 1,vn,p4=>
   cond (decide (p4 <(aK.length:Int))) ((idx aK p4).bind fun IZ=>
   yp aK bu (hI vn IZ true) (ap (p4+ 1))) (some vn)
def Dc (F:Nat) (aK:List (List UInt8)):Option (Bool):=
 Option.bind (α:=List ((List UInt8) × Bool)) (yp aK F [] 0) fun (Dd:List ((List UInt8) × Bool))=>
 some (decide ((Dd.length:Int) <(aK.length:Int)))
def vg (io:List Field):Nat->(List (List UInt8))->Int->Option (List (List UInt8))
 | 0,_,_=>none
 | c4+ 1,pM,p6=>
   cond (decide (p6 <(io.length:Int))) ((idx io p6).bind fun qm=>
   (ej 16 pM [qm.Name]).bind fun Ml=>
   vg io c4 Ml (ap (p6+ 1))) (some pM)
def vh (fh:aN):Nat->(List (List UInt8))->Int->Option (List (List UInt8))
 | 0,_,_=>none
 | eB+ 1,pO,p7=>
   cond (decide (p7 <(fh.aR.length:Int))) ((idx fh.aR p7).bind fun hT=>
   (ej 16 pO [hT.Name]).bind fun Mm=>
   vh fh eB Mm (ap (p7+ 1))) (some pO)
def yl (F:Nat) (x_:df):Nat->Int->Option (Way (Int) (Unit))
 | 0,_=>none
 | bu+ 1,iU=>
   cond (decide (iU <(x_.l.length:Int))) (ed (α:=Unit) ((idx x_.l iU).bind fun fh=>
   (yg F (⟨x_.l,x_.cH,x_.b1⟩:df) iU).bind fun io=>
   Option.bind (α:=List (List UInt8)) (vg io F [] 0) fun (kC:List (List UInt8))=>
   Option.bind (α:=List (List UInt8)) (vh fh F [] 0) fun (sE:List (List UInt8))=>
   (Dc F kC).bind fun M9=>
   cond (M9) (some (.out 6)) ((Dc F sE).bind fun Xx=>
   cond (Xx) (some (.out 6)) (some (.go ())))) fun (_:Unit)=>
   yl F x_ bu (ap (iU+ 1))) (some (.go ()))
def H2 (F:Nat) (x_:df):Option (Int):=
 dw (α:=Unit) (yl F x_ F 0) fun (_:Unit)=>
 some 0
def AW (b8:List Kind) (cp:List Kind):Nat->Int->Option (Way (Bool) (Unit))
 | 0,_=>none
 | bu+ 1,cf=>
   cond (decide (cf <(b8.length:Int))) ((idx b8 cf).bind fun fk=>
   (idx cp cf).bind fun fu=>
   cond (!decide (fk=fu)) (some (.out false)) (AW b8 cp bu (ap (cf+ 1)))) (some (.go ()))
def IB (F:Nat) (b8:List Kind) (cp:List Kind):Option (Bool):=
 cond (!decide ((b8.length:Int)=(cp.length:Int))) (some false) (dw (α:=Unit) (AW b8 cp F 0) fun (_:Unit)=>
 some true)
def Mu (F:Nat) (a_:Method) (b_:Method):Option (Bool):=
 cond ((!a_.Static) && (!b_.Static)) ((IB F a_.bD b_.bD).bind fun c2=>
 cond (c2) (some (decide ((⟨a_.Returns.Kind,a_.Returns.aN⟩:Kind)=(⟨b_.Returns.Kind,b_.Returns.aN⟩:Kind)))) (some false)) (some false)
def vf (F:Nat) (dz:Method) (jX:aN):Nat->Int->Option (Way (Int) (Unit))
 | 0,_=>none
 | fB+ 1,mX=>
   cond (decide (mX <(jX.aR.length:Int))) ((idx jX.aR mX).bind fun eU=>
   cond (decide (dz.Name=eU.Name)) ((Mu F (⟨dz.Name,dz.Static,dz.bD,(⟨dz.Returns.Kind,dz.Returns.aN⟩:Kind),dz.cT,dz.cS,dz.Code,dz.bH⟩:Method) (⟨eU.Name,eU.Static,eU.bD,(⟨eU.Returns.Kind,eU.Returns.aN⟩:Kind),eU.cT,eU.cS,eU.Code,eU.bH⟩:Method)).bind fun Xb=>
   cond (!Xb) (some (.out 4)) (vf F dz jX fB (ap (mX+ 1)))) (vf F dz jX fB (ap (mX+ 1)))) (some (.go ()))
def yk (F:Nat) (x_:df) (dr:aN) (o_:Int):Nat->Int->Option (Way (Int) (Unit))
 | 0,_=>none
 | eB+ 1,mW=>
   cond (decide (mW <(dr.aR.length:Int))) (ed (α:=Unit) ((idx dr.aR mW).bind fun dz=>
   (idx x_.l o_).bind fun jX=>
   ed (α:=Unit) (vf F dz jX F 0) fun (_:Unit)=>
   some (.go ())) fun (_:Unit)=>
   yk F x_ dr o_ eB (ap (mW+ 1))) (some (.go ()))
def yj (F:Nat) (x_:df) (dr:aN) (g3:List Int):Nat->Int->Option (Way (Int) (Unit))
 | 0,_=>none
 | c4+ 1,kH=>
   cond (decide (kH <(g3.length:Int))) (ed (α:=Unit) ((idx g3 kH).bind fun o_=>
   ed (α:=Unit) (yk F x_ dr o_ F 0) fun (_:Unit)=>
   some (.go ())) fun (_:Unit)=>
   yj F x_ dr g3 c4 (ap (kH+ 1))) (some (.go ()))
def yi (F:Nat) (x_:df):Nat->Int->Option (Way (Int) (Unit))
 | 0,_=>none
 | bu+ 1,hQ=>
   cond (decide (hQ <(x_.l.length:Int))) (ed (α:=Unit) ((idx x_.l hQ).bind fun dr=>
   (vb F (⟨x_.l,x_.cH,x_.b1⟩:df) hQ).bind fun o5=>
   (cut o5 1 (o5.length:Int)).bind fun g3=>
   ed (α:=Unit) (yj F x_ dr g3 F 0) fun (_:Unit)=>
   some (.go ())) fun (_:Unit)=>
   yi F x_ bu (ap (hQ+ 1))) (some (.go ()))
def H0 (F:Nat) (x_:df):Option (Int):=
 dw (α:=Unit) (yi F x_ F 0) fun (_:Unit)=>
 some 0
end J
namespace Go.Proofs.YtpkhpagplommoaaGreat
open Go Go.RowKit a2
set_option maxHeartbeats 4000000
set_option maxRecDepth 20000
theorem aje {W:World} {X:List Nat} {F:Nat} {x_:J.df} {r:Int × J.df} {a8:Nat} {bg:aS} {bq:Nat} {b':Nat} {aT:aS} {aV:Nat} {M0:List Nat} (hm:au W M0 X W [aq.map du (Value.int .i64) b' x_.cH] [al.cU a8 [.q bg bq x_.l,.map (some b'),.q aT aV x_.b1],U J.bd bg bq x_.l,U (aj .i64) aT aV x_.b1]) (h:J.Da F x_=some r) :
 Calls Tryz.prog 75 [.aL a8].toArray W (fun e aD=>e= .returned (.i r.1)/\au W M0 X aD [aq.map du (Value.int .i64) b' r.2.cH] []):=by
 refine enter Tryz.func75 rfl Tryz.ntmps75 rfl fun a I=>?_;rw [J.Da] at h;refine bc [] [] I fun a I=>wp_seq_k fun K bI=>wp_seq_k fun K ca=>eI [0,0] [(14,.q bg bq x_.l),(15,.i (x_.l.length:Int)),(16,.i 0)] [a8,0] (aw (hm.d 0 rfl).2.2 ax) I fun a I=>ca _ _ ?_;obtain ⟨rj,h,ra⟩:=J.ef h
 refine cb (fun a w=>∃ (pW:List ((List UInt8) × Int)),Fr ⟨62,[]⟩ [(0,.aL a8)] a/\au W M0 X w [aq.map du (Value.int .i64) b' pW] [al.cU a8 [.q bg bq x_.l,.map (some b'),.q aT aV x_.b1],U J.bd bg bq x_.l,U (aj .i64) aT aV x_.b1]/\rj=(.go pW)) (fun K cY=>?_) ?_
 · refine cA (fun (bu:Nat) a w=>∃ (jJ:List ((List UInt8) × Int)) (kK:Int),Fr ⟨62,[]⟩ [(0,.aL a8),(14,.q bg bq x_.l),(15,.i (x_.l.length:Int)),(16,.i kK)] a/\au W M0 X w [aq.map du (Value.int .i64) b' jJ] [al.cU a8 [.q bg bq x_.l,.map (some b'),.q aT aV x_.b1],U J.bd bg bq x_.l,U (aj .i64) aT aV x_.b1]/\J.rr x_ bu jJ kK=some rj) F ⟨x_.cH,0,I.cut,hm,h⟩ ?_ ?_
   · rintro a w ⟨jJ,kK,I,hm,h⟩;exact absurd h (by simp [J.rr])
   rintro bu a w ⟨jJ,kK,I,hm,h⟩ K cu;rw [J.rr] at h;refine bc [] [(17,.bool (decide (kK <(x_.l.length:Int))))] I fun a I=>wp_seq_k fun K dt=>bi (I.g rfl) h (fun aru h=>?_) (fun aru h=>?_)
   · refine wp_skip <| dt _ _ <| wp_seq_k fun K cO=>wp_block <| wp_seq_k fun K dp=>aY <| aP 1 [] [(18,.i kK)] I fun a I=>?_;obtain ⟨kN,aEi,h⟩:=J.aF h;obtain ⟨anE,ayt,_,⟨BN,Cu,l_,mh,rfl,RS,auk⟩,aud⟩:=bZ _ (hm.d 1 rfl) aEi;have hm:=hm.more (y:=U J.aX BN Cu kN.Fields) RS;have hm:=hm.more (y:=U J.b2 l_ mh kN.aR) auk;refine bQ wn (bF Tryz.underlying25 Tryz.sizeOf136 rfl (I.g rfl) (I.g rfl) anE ayt) I rfl rfl fun a I=>?_
     refine bf 1 [0,0] [(20,.agg #[ao kN.Name,ao kN.bW,.q BN Cu kN.Fields,.q l_ mh kN.aR])] [bG bg,bJ bg+(kK).toNat* 4] (aw aud ax) I fun a I=>cy (cs:=[ao [],ao [],.slice none 0 0,.slice none 0 0]) wn (eJ Tryz.zeroValue136 rfl rfl) I hm rfl rfl fun a acs w _ I hm=>aP 1 [] [(3,.i kK)] I fun a I=>cx (vs:=[ao kN.Name,ao kN.bW,.q BN Cu kN.Fields,.q l_ mh kN.aR]) 0 hm rfl wn rfl Tryz.sizeOf136 rfl rfl rfl rfl (I.g rfl) (I.g rfl) rfl fun w hm=>wpList_nil <| dp _ _ ?_
     refine wp_seq_k fun K da=>wp_seq_k fun K dA=>hF (by kernel_rfl) (by kernel_rfl) <| dM 6 [0,1,1,0] [(25,.map (some b')),(27,ao kN.Name)] [acs,0,a8,1] (fun a7 ad=>(aw (b9 ad (hm.d 2 rfl).2.2) (aw (b9 ad (aZ (hm.e 0 rfl))) ax))) I fun a I=>eM wn (fun a7 ad=>Jp (K:=du) (ev:=(Value.int .i64)) Tryz.underlying120 Tryz.underlying9 Tryz.zeroValue3 (K7 ad ((hm.e 1 rfl))) rfl (I.g rfl) (I.g rfl)) I rfl rfl fun a I=>dM 5 [] [(6,.bool ((J.dv jJ kN.Name).isSome))] [] (fun a7 ad=>ax) I fun a I=>wpQuiet_nil fun w ad=>?_;have hm:=hm.dB ad;clear ad;refine dA _ _ <| wp_seq_k fun K d_=>?_
     refine ch [] [(31,.bool ((J.dv jJ kN.Name).isSome))] I fun a I=>d_ _ _ <| bi (I.g rfl) h (fun Rq h=>?_) (fun Rq h=>?_)
     · refine bt [] [(2,.i 6)] I fun a I=>wp_ret ?_;obtain rfl:=aB h;obtain rfl:=aB ra;refine ak (a6 (ak (ak (a6 (ak (ak ?_))))));refine bn Tryz.results75 I rfl ?_;exact ⟨rfl,hm.aW [1] []⟩
     refine wp_skip <| da _ _ <| hd (m:=8) 7 (a' []) (by kernel_rfl) rfl fun w ad=>?_;have hm:=hm.dB ad;clear ad;have ba:=hm;have av:=a'.refl [] w;refine cc [0,1,2,3,4,5,6] 7 [0,1,1,0] [(35,.map (some b')),(37,ao kN.Name),(38,.i kK)] [acs,0,a8,1] (fun a7 ad=>(aw (b9 ad (ba.d 2 rfl).2.2) (aw (b9 ad (aZ (ba.e 0 rfl))) ax))) I av fun a I=>cQ 7 rfl (by kernel_rfl) (fun _=>av) <| Nv (K:=du) (ev:=(Value.int .i64)) 1 hm rfl wn Tryz.underlying120 Tryz.underlying9 (.inl rfl) (I.g rfl) (I.g rfl) (I.g rfl) rfl fun w hm=>cD ?_;clear ba av;have ba:=hm;have av:=a'.refl [] w
     refine dV.next 8 (a' [] w) (by kernel_rfl) <| fm (by kernel_rfl) ?_ (fun _=>av);clear ba av;have I:=I.cut (l':=[(0,.aL a8),(14,.q bg bq x_.l),(15,.i (x_.l.length:Int)),(16,.i kK)]);refine cO _ _ <| ch [] [(16,.i (J.ap (kK+ 1)))] I fun a I=>?_;exact cu _ _ ⟨J.hI jJ kN.Name kK,J.ap (kK+ 1),I.cut,hm.aW [1] [2,3,4],h⟩
   refine wp_exit <| bx (bx (cw ?_));exact cY _ _ ⟨jJ,I.cut,hm,(os h)⟩
 rintro a w ⟨pW,I,hm,bb⟩;subst rj;have h:=ra;clear ra;dsimp only [J.dZ] at h;refine bI _ _ <| wp_seq_k fun K fx=>aY <| bf 4 [0,1] [(44,.map (some b'))] [a8,1] (aw (hm.d 0 rfl).2.2 ax) I fun a I=>bQ wn (Jp (K:=du) (ev:=(Value.int .i64)) Tryz.underlying120 Tryz.underlying9 Tryz.zeroValue3 ((hm.e 0 rfl)) rfl (I.g rfl) (cW _ _)) I rfl rfl fun a I=>aP 5 [] [(8,.bool ((J.dv pW [79,98,106,101,99,116]).isSome))] I fun a I=>wpList_nil (fx _ _ ?_);refine wp_seq_k fun K fi=>aY <| bf 4 [0,1] [(52,.map (some b'))] [a8,1] (aw (hm.d 0 rfl).2.2 ax) I fun a I=>?_
 refine bQ wn (Jp (K:=du) (ev:=(Value.int .i64)) Tryz.underlying120 Tryz.underlying9 Tryz.zeroValue3 ((hm.e 0 rfl)) rfl (I.g rfl) (cW _ _)) I rfl rfl fun a I=>aP 5 [] [(10,.bool ((J.dv pW [69,114,114,111,114]).isSome))] I fun a I=>wpList_nil (fi _ _ ?_);refine wp_seq_k fun K gA=>bt [0,0,0] [(61,.bool ((!((J.dv pW [79,98,106,101,99,116]).isSome)) || (!((J.dv pW [69,114,114,111,114]).isSome))))] I fun a I=>bi (I.g rfl) h (fun Rr h=>?_) (fun Rr h=>?_)
 · refine bt [] [(2,.i 5)] I fun a I=>wp_ret ?_;obtain rfl:=aB h;refine ak <| bn Tryz.results75 I rfl ?_;exact ⟨rfl,hm.aW [0] []⟩
 refine wp_skip <| gA _ _ <| bt [] [(2,.i 0)] I fun a I=>wp_ret ?_;obtain rfl:=aB h;refine bn Tryz.results75 I rfl ?_;exact ⟨rfl,hm.aW [0] []⟩
theorem ajb {W:World} {X:List Nat} {F:Nat} {x_:J.df} {r:Int × J.df} {a8:Nat} {bg:aS} {bq:Nat} {b':Nat} {aT:aS} {aV:Nat} {qp:List Value} {M0:List Nat} (hm:au W M0 X W [aq.bm a8 122 [.q bg bq x_.l,.map (some b'),.q aT aV x_.b1],aq.row 3 1 (.q aT aV x_.b1) x_.b1 qp] [U J.bd bg bq x_.l,al.map du (Value.int .i64) b' x_.cH,al.rows (aj .i64) qp x_.b1]) (h:J.Mv F x_=some r) :
 Calls Tryz.prog 76 [.aL a8].toArray W (fun e aD=>∃ Y9:Option Addr,∃ aaz:Nat,∃ agM:List Value,e= .returned (.i r.1)/\au W M0 X aD [aq.bm a8 122 [.q bg bq x_.l,.map (some b'),.q Y9 aaz r.2.b1],aq.row 3 1 (.q Y9 aaz r.2.b1) r.2.b1 agM] [al.rows (aj .i64) agM r.2.b1]):=by
 refine enter Tryz.func76 rfl Tryz.ntmps76 rfl fun a I=>?_;rw [J.Mv] at h;refine bc [] [] I fun a I=>wp_seq_k fun K bI=>wp_seq_k fun K ca=>eI [0,0] [(14,.q bg bq x_.l),(15,.i (x_.l.length:Int)),(16,.i 0)] [a8,0] (aw (aZ (hm.e 0 rfl)) ax) I fun a I=>ca _ _ ?_;obtain ⟨VW,h,Tt⟩:=J.ef h
 refine cb (fun a w=>Fr ⟨94,[]⟩ [(0,.aL a8)] a/\au W M0 X w [aq.bm a8 122 [.q bg bq x_.l,.map (some b'),.q aT aV x_.b1],aq.row 3 1 (.q aT aV x_.b1) x_.b1 qp] [U J.bd bg bq x_.l,al.map du (Value.int .i64) b' x_.cH,al.rows (aj .i64) qp x_.b1]/\VW=(.go ())) (fun K cY=>?_) ?_
 · refine cA (fun (bu:Nat) a w=>∃ (p_:Int),Fr ⟨94,[]⟩ [(0,.aL a8),(14,.q bg bq x_.l),(15,.i (x_.l.length:Int)),(16,.i p_)] a/\au W M0 X w [aq.bm a8 122 [.q bg bq x_.l,.map (some b'),.q aT aV x_.b1],aq.row 3 1 (.q aT aV x_.b1) x_.b1 qp] [U J.bd bg bq x_.l,al.map du (Value.int .i64) b' x_.cH,al.rows (aj .i64) qp x_.b1]/\J.u' x_ bu p_=some VW) F ⟨0,I.cut,hm,h⟩ ?_ ?_
   · rintro a w ⟨p_,I,hm,h⟩;exact absurd h (by simp [J.u'])
   rintro bu a w ⟨p_,I,hm,h⟩ K cu;rw [J.u'] at h;refine bc [] [(17,.bool (decide (p_ <(x_.l.length:Int))))] I fun a I=>wp_seq_k fun K dt=>bi (I.g rfl) h (fun aro h=>?_) (fun aro h=>?_)
   · refine wp_skip <| dt _ _ <| wp_seq_k fun K cO=>wp_block <| wp_seq_k fun K dp=>aY ?_;obtain ⟨m',aEf,h⟩:=J.aF h;obtain ⟨anB,ayq,_,⟨v',xm,PS,Qv,rfl,avH,aui⟩,aua⟩:=bZ _ (hm.d 0 rfl) aEf;have hm:=hm.more (y:=U J.aX v' xm m'.Fields) avH;have hm:=hm.more (y:=U J.b2 PS Qv m'.aR) aui;refine bQ wn (bF Tryz.underlying25 Tryz.sizeOf136 rfl (I.g rfl) (I.g rfl) anB ayq) I rfl rfl fun a I=>?_
     refine bf 1 [0,0] [(19,.agg #[ao m'.Name,ao m'.bW,.q v' xm m'.Fields,.q PS Qv m'.aR])] [bG bg,bJ bg+(p_).toNat* 4] (aw aua ax) I fun a I=>cy (cs:=[ao [],ao [],.slice none 0 0,.slice none 0 0]) wn (eJ Tryz.zeroValue136 rfl rfl) I hm rfl rfl fun a acr w _ I hm=>cx (vs:=[ao m'.Name,ao m'.bW,.q v' xm m'.Fields,.q PS Qv m'.aR]) 0 hm rfl wn rfl Tryz.sizeOf136 rfl rfl rfl rfl (I.g rfl) (I.g rfl) rfl fun w hm=>wpList_nil <| dp _ _ <| wp_seq_k fun K da=>?_
     refine eI [0,0,0,1] [(26,.bool (!((decide (m'.Name= [79,98,106,101,99,116])) == (decide (m'.bW= [])))))] [acr,1,acr,0] (aw (aZ (hm.e 0 rfl)) ax) I fun a I=>da _ _ <| bi (I.g rfl) h (fun t_ h=>?_) (fun t_ h=>?_)
     · refine bt [] [(2,.i 4)] I fun a I=>wp_ret ?_;obtain rfl:=aB h;obtain rfl:=aB Tt;refine a6 (ak (ak (a6 (ak (ak ?_)))));refine bn Tryz.results76 I rfl ?_;exact ⟨aT,aV,qp,rfl,hm.aW [1,2] [4]⟩
     refine wp_skip <| cO _ _ <| ch [] [(16,.i (J.ap (p_+ 1)))] I fun a I=>?_;exact cu _ _ ⟨J.ap (p_+ 1),I.cut,hm.aW [1,2] [2,3,4],h⟩
   refine wp_exit <| bx (bx (cw ?_));exact cY _ _ ⟨I.cut,hm,(os h)⟩
 rintro a w ⟨I,hm,bb⟩;subst VW;have h:=Tt;clear Tt;dsimp only [J.dZ] at h;refine bI _ _ <| wp_seq_k fun K d_=>wp_seq_k fun K dQ=>eI [0,0] [(31,.q bg bq x_.l),(32,.i (x_.l.length:Int)),(33,.i 0)] [a8,0] (aw (aZ (hm.e 0 rfl)) ax) I fun a I=>dQ _ _ ?_;obtain ⟨Vv,h,SY⟩:=J.ef h
 refine cb (fun a w=>∃ (jy:aS) (kx:Nat) (fs:eK) (lp:dF),Fr ⟨94,[]⟩ [(0,.aL a8)] a/\au W M0 X w [aq.bm a8 122 [.q bg bq x_.l,.map (some b'),.q jy kx fs],aq.row 3 1 (.q jy kx fs) fs lp] [al.rows (aj .i64) lp fs,U J.bd bg bq x_.l,al.map du (Value.int .i64) b' x_.cH]/\Vv=(.go fs)) (fun K fx=>?_) ?_
 · refine cA (fun (c4:Nat) a w=>∃ (qw:aS) (qP:Nat) (jp:eK) (sX:dF) (mZ:Int),Fr ⟨94,[]⟩ [(0,.aL a8),(31,.q bg bq x_.l),(32,.i (x_.l.length:Int)),(33,.i mZ)] a/\au W M0 X w [aq.bm a8 122 [.q bg bq x_.l,.map (some b'),.q qw qP jp],aq.row 3 1 (.q qw qP jp) jp sX] [al.rows (aj .i64) sX jp,U J.bd bg bq x_.l,al.map du (Value.int .i64) b' x_.cH]/\J.oO x_ c4 jp mZ=some Vv) F ⟨aT,aV,x_.b1,qp,0,I.cut,hm.ec [2,0,1],h⟩ ?_ ?_
   · rintro a w ⟨qw,qP,jp,sX,mZ,I,hm,h⟩;exact absurd h (by simp [J.oO])
   rintro c4 a w ⟨qw,qP,jp,sX,mZ,I,hm,h⟩ K fi;rw [J.oO] at h;refine bc [] [(34,.bool (decide (mZ <(x_.l.length:Int))))] I fun a I=>wp_seq_k fun K hf=>bi (I.g rfl) h (fun Rx h=>?_) (fun Rx h=>?_)
   · refine wp_skip <| hf _ _ <| wp_seq_k fun K fy=>?_;obtain ⟨aeG,h,Tm⟩:=J.e3 h;refine cb (fun a w=>∃ (JE:aS) (Kr:Nat) (rm:eK) (OV:dF),Fr ⟨94,[]⟩ [(0,.aL a8),(31,.q bg bq x_.l),(32,.i (x_.l.length:Int)),(33,.i mZ)] a/\au W M0 X w [aq.bm a8 122 [.q bg bq x_.l,.map (some b'),.q JE Kr rm],aq.row 3 1 (.q JE Kr rm) rm OV] [al.rows (aj .i64) OV rm,U J.bd bg bq x_.l,al.map du (Value.int .i64) b' x_.cH]/\aeG=(.go rm)) (fun K fO=>?_) ?_
     · refine wp_seq_k fun K fU=>aY ?_;obtain ⟨gV,aDu,h⟩:=J.aF h;obtain ⟨amI,axz,_,⟨y7,zs,y8,zt,rfl,avc,avd⟩,ath⟩:=bZ _ (hm.d 1 rfl) aDu;have hm:=hm.more (y:=U J.aX y7 zs gV.Fields) avc;have hm:=hm.more (y:=U J.b2 y8 zt gV.aR) avd;refine bQ wn (bF Tryz.underlying25 Tryz.sizeOf136 rfl (I.g rfl) (I.g rfl) amI axz) I rfl rfl fun a I=>bf 1 [0,0] [(36,.agg #[ao gV.Name,ao gV.bW,.q y7 zs gV.Fields,.q y8 zt gV.aR])] [bG bg,bJ bg+(mZ).toNat* 4] (aw ath ax) I fun a I=>?_
       refine cy (cs:=[ao [],ao [],.slice none 0 0,.slice none 0 0]) wn (eJ Tryz.zeroValue136 rfl rfl) I hm rfl rfl fun a Li w _ I hm=>cx (vs:=[ao gV.Name,ao gV.bW,.q y7 zs gV.Fields,.q y8 zt gV.aR]) 0 hm rfl wn rfl Tryz.sizeOf136 rfl rfl rfl rfl (I.g rfl) (I.g rfl) rfl fun w hm=>wpList_nil <| fU _ _ <| wp_seq_k fun K gr=>hF (by kernel_rfl) (by kernel_rfl) ?_
       refine dM 6 [0,1,1,1] [(41,.map (some b')),(43,ao gV.bW)] [Li,1,a8,1] (fun a7 ad=>(aw (b9 ad (aZ (hm.e 1 rfl))) (aw (b9 ad (aZ (hm.e 0 rfl))) ax))) I fun a I=>eM wn (fun a7 ad=>Jp (K:=du) (ev:=(Value.int .i64)) Tryz.underlying120 Tryz.underlying9 Tryz.zeroValue3 (K7 ad ((hm.d 4 rfl).2.2)) rfl (I.g rfl) (I.g rfl)) I rfl rfl fun a I=>dM 5 [] [(7,.i ((J.dv x_.cH gV.bW).getD 0)),(8,.bool ((J.dv x_.cH gV.bW).isSome))] [] (fun a7 ad=>ax) I fun a I=>wpQuiet_nil fun w ad=>?_;have hm:=hm.dB ad;clear ad;refine gr _ _ ?_;obtain ⟨aeH,h,Tq⟩:=J.e3 h
       refine qY (fun a w=>∃ (rv:Int),Fr ⟨94,[]⟩ [(0,.aL a8),(7,.i rv),(31,.q bg bq x_.l),(32,.i (x_.l.length:Int)),(33,.i mZ)] a/\au W M0 X w [aq.bm Li 136 [ao gV.Name,ao gV.bW,.q y7 zs gV.Fields,.q y8 zt gV.aR],aq.bm a8 122 [.q bg bq x_.l,.map (some b'),.q qw qP jp],aq.row 3 1 (.q qw qP jp) jp sX] [U J.b2 y8 zt gV.aR,U J.aX y7 zs gV.Fields,al.rows (aj .i64) sX jp,U J.bd bg bq x_.l,al.map du (Value.int .i64) b' x_.cH]/\aeH=(.go rv)) (fun K gN=>?_) ?_
       · obtain ⟨aeI,h,Ts⟩:=J.e3 h
         refine cb (fun a w=>∃ (Dn:Int),Fr ⟨94,[]⟩ [(0,.aL a8),(7,.i Dn),(31,.q bg bq x_.l),(32,.i (x_.l.length:Int)),(33,.i mZ)] a/\au W M0 X w [aq.bm Li 136 [ao gV.Name,ao gV.bW,.q y7 zs gV.Fields,.q y8 zt gV.aR],aq.bm a8 122 [.q bg bq x_.l,.map (some b'),.q qw qP jp],aq.row 3 1 (.q qw qP jp) jp sX] [U J.b2 y8 zt gV.aR,U J.aX y7 zs gV.Fields,al.rows (aj .i64) sX jp,U J.bd bg bq x_.l,al.map du (Value.int .i64) b' x_.cH]/\aeI=(.go Dn)) (fun K hG=>?_) ?_
         · refine wp_seq_k fun K hY=>eI [0,1] [(47,.bool (decide (gV.bW= [])))] [Li,1] (aw (aZ (hm.e 0 rfl)) ax) I fun a I=>hY _ _ <| bi (I.g rfl) h (fun aqO h=>?_) (fun aqO h=>?_)
           · refine ch [] [(7,.i (-1))] I fun a I=>?_;exact hG _ _ ⟨(-1),I.cut,hm,(os h)⟩
           refine bc [] [(51,.bool (!((J.dv x_.cH gV.bW).isSome)))] I fun a I=>bi (I.g rfl) h (fun aqP h=>?_) (fun aqP h=>?_)
           · refine bt [] [(2,.i 5)] I fun a I=>wp_ret ?_;obtain rfl:=aB h;obtain rfl:=aB Ts;obtain rfl:=aB Tq;obtain rfl:=aB Tm;obtain rfl:=aB SY;refine a6 (ak (ak (a6 (ak (ak (ak (a6 (ak (ak ?_)))))))));refine bn Tryz.results76 I rfl ?_;exact ⟨qw,qP,sX,rfl,hm.aW [1,2] [2]⟩
           refine wp_skip ?_;exact hG _ _ ⟨(J.dv x_.cH gV.bW).getD 0,I.cut,hm,(os h)⟩
         rintro a w ⟨Dn,I,hm,bb⟩;subst aeI;have h:=Ts;clear Ts;dsimp only [J.eV] at h;exact gN _ _ ⟨Dn,I.cut,hm,(os h)⟩
       rintro a w ⟨rv,I,hm,bb⟩;subst aeH;have h:=Tq;clear Tq;dsimp only [J.eV] at h;refine aY <| bf 6 [0,2] [(54,.aL a8),(58,.q qw qP jp),(59,.i rv)] [a8,2] (aw (aZ (hm.e 1 rfl)) ax) I fun a I=>gw (cs:=[.i rv]) wn (fX (vs:=[(0,.i rv)]) Tryz.underlying22 Tryz.sizeOf3 Tryz.zeroValue3 rfl rfl rfl ⟨⟨(I.g rfl),rfl⟩,trivial⟩ (by kernel_rfl)) I hm rfl rfl fun a aJY w _ I hm=>?_;obtain ⟨C_,ay9,h⟩:=J.aF h;refine iJ (T:=(aj .i64)) (ml:=[rv]) 3 0 2 hm rfl rfl rfl Tryz.underlying22 jC rfl rfl ay9 rfl rfl ⟨_,_,rfl,rfl,rfl⟩ wn rfl (I.g rfl) (I.g rfl) I rfl rfl fun a Zr aaU aHW w I hm=>?_
       refine aP 2 [] [(63,.pointer (some ⟨a8,2,none⟩))] I fun a I=>cx (vs:=[.q Zr aaU C_]) 1 hm rfl wn rfl Tryz.sizeOf22 rfl rfl rfl rfl (I.g rfl) (I.g rfl) rfl fun w hm=>wpList_nil ?_;exact fO _ _ ⟨Zr,aaU,C_,aHW,I.cut,hm.aW [1,2] [0,4,5],(os h)⟩
     rintro a w ⟨JE,Kr,rm,OV,I,hm,bb⟩;subst aeG;have h:=Tm;clear Tm;dsimp only [J.eV] at h;refine fy _ _ <| ch [] [(33,.i (J.ap (mZ+ 1)))] I fun a I=>?_;exact fi _ _ ⟨JE,Kr,rm,OV,J.ap (mZ+ 1),I.cut,hm,h⟩
   refine wp_exit <| bx (bx (cw ?_));exact fx _ _ ⟨qw,qP,jp,sX,I.cut,hm,(os h)⟩
 rintro a w ⟨jy,kx,fs,lp,I,hm,bb⟩;subst Vv;have h:=SY;clear SY;dsimp only [J.dZ] at h;refine d_ _ _ <| wp_seq_k fun K hx=>wp_seq_k fun K jz=>eI [0,0] [(69,.i (x_.l.length:Int)),(70,.i 0)] [a8,0] (aw (aZ (hm.e 0 rfl)) ax) I fun a I=>jz _ _ ?_;obtain ⟨UZ,h,Sr⟩:=J.ef h;refine cb (fun a w=>Fr ⟨94,[]⟩ [] a/\au W M0 X w [aq.bm a8 122 [.q bg bq x_.l,.map (some b'),.q jy kx fs],aq.row 3 1 (.q jy kx fs) fs lp] [al.rows (aj .i64) lp fs,U J.bd bg bq x_.l,al.map du (Value.int .i64) b' x_.cH]/\UZ=(.go ())) (fun K jk=>?_) ?_
 · refine cA (fun (eB:Nat) a w=>∃ (kF:Int),Fr ⟨94,[]⟩ [(0,.aL a8),(69,.i (x_.l.length:Int)),(70,.i kF)] a/\au W M0 X w [aq.bm a8 122 [.q bg bq x_.l,.map (some b'),.q jy kx fs],aq.row 3 1 (.q jy kx fs) fs lp] [al.rows (aj .i64) lp fs,U J.bd bg bq x_.l,al.map du (Value.int .i64) b' x_.cH]/\J.va F x_ fs eB kF=some UZ) F ⟨0,I.cut,hm,h⟩ ?_ ?_
   · rintro a w ⟨kF,I,hm,h⟩;exact absurd h (by simp [J.va])
   rintro eB a w ⟨kF,I,hm,h⟩ K mw;rw [J.va] at h;refine bc [] [(71,.bool (decide (kF <(x_.l.length:Int))))] I fun a I=>wp_seq_k fun K jB=>bi (I.g rfl) h (fun apb h=>?_) (fun apb h=>?_)
   · refine wp_skip <| jB _ _ <| wp_seq_k fun K j_=>?_;obtain ⟨aeo,h,SC⟩:=J.e3 h;refine cb (fun a w=>Fr ⟨94,[]⟩ [(0,.aL a8),(69,.i (x_.l.length:Int)),(70,.i kF)] a/\au W M0 X w [aq.bm a8 122 [.q bg bq x_.l,.map (some b'),.q jy kx fs],aq.row 3 1 (.q jy kx fs) fs lp] [al.rows (aj .i64) lp fs,U J.bd bg bq x_.l,al.map du (Value.int .i64) b' x_.cH]/\aeo=(.go ())) (fun K j'=>?_) ?_
     · refine bc [] [(9,.i kF)] I fun a I=>bc [] [(10,.i kF)] I fun a I=>?_;obtain ⟨aep,h,SE⟩:=J.aF h;refine qY (fun a w=>∃ (Dk:Int),Fr ⟨94,[]⟩ [(0,.aL a8),(10,.i Dk),(69,.i (x_.l.length:Int)),(70,.i kF)] a/\au W M0 X w [aq.bm a8 122 [.q bg bq x_.l,.map (some b'),.q jy kx fs],aq.row 3 1 (.q jy kx fs) fs lp] [al.rows (aj .i64) lp fs,U J.bd bg bq x_.l,al.map du (Value.int .i64) b' x_.cH]/\aep=Dk) (fun K lI=>?_) ?_
       · clear SE;refine wp_seq_k fun K ox=>eI [0,0] [(78,.i (x_.l.length:Int)),(79,.i 0)] [a8,0] (aw (aZ (hm.e 0 rfl)) ax) I fun a I=>ox _ _ ?_;obtain ⟨Vb,h,SG⟩:=J.aF h;refine cb (fun a w=>∃ (Dl:Int),Fr ⟨94,[]⟩ [(0,.aL a8),(10,.i Dl),(69,.i (x_.l.length:Int)),(70,.i kF)] a/\au W M0 X w [aq.bm a8 122 [.q bg bq x_.l,.map (some b'),.q jy kx fs],aq.row 3 1 (.q jy kx fs) fs lp] [al.rows (aj .i64) lp fs,U J.bd bg bq x_.l,al.map du (Value.int .i64) b' x_.cH]/\Vb=Dl) (fun K lJ=>?_) ?_
         · clear SG;refine cA (fun (fB:Nat) a w=>∃ (sJ:Int) (sK:Int),Fr ⟨94,[]⟩ [(0,.aL a8),(10,.i sJ),(69,.i (x_.l.length:Int)),(70,.i kF),(78,.i (x_.l.length:Int)),(79,.i sK)] a/\au W M0 X w [aq.bm a8 122 [.q bg bq x_.l,.map (some b'),.q jy kx fs],aq.row 3 1 (.q jy kx fs) fs lp] [al.rows (aj .i64) lp fs,U J.bd bg bq x_.l,al.map du (Value.int .i64) b' x_.cH]/\J.yf x_ fs fB sJ sK=some Vb) F ⟨kF,0,I.cut,hm,h⟩ ?_ ?_
           · rintro a w ⟨sJ,sK,I,hm,h⟩;exact absurd h (by simp [J.yf])
           rintro fB a w ⟨sJ,sK,I,hm,h⟩ K mx;rw [J.yf] at h;refine bc [] [(80,.bool (decide (sK <(x_.l.length:Int))))] I fun a I=>wp_seq_k fun K zO=>bi (I.g rfl) h (fun aps h=>?_) (fun aps h=>?_)
           · refine wp_skip <| zO _ _ <| wp_seq_k fun K my=>wp_block <| wp_seq_k fun K tS=>aY <| bf 5 [0,2] [(84,.q jy kx fs),(85,.i sJ)] [a8,2] (aw (aZ (hm.e 0 rfl)) ax) I fun a I=>?_;obtain ⟨yY,aCq,h⟩:=J.aF h;obtain ⟨alz,awq,_,rfl,ar8⟩:=gi (hm.e 1 rfl) (hm.d 0 rfl) aCq;refine bQ wn (bF Tryz.underlying22 Tryz.sizeOf3 rfl (I.g rfl) (I.g rfl) alz awq) I rfl rfl fun a I=>bf 2 [0,0] [(10,.i yY)] [bG jy,bJ jy+(sJ).toNat* 1] (aw ar8 ax) I fun a I=>wpList_nil (tS _ _ ?_);refine bc [] [(89,.bool (decide (yY < 0)))] I fun a I=>?_
             refine bi (I.g rfl) h (fun apt h=>?_) (fun apt h=>?_)
             · refine wp_exit <| aHx rfl (bx (bx (cw ?_)));exact lJ _ _ ⟨yY,I.cut,hm,(os h)⟩
             refine wp_skip <| my _ _ <| ch [] [(79,.i (J.ap (sK+ 1)))] I fun a I=>?_;exact mx _ _ ⟨yY,J.ap (sK+ 1),I.cut,hm,h⟩
           refine wp_exit <| bx (bx (cw ?_));exact lJ _ _ ⟨sJ,I.cut,hm,(os h)⟩
         rintro a w ⟨Dl,I,hm,bb⟩;subst Vb;have h:=SG;clear SG;exact lI _ _ ⟨Dl,I.cut,hm,(os h)⟩
       rintro a w ⟨Dk,I,hm,bb⟩;subst aep;have h:=SE;clear SE;refine bc [] [(92,.bool (decide (0 <=Dk)))] I fun a I=>bi (I.g rfl) h (fun apu h=>?_) (fun apu h=>?_)
       · refine bt [] [(2,.i 4)] I fun a I=>wp_ret ?_;obtain rfl:=aB h;obtain rfl:=aB SC;obtain rfl:=aB Sr;refine a6 (ak (ak (ak (a6 (ak (ak ?_))))));refine bn Tryz.results76 I rfl ?_;exact ⟨jy,kx,lp,rfl,hm.aW [0,1] [0]⟩
       refine wp_skip ?_;exact j' _ _ ⟨I.cut,hm,(os h)⟩
     rintro a w ⟨I,hm,bb⟩;subst aeo;have h:=SC;clear SC;dsimp only [J.eV] at h;refine j_ _ _ <| ch [] [(70,.i (J.ap (kF+ 1)))] I fun a I=>?_;exact mw _ _ ⟨J.ap (kF+ 1),I.cut,hm,h⟩
   refine wp_exit <| bx (bx (cw ?_));exact jk _ _ ⟨I.cut,hm,(os h)⟩
 rintro a w ⟨I,hm,bb⟩;subst UZ;have h:=Sr;clear Sr;dsimp only [J.dZ] at h;refine hx _ _ <| bt [] [(2,.i 0)] I fun a I=>wp_ret ?_;obtain rfl:=aB h;refine bn Tryz.results76 I rfl ?_;exact ⟨jy,kx,lp,rfl,hm.aW [0,1] [0]⟩
theorem QB {W:World} {X:List Nat} {F:Nat} {x_:J.df} {bY:Int} {r:List Int} {a8:Nat} {bg:aS} {bq:Nat} {b':Nat} {aT:aS} {aV:Nat} {M0:List Nat} (hm:au W M0 X W [] [al.cU a8 [.q bg bq x_.l,.map (some b'),.q aT aV x_.b1],U J.bd bg bq x_.l,al.map du (Value.int .i64) b' x_.cH,U (aj .i64) aT aV x_.b1]) (h:J.vb F x_ bY=some r) :
 Calls Tryz.prog 105 [.aL a8,.i bY].toArray W (fun e aD=>∃ YW:Option Addr,∃ aam:Nat,∃ agH:List Value,e= .returned (.q YW aam r)/\au W M0 X aD [aq.row 3 1 (.q YW aam r) r agH] [al.rows (aj .i64) agH r]):=by
 refine enter Tryz.func105 rfl Tryz.ntmps105 rfl fun a I=>?_;rw [J.vb] at h;refine bc [] [] I fun a I=>bc [] [(5,.slice none 0 0)] I fun a I=>wp_seq_k fun K ca=>?_;have hm:=hm.cV (α:=Int) 3 1;have hm:=hm.more (y:=al.rows (aj .i64) [] []) rfl;obtain ⟨UX,h,Sp⟩:=J.aF h
 refine cb (fun a w=>∃ (Ed:aS) (E8:Nat) (uC:eK) (OB:dF),Fr ⟨20,[]⟩ [(5,.q Ed E8 uC)] a/\au W M0 X w [aq.row 3 1 (.q Ed E8 uC) uC OB] [al.rows (aj .i64) OB uC,al.cU a8 [.q bg bq x_.l,.map (some b'),.q aT aV x_.b1],U J.bd bg bq x_.l,al.map du (Value.int .i64) b' x_.cH,U (aj .i64) aT aV x_.b1]/\UX=uC) (fun K cY=>?_) ?_
 · clear Sp;refine cA (fun (bu:Nat) a w=>∃ (jf:aS) (jh:Nat) (py:eK) (I7:dF) (mU:Int),Fr ⟨20,[]⟩ [(0,.aL a8),(1,.i mU),(5,.q jf jh py)] a/\au W M0 X w [aq.row 3 1 (.q jf jh py) py I7] [al.rows (aj .i64) I7 py,al.cU a8 [.q bg bq x_.l,.map (some b'),.q aT aV x_.b1],U J.bd bg bq x_.l,al.map du (Value.int .i64) b' x_.cH,U (aj .i64) aT aV x_.b1]/\J.vd x_ bu py mU=some UX) F ⟨none,0,[],[],bY,I.cut,hm,h⟩ ?_ ?_
   · rintro a w ⟨jf,jh,py,I7,mU,I,hm,h⟩;exact absurd h (by simp [J.vd])
   rintro bu a w ⟨jf,jh,py,I7,mU,I,hm,h⟩ K cu;rw [J.vd] at h;refine wp_seq_k fun K dL=>bc [] [(7,.bool (decide (0 <=mU)))] I fun a I=>bi (I.g rfl) h (fun ao7 h=>?_) (fun ao7 h=>?_)
   · refine wp_skip <| dL _ _ <| wp_seq_k fun K cO=>wp_block <| aY <| aP 2 [] [(15,.q jf jh py),(16,.i mU)] I fun a I=>gw (cs:=[.i mU]) wn (fX (vs:=[(0,.i mU)]) Tryz.underlying22 Tryz.sizeOf3 Tryz.zeroValue3 rfl rfl rfl ⟨⟨(I.g rfl),rfl⟩,trivial⟩ (by kernel_rfl)) I hm rfl rfl fun a aJM w _ I hm=>?_;obtain ⟨HW,ayJ,h⟩:=J.aF h;refine iJ (T:=(aj .i64)) (ml:=[mU]) 1 0 0 hm rfl rfl rfl Tryz.underlying22 jC rfl rfl ayJ rfl rfl ⟨_,_,rfl,rfl,rfl⟩ wn rfl (I.g rfl) (I.g rfl) I rfl rfl fun a YU aaj aHE w I hm=>?_
     refine aP 1 [] [(5,.q YU aaj HW)] I fun a I=>wpList_nil (cO _ _ ?_);refine aY <| bf 5 [0,2] [(11,.q aT aV x_.b1),(12,.i mU)] [a8,2] (aw (hm.d 2 rfl).2.2 ax) I fun a I=>?_;obtain ⟨gT,UE,h⟩:=J.aF h;obtain ⟨Q5,Sd,_,rfl,RK⟩:=bZ _ (hm.d 5 rfl) UE;refine bQ wn (bF Tryz.underlying22 Tryz.sizeOf3 rfl (I.g rfl) (I.g rfl) Q5 Sd) I rfl rfl fun a I=>bf 2 [0,0] [(1,.i gT)] [bG aT,bJ aT+(mU).toNat* 1] (aw RK ax) I fun a I=>wpList_nil ?_;exact cu _ _ ⟨YU,aaj,HW,aHE,gT,I.cut,hm.ec [0,2,3,4,5],h⟩
   refine wp_exit <| bx (bx (cw ?_));exact cY _ _ ⟨jf,jh,py,I7,I.cut,hm,(os h)⟩
 rintro a w ⟨Ed,E8,uC,OB,I,hm,bb⟩;subst UX;have h:=Sp;clear Sp;refine ca _ _ <| bt [] [(4,.q Ed E8 uC)] I fun a I=>wp_ret ?_;obtain rfl:=aB h;refine bn Tryz.results105 I rfl ?_;exact ⟨Ed,E8,OB,rfl,hm.aW [0] [0]⟩
theorem abF {W:World} {X:List Nat} {s_:List Int} {r:Unit} {ag:aS} {ah:Nat} {M0:List Nat} (hm:au W M0 X W [] [U (aj .i64) ag ah s_]) (h:J.Iv s_=some r) :
 Calls Tryz.prog 107 [.q ag ah s_].toArray W (fun e aD=>∃ g:Nat,e= .returned (.func (.func 134) #[] #[.aL g])/\au W M0 X aD [aq.bm g 22 [.q ag ah s_]] []):=by
 refine enter Tryz.func107 rfl Tryz.ntmps107 rfl fun a I=>?_;clear h;refine wp_seq_k fun K cZ=>aY <| cy (cs:=[.q ag ah s_]) wn (ei rfl rfl (I.g rfl)) I hm rfl rfl fun a fN w _ I hm=>aP 1 [] [] I fun a I=>wpList_nil (cZ _ _ ?_);refine bt [] [(2,.func (.func 134) #[] #[.aL fN])] I fun a I=>wp_ret <| bn Tryz.results107 I rfl ?_;exact ⟨fN,rfl,hm.aW [0] []⟩
theorem abC:ZR Tryz.prog 134 :=by
 intro lx jI A c j9 L iK a5 hy bE
 refine akb (vs:=[.func (.yield L) #[] #[],.aL j9]) Tryz.func134 rfl Tryz.ntmps134 rfl (by rintro w ⟨⟨v,h⟩,_⟩;cases h) ?_
 intro a I
 obtain ⟨W,M0,X,E,hm⟩:=a5 _ _ bE
 have hlen:jI.length<=maxLen:=by
  obtain ⟨jx,dR,bO,b4,eu,_⟩:=(hm.d 1 rfl:(aH (aj .i64)).rd _ _ _ _)
  omega
 refine m9 ?_
 intro K cZ
 refine o9 (by kernel_rfl) ?_
 refine g' 4 [0,1,3] [0,0] (fr':=[(0,.func (.yield L) #[] #[]),(1,.aL j9),(3,.i (J.ap ((jI.length:Int) - 1)))]) (L:=[j9,0]) nu (aw (hm.d 0 rfl).2.2 ax) I (by kernel_rfl) ?_
 intro a I
 rw [agh hlen] at I
 refine wpList_nil ?_
 refine cZ _ _ ?_
 refine Yl ?_
 refine agq (fun k a w=>∃ (rem:eK),k=rem.length+ 1 /\(∃ pre,jI=rem.reverse++pre)/\Fr ⟨19,[]⟩ [(0,.func (.yield L) #[] #[]),(1,.aL j9),(3,.i ((rem.length:Int) - 1))] a/\lx rem w) (jI.length+ 1) ⟨jI.reverse,by simp,⟨[],by simp⟩,by rw [List.length_reverse];exact I,bE⟩ (by rintro a w ⟨rem,h,_⟩;omega) ?_
 rintro k a w ⟨rem,bh,⟨pre,HD⟩,I,zN⟩ K hs
 refine m9 ?_
 intro aI8 bI
 refine m9 ?_
 intro aI9 ca
 refine o9 (by kernel_rfl) ?_
 refine g' 2 [0,1,3,8] [] (fr':=[(0,.func (.yield L) #[] #[]),(1,.aL j9),(3,.i ((rem.length:Int) - 1)),(8,.bool (decide (0 <=(rem.length:Int) - 1)))]) (L:=[]) nu ax I (by kernel_rfl) ?_
 intro a I
 refine wpList_nil ?_
 refine ca _ _ ?_
 refine Yn (I.g rfl) (fun a1=>?_) (fun a1=>?_)
 · have a1:=of_decide_eq_true a1
   match rem,a1,HD,I,zN,bh with
   | x::rem,_,HD,I,zN,bh=>
   have ai:=aEx HD
   have e:((x::rem).length:Int) - 1 =(rem.length:Int):=by simp
   rw [e] at I
   refine NE ?_
   refine bI _ _ ?_
   refine m9 ?_
   intro aI_ cY
   refine Yl ?_
   refine m9 ?_
   intro aI' cu
   refine aHv fun gu=>?_
   refine aE8 6 (by kernel_rfl) ?_
   obtain ⟨W,M0,X,E,hm⟩:=a5 _ _ zN
   refine g' 4 [0,1,3,11,12,13,14] [0,0] (fr':=[(0,.func (.yield L) #[] #[]),(1,.aL j9),(3,.i (rem.length:Int)),(11,.func (.yield L) #[] #[]),(12,.i (rem.length:Int)),(13,.q A c jI),(14,.i (rem.length:Int))]) (L:=[j9,0]) nu (aw (hm.d 0 rfl).2.2 ax) I (by kernel_rfl) ?_
   intro a I
   obtain ⟨gL,hi,_,rfl,hc⟩:=bZ _ (hm.d 1 rfl) ai
   refine bQ wn (bF Tryz.underlying22 Tryz.sizeOf3 rfl (I.g rfl) (I.g rfl) gL hi) I rfl rfl ?_
   intro a I
   refine g' 1 [0,1,3,11,12,16] [0,0] (fr':=[(0,.func (.yield L) #[] #[]),(1,.aL j9),(3,.i (rem.length:Int)),(11,.func (.yield L) #[] #[]),(12,.i (rem.length:Int)),(16,.i x)]) (L:=[bG A,bJ A+(rem.length:Int).toNat* 1]) nu (aw hc ax) I (by kernel_rfl) ?_
   intro a I
   refine wpList_nil ?_
   refine aIV (vs:=[.i (rem.length:Int),.i x]) wn rfl (I.g rfl) ⟨I.g rfl,I.g rfl,trivial⟩ (hy x rem _ zN) I rfl rfl ?_
   rintro _ w ⟨rfl,zN⟩
   refine ⟨_,rfl,fun a I=>?_⟩
   refine Mx gu (by kernel_rfl) ?_
   refine g' 1 [0,1,3,18] [] (fr':=[(0,.func (.yield L) #[] #[]),(1,.aL j9),(3,.i (rem.length:Int)),(18,.bool false)]) (L:=[]) nu ax I (by kernel_rfl) ?_
   intro a I
   refine wpList_nil ?_
   refine cu _ _ ?_
   refine aHu (I.g rfl) rfl ?_
   refine NE ?_
   refine cY _ _ ?_
   refine o9 (by kernel_rfl) ?_
   refine g' 3 [0,1,3] [] (fr':=[(0,.func (.yield L) #[] #[]),(1,.aL j9),(3,.i (J.ap ((rem.length:Int) - 1)))]) (L:=[]) nu ax I (by kernel_rfl) ?_
   intro a I
   have hle:rem.length<=maxLen:=by
    have:=congrArg List.length HD
    simp at this
    omega
   rw [agh hle] at I
   refine wpList_nil ?_
   exact hs _ _ ⟨rem,by simpa using bh,⟨x::pre,by rw [HD];simp⟩,I,zN⟩
 · have a1:=of_decide_eq_false a1
   have bU:rem= []:=by
    cases rem with
    | nil=>rfl
    | cons x r=>exact absurd a1 (by simp)
   subst bU
   refine Yo ?_
   refine bx ?_
   refine bx ?_
   refine cw ?_
   refine zq ?_
   refine AU Tryz.results134 I ?_
   exact ⟨⟨_,rfl⟩,zN⟩
theorem QC {W:World} {X:List Nat} {F:Nat} {x_:J.df} {bY:Int} {r:List J.Field} {a8:Nat} {bg:aS} {bq:Nat} {b':Nat} {aT:aS} {aV:Nat} {M0:List Nat} (hm:au W M0 X W [] [al.cU a8 [.q bg bq x_.l,.map (some b'),.q aT aV x_.b1],U J.bd bg bq x_.l,al.map du (Value.int .i64) b' x_.cH,U (aj .i64) aT aV x_.b1]) (h:J.yg F x_ bY=some r) :
 Calls Tryz.prog 82 [.aL a8,.i bY].toArray W (fun e aD=>∃ BN:Option Addr,∃ Cu:Nat,∃ agz:List Value,e= .returned (.q BN Cu r)/\au W M0 X aD [aq.row 105 3 (.q BN Cu r) r agz] [al.rows J.aX agz r]):=by
 refine ab9 Tryz.func82 rfl Tryz.ntmps82 rfl fun a I=>?_;rw [J.yg] at h;refine wp_seq_k fun K cZ=>aY <| cy (cs:=[.aL a8]) wn (ei rfl rfl (I.g rfl)) I hm rfl rfl fun a dc w _ I hm=>aP 1 [] [] I fun a I=>wpList_nil (cZ _ _ ?_);refine wp_seq_k fun K bI=>aY <| cy (cs:=[.slice none 0 0]) wn (eJ Tryz.zeroValue106 rfl rfl) I hm rfl rfl fun a hr w _ I hm=>wpList_nil <| bI _ _ <| wp_seq_k fun K ca=>wp_seq_k fun K cY=>aY ?_
 refine bf 2 [0,0] [(8,.aL a8),(9,.i bY)] [dc,0] (aw (aZ (hm.e 1 rfl)) ax) I fun a I=>?_;obtain ⟨rG,Ug,h⟩:=J.aF h;have hc:=hm;refine bP (vs:=[.aL a8,.i bY]) wn rfl Tryz.call105 ⟨(I.g rfl),(I.g rfl),trivial⟩ (QB ((hc.into 0).pick ⟨⟨0,rfl⟩,⟨1,rfl⟩,⟨2,rfl⟩,⟨3,rfl⟩,trivial⟩) Ug) I rfl rfl ?_;rintro _ w ⟨bB,bC,D1,rfl,af⟩;refine ⟨_,rfl,fun a I=>?_⟩;have hm:=hc.back 0 af;clear af hc;obtain ⟨Ij,Uh,h⟩:=J.aF h;have hc:=hm;have az:=hc.freeze 0 0 rfl rfl
 refine bP (vs:=[.q bB bC rG]) wn rfl Tryz.call107 ⟨(I.g rfl),trivial⟩ (abF ((az.into 0).pick ⟨⟨0,rfl⟩,trivial⟩) Uh) I rfl rfl ?_;rintro _ w ⟨cR,rfl,af⟩;refine ⟨_,rfl,fun a I=>?_⟩;have ad:a' [] _ w:=af.ev;have hm:=hc.gl 0 (by exact trivial) af;clear af hc az;clear ad;refine wpList_nil ?_;have I:=I.cut (l':=[(2,.aL dc),(5,.aL hr),(11,.func (.func 134) #[] #[.aL cR])]);refine cY _ _ <| wp_block ?_;have hm:=hm.freeze 1 0 rfl rfl;have hm:=hm.lC 0 rfl;have hm:=hm.cV (α:=J.Field) 105 3
 have hm:=hm.more (y:=al.rows J.aX [] []) rfl;obtain ⟨aEQ,TZ,h⟩:=J.aF h
 refine abq (c:=bC) (A:=bB) (β:=(Option Addr) × (Nat) × (List J.Field) × (List Value)) (l1:=fun _ yX=>[(2,.aL dc),(5,.aL hr),(7,.i yX)]) (fun ((mc,mn,k8,Bk):(Option Addr) × (Nat) × (List J.Field) × (List Value))=>[aq.row 105 3 (.q mc mn k8) k8 Bk,aq.bm hr 106 [.q mc mn k8],aq.bm dc 118 [.aL a8]]) (fun ((mc,mn,k8,Bk):(Option Addr) × (Nat) × (List J.Field) × (List Value))=>[al.rows J.aX Bk k8,al.cU cR [.q bB bC rG],U (aj .i64) bB bC rG,al.cU a8 [.q bg bq x_.l,.map (some b'),.q aT aV x_.b1],U J.bd bg bq x_.l,al.map du (Value.int .i64) b' x_.cH,U (aj .i64) aT aV x_.b1]) (fun (Ng:eK) ((mc,mn,k8,Bk):(Option Addr) × (Nat) × (List J.Field) × (List Value))=>J.yh x_ Ng k8=some aEQ) rG (none,0,[],[]) 1 2 abC Tryz.call134 I rfl rfl rfl (hm.ec [0,1,2,4,5,6,7]) TZ (fun b=>by obtain ⟨_,_,_,_⟩:=b;rfl) (fun b=>by obtain ⟨_,_,_,_⟩:=b;rfl) ?_ ?_ ?_
 · clear h TZ hm I;intro L aEv yX w a K I hs;refine o9 (by kernel_rfl) <| aP 1 [] [(7,.i yX)] I fun a I=>wpList_nil ?_;exact hs _ I.cut
 · clear h TZ hm I;intro L j8 qd kX qf b aEv yX Ng w a K h I hm hs;obtain ⟨mc,mn,k8,Bk⟩:=b;dsimp only at h hm;rw [J.yh] at h;refine Yl <| agp (m:=11) 9 (a' []) (by kernel_rfl) rfl (by kernel_rfl) fun w ad=>?_;have hm:=hm.dB ad;clear ad;have ba:=hm;have av:=a'.refl [] w;refine cc [0,1,2,3,4,5] 6 [0,0,1,0,2,0] [(14,.q mc mn k8),(18,.q bg bq x_.l),(19,.i yX)] [a8,0,dc,0,hr,0] (fun a7 ad=>(aw (b9 ad (aZ (ba.e 3 rfl))) (aw (b9 ad (aZ (ba.e 4 rfl))) (aw (b9 ad (ba.d 3 rfl).2.2) ax)))) I av fun a I=>?_;obtain ⟨y0,aD5,h⟩:=J.aF h
   obtain ⟨ano,aye,_,⟨tb,tI,ZJ,abg,rfl,Ls,adg⟩,atZ⟩:=bZ _ (ba.d 4 rfl) aD5;have ba:=ba.more (y:=U J.aX tb tI y0.Fields) Ls;have hm:=hm.more (y:=U J.aX tb tI y0.Fields) Ls;have ba:=ba.more (y:=U J.b2 ZJ abg y0.aR) adg;have hm:=hm.more (y:=U J.b2 ZJ abg y0.aR) adg;refine eR 6 rfl (by kernel_rfl) wn (fun a7=>bF Tryz.underlying25 Tryz.sizeOf136 rfl (I.g rfl) (I.g rfl) ano aye) av I rfl rfl fun a I=>?_
   refine cc [7,8] 2 [0,2] [(22,.q tb tI y0.Fields)] [bG bg,bJ bg+(yX).toNat* 4 + 2] (fun a7 ad=>(aw (b9 ad atZ) ax)) I av fun a I=>cQ 9 rfl (by kernel_rfl) (fun _=>av) ?_;obtain ⟨Mt,azj,h⟩:=J.aF h;refine nM (T:=J.aX) 2 2 1 hm rfl rfl rfl Tryz.underlying106 UN rfl rfl azj rfl wn rfl (I.g rfl) (I.g rfl) I rfl rfl fun a v' xm ag2 w I hm=>cD ?_;clear ba av;have ba:=hm;have av:=a'.refl [] w;refine dV.next 10 (a' [] w) (by kernel_rfl) <| cQ 10 rfl (by kernel_rfl) (fun _=>av) ?_
   refine cx (vs:=[.q v' xm Mt]) 3 hm rfl wn rfl Tryz.sizeOf106 rfl rfl rfl rfl (I.g rfl) (I.g rfl) rfl fun w hm=>cD ?_;clear ba av;have ba:=hm;have av:=a'.refl [] w;refine dV.next 11 (a' [] w) (by kernel_rfl) <| fm (by kernel_rfl) ?_ (fun _=>av);clear ba av;have I:=I.cut (l':=[]);exact hs (v',xm,Mt,ag2) _ _ h (hm.ec [0,4,5,6,7,8,9])
 clear hm I;intro aJ5 b a w T0 I hm;obtain ⟨mc,mn,k8,Bk⟩:=b;dsimp only at T0 hm;rw [J.yh] at T0;obtain rfl:=aB T0;have I:=I.cut (l':=[(5,.aL hr)]);refine ca _ _ <| wp_seq_k fun K cu=>rg [0,0] [(4,.q mc mn k8)] [hr,0] (aw (aZ (hm.e 2 rfl)) ax) I fun a I=>cu _ _ <| wp_ret ?_;obtain rfl:=aB h;refine aFb 0 Tryz.results82 I hm rfl rfl fun w hm=>?_;exact ⟨mc,mn,Bk,rfl,hm.aW [1] [0]⟩
theorem ajc {W:World} {X:List Nat} {F:Nat} {x_:J.df} {r:Int} {a8:Nat} {bg:aS} {bq:Nat} {b':Nat} {aT:aS} {aV:Nat} {M0:List Nat} (hm:au W M0 X W [] [al.cU a8 [.q bg bq x_.l,.map (some b'),.q aT aV x_.b1],U J.bd bg bq x_.l,al.map du (Value.int .i64) b' x_.cH,U (aj .i64) aT aV x_.b1]) (h:J.Mw F x_=some r) :
 Calls Tryz.prog 77 [.aL a8].toArray W (fun e aD=>e= .returned (.i r)/\au W M0 X aD [] []):=by
 refine enter Tryz.func77 rfl Tryz.ntmps77 rfl fun a I=>?_;rw [J.Mw] at h;refine bc [] [] I fun a I=>wp_seq_k fun K bI=>aY <| bf 4 [0,1] [(8,.map (some b'))] [a8,1] (aw (hm.d 0 rfl).2.2 ax) I fun a I=>bQ wn (Jo (K:=du) (ev:=(Value.int .i64)) Tryz.underlying120 Tryz.underlying9 Tryz.zeroValue3 ((hm.d 2 rfl).2.2) rfl (I.g rfl) (cW _ _)) I rfl rfl fun a I=>aP 1 [] [(3,.i ((J.dv x_.cH [69,114,114,111,114]).getD 0))] I fun a I=>wpList_nil (bI _ _ ?_);refine wp_seq_k fun K ca=>aY ?_
 refine aP 2 [] [(10,.aL a8),(11,.i ((J.dv x_.cH [69,114,114,111,114]).getD 0))] I fun a I=>?_;obtain ⟨dK,Ar,h⟩:=J.aF h;have hc:=hm;refine bP (vs:=[.aL a8,.i ((J.dv x_.cH [69,114,114,111,114]).getD 0)]) wn rfl Tryz.call82 ⟨(I.g rfl),(I.g rfl),trivial⟩ (QC ((hc.into 0).pick ⟨⟨0,rfl⟩,⟨1,rfl⟩,⟨2,rfl⟩,⟨3,rfl⟩,trivial⟩) Ar) I rfl rfl ?_;rintro _ w ⟨bj,bk,y1,rfl,af⟩;refine ⟨_,rfl,fun a I=>?_⟩;have hm:=hc.back 0 af;clear af hc;refine aP 1 [] [(4,.q bj bk dK)] I fun a I=>wpList_nil (ca _ _ ?_)
 refine wp_seq_k fun K cY=>wp_seq_k fun K cu=>aY <| bf 5 [0,0] [(16,.q bg bq x_.l),(17,.i ((J.dv x_.cH [69,114,114,111,114]).getD 0))] [a8,0] (aw (hm.d 1 rfl).2.2 ax) I fun a I=>?_;obtain ⟨DN,aB2,h⟩:=J.aF h;obtain ⟨alc,av9,_,⟨eF,eS,dm,dJ,rfl,auE,auF⟩,arV⟩:=bZ _ (hm.d 2 rfl) aB2;have hm:=hm.more (y:=U J.aX eF eS DN.Fields) auE;have hm:=hm.more (y:=U J.b2 dm dJ DN.aR) auF;refine bQ wn (bF Tryz.underlying25 Tryz.sizeOf136 rfl (I.g rfl) (I.g rfl) alc av9) I rfl rfl fun a I=>?_
 refine bf 9 [0,1,0,0,0,0] [(27,.bool ((!decide (DN.bW= [79,98,106,101,99,116])) || (decide ((dK.length:Int)= 0))))] [bG bg,bJ bg+((J.dv x_.cH [69,114,114,111,114]).getD 0).toNat* 4 + 1] (aw arV ax) I fun a I=>?_;rcases Bool.eq_false_or_eq_true ((!decide (DN.bW= [79,98,106,101,99,116])) || (decide ((dK.length:Int)= 0))) with zW | zW
 · have h:=J.di zW h;have I:=I.b5 27 rfl zW;refine eo 7 [1,1,1,1,1,1,1] [(34,.bool true)] I fun a I=>wpList_nil (cu _ _ ?_);refine eN (I.g rfl) rfl <| bt [] [(2,.i 4)] I fun a I=>wp_ret ?_;obtain rfl:=aB h;refine ak <| bn Tryz.results77 I rfl ?_;exact ⟨rfl,hm.aW [] []⟩
 have h:=J.dh zW h;have I:=I.b5 27 rfl zW;refine aP 1 [1] [(28,.q bj bk dK)] I fun a I=>?_;obtain ⟨Yq,aCE,h⟩:=J.aF h;obtain ⟨alQ,awH,_,rfl,asq⟩:=gi (hm.e 0 rfl) (hm.d 2 rfl) aCE;refine bQ (c1 I rfl rfl rfl rfl) (bF Tryz.underlying106 Tryz.sizeOf105 rfl (I.g rfl) (cW _ _) alQ awH) I rfl rfl fun a I=>jS 5 [1,1,1,0,1,1,1] [(34,.bool (!decide (Yq.Kind.Kind= 1)))] [bG bj,bJ bj+(0 :Int).toNat* 3 + 1 + 0] (aw asq ax) I fun a I=>wpList_nil (cu _ _ ?_);refine bi (I.g rfl) h (fun zX h=>?_) (fun zX h=>?_)
 · refine bt [] [(2,.i 4)] I fun a I=>wp_ret ?_;obtain rfl:=aB h;refine ak <| bn Tryz.results77 I rfl ?_;exact ⟨rfl,hm.aW [] []⟩
 refine wp_skip <| cY _ _ <| bt [] [(2,.i 0)] I fun a I=>wp_ret ?_;obtain rfl:=aB h;refine bn Tryz.results77 I rfl ?_;exact ⟨rfl,hm.aW [] []⟩
theorem QD {W:World} {X:List Nat} {aa:J.Kind} {q1_:List (List UInt8)} {r:List (List UInt8)} {kY:Nat} {aI:aS} {aQ:Nat} {O2:List Value} {M0:List Nat} (hm:au W M0 X W [aq.bm kY 125 [.q aI aQ q1_],aq.row 9 1 (.q aI aQ q1_) q1_ O2] [al.rows bz O2 q1_]) (h:J.AE aa q1_=some r) :
 Calls Tryz.prog 103 [.agg #[.i aa.Kind,ao aa.aN],.aL kY].toArray W (fun e aD=>∃ cC:Option Addr,∃ cE:Nat,∃ OH:List Value,e= .returned (.tuple #[])/\au W M0 X aD [aq.bm kY 125 [.q cC cE r],aq.row 9 1 (.q cC cE r) r OH] [al.rows bz OH r]):=by
 refine enter Tryz.func103 rfl Tryz.ntmps103 rfl fun a I=>?_;rw [J.AE] at h;refine wp_seq_k fun K cZ=>aY <| cy (cs:=[.i aa.Kind,ao aa.aN]) wn (ei rfl rfl (I.g rfl)) I hm rfl rfl fun a sj w _ I hm=>wpList_nil <| cZ _ _ <| wp_seq_k fun K bI=>eI [0,1] [(5,.bool (!decide (aa.aN= [])))] [sj,1] (aw (aZ (hm.e 0 rfl)) ax) I fun a I=>bI _ _ <| bi (I.g rfl) h (fun GY h=>?_) (fun GY h=>?_)
 · refine aY <| bf 3 [0,0,1,1] [(6,.q aI aQ q1_),(8,ao aa.aN)] [sj,1,kY,0] (aw (aZ (hm.e 1 rfl)) (aw (aZ (hm.e 0 rfl)) ax)) I fun a I=>gw (cs:=[ao aa.aN]) wn (fX (vs:=[(0,ao aa.aN)]) Tryz.underlying125 Tryz.sizeOf9 Tryz.zeroValue9 rfl rfl rfl ⟨⟨(I.g rfl),rfl⟩,trivial⟩ (by kernel_rfl)) I hm rfl rfl fun a hr w _ I hm=>?_;obtain ⟨mR,Hs,h⟩:=J.aF h;refine iJ (T:=bz) (ml:=[aa.aN]) 3 0 0 hm rfl rfl rfl Tryz.underlying125 ya rfl rfl Hs rfl rfl ⟨_,_,rfl,rfl,rfl⟩ wn rfl (I.g rfl) (I.g rfl) I rfl rfl fun a bB bC D1 w I hm=>?_
   refine cx (vs:=[.q bB bC mR]) 1 hm rfl wn rfl Tryz.sizeOf125 rfl rfl rfl rfl (I.g rfl) (I.g rfl) rfl fun w hm=>wpList_nil ?_;have I:=I.cut (l':=[]);refine zq ?_;obtain rfl:=aB h;refine AU Tryz.results103 I ?_;exact ⟨bB,bC,D1,rfl,hm.aW [1,2] [0]⟩
 refine wp_skip <| zq ?_;obtain rfl:=aB h;refine AU Tryz.results103 I ?_;exact ⟨aI,aQ,O2,rfl,hm.aW [1,2] [0]⟩
theorem ajh {W:World} {X:List Nat} {F:Nat} {x_:J.df} {r:Int} {a8:Nat} {bg:aS} {bq:Nat} {b':Nat} {aT:aS} {aV:Nat} {M0:List Nat} (hm:au W M0 X W [] [al.cU a8 [.q bg bq x_.l,.map (some b'),.q aT aV x_.b1],U J.bd bg bq x_.l,al.map du (Value.int .i64) b' x_.cH,U (aj .i64) aT aV x_.b1]) (h:J.H4 F x_=some r) :
 Calls Tryz.prog 78 [.aL a8].toArray W (fun e aD=>e= .returned (.i r)/\au W M0 X aD [] []):=by
 refine enter Tryz.func78 rfl Tryz.ntmps78 rfl fun a I=>?_;rw [J.H4] at h;refine bc [] [] I fun a I=>wp_seq_k fun K bI=>aY <| cy (cs:=[.slice none 0 0]) wn (eJ Tryz.zeroValue125 rfl rfl) I hm rfl rfl fun a dc w _ I hm=>wpList_nil <| bI _ _ <| bc [] [(4,.func (.func 103) #[] #[.aL dc])] I fun a I=>wp_seq_k fun K cY=>wp_seq_k fun K cu=>eI [0,0] [(23,.q bg bq x_.l),(24,.i (x_.l.length:Int)),(25,.i 0)] [a8,0] (aw (hm.d 0 rfl).2.2 ax) I fun a I=>cu _ _ ?_
 have hm:=hm.cV (α:=List UInt8) 9 1;have hm:=hm.more (y:=al.rows bz [] []) rfl;obtain ⟨VI,h,Tc⟩:=J.aF h;refine cb (fun a w=>∃ (qx:aS) (tC:Nat) (hP:List (List UInt8)) (Bi:dF),Fr ⟨96,[]⟩ [(0,.aL a8),(3,.aL dc)] a/\au W M0 X w [aq.row 9 1 (.q qx tC hP) hP Bi,aq.bm dc 125 [.q qx tC hP]] [al.rows bz Bi hP,al.cU a8 [.q bg bq x_.l,.map (some b'),.q aT aV x_.b1],U J.bd bg bq x_.l,al.map du (Value.int .i64) b' x_.cH,U (aj .i64) aT aV x_.b1]/\VI=hP) (fun K dL=>?_) ?_
 · clear Tc
   refine cA (fun (bu:Nat) a w=>∃ (BE:aS) (Cl:Nat) (pN:List (List UInt8)) (D6:dF) (hS:Int),Fr ⟨96,[]⟩ [(0,.aL a8),(3,.aL dc),(4,.func (.func 103) #[] #[.aL dc]),(23,.q bg bq x_.l),(24,.i (x_.l.length:Int)),(25,.i hS)] a/\au W M0 X w [aq.row 9 1 (.q BE Cl pN) pN D6,aq.bm dc 125 [.q BE Cl pN]] [al.rows bz D6 pN,al.cU a8 [.q bg bq x_.l,.map (some b'),.q aT aV x_.b1],U J.bd bg bq x_.l,al.map du (Value.int .i64) b' x_.cH,U (aj .i64) aT aV x_.b1]/\J.vi F x_ bu pN hS=some VI) F ⟨none,0,[],[],0,I.cut,hm,h⟩ ?_ ?_
   · rintro a w ⟨BE,Cl,pN,D6,hS,I,hm,h⟩;exact absurd h (by simp [J.vi])
   rintro bu a w ⟨BE,Cl,pN,D6,hS,I,hm,h⟩ K dt;rw [J.vi] at h;refine bc [] [(26,.bool (decide (hS <(x_.l.length:Int))))] I fun a I=>wp_seq_k fun K dp=>bi (I.g rfl) h (fun aqS h=>?_) (fun aqS h=>?_)
   · refine wp_skip <| dp _ _ <| wp_seq_k fun K da=>?_;obtain ⟨aeJ,h,Tw⟩:=J.aF h
     refine cb (fun a w=>∃ (JF:aS) (Ks:Nat) (uR:List (List UInt8)) (OZ:dF),Fr ⟨96,[]⟩ [(0,.aL a8),(3,.aL dc),(4,.func (.func 103) #[] #[.aL dc]),(23,.q bg bq x_.l),(24,.i (x_.l.length:Int)),(25,.i hS)] a/\au W M0 X w [aq.row 9 1 (.q JF Ks uR) uR OZ,aq.bm dc 125 [.q JF Ks uR]] [al.rows bz OZ uR,al.cU a8 [.q bg bq x_.l,.map (some b'),.q aT aV x_.b1],U J.bd bg bq x_.l,al.map du (Value.int .i64) b' x_.cH,U (aj .i64) aT aV x_.b1]/\aeJ=uR) (fun K dA=>?_) ?_
     · clear Tw;refine wp_seq_k fun K d_=>aY ?_;obtain ⟨cN,aDB,h⟩:=J.aF h;obtain ⟨amR,axH,_,⟨hO,ii,gz,g1,rfl,avg,avh⟩,atp⟩:=bZ _ (hm.d 2 rfl) aDB;have hm:=hm.more (y:=U J.aX hO ii cN.Fields) avg;have hm:=hm.more (y:=U J.b2 gz g1 cN.aR) avh;refine bQ wn (bF Tryz.underlying25 Tryz.sizeOf136 rfl (I.g rfl) (I.g rfl) amR axH) I rfl rfl fun a I=>?_
       refine bf 1 [0,0] [(28,.agg #[ao cN.Name,ao cN.bW,.q hO ii cN.Fields,.q gz g1 cN.aR])] [bG bg,bJ bg+(hS).toNat* 4] (aw atp ax) I fun a I=>cy (cs:=[ao [],ao [],.slice none 0 0,.slice none 0 0]) wn (eJ Tryz.zeroValue136 rfl rfl) I hm rfl rfl fun a nt w _ I hm=>cx (vs:=[ao cN.Name,ao cN.bW,.q hO ii cN.Fields,.q gz g1 cN.aR]) 0 hm rfl wn rfl Tryz.sizeOf136 rfl rfl rfl rfl (I.g rfl) (I.g rfl) rfl fun w hm=>wpList_nil <| d_ _ _ <| wp_seq_k fun K dQ=>?_
       refine wp_seq_k fun K fx=>eI [0,2] [(30,.q hO ii cN.Fields),(31,.i (cN.Fields.length:Int)),(32,.i 0)] [nt,2] (aw (aZ (hm.e 0 rfl)) ax) I fun a I=>fx _ _ ?_;obtain ⟨VZ,h,Tx⟩:=J.aF h
       refine cb (fun a w=>∃ (JG:aS) (Kt:Nat) (uS:List (List UInt8)) (O0:dF),Fr ⟨96,[]⟩ [(0,.aL a8),(3,.aL dc),(4,.func (.func 103) #[] #[.aL dc]),(6,.aL nt),(23,.q bg bq x_.l),(24,.i (x_.l.length:Int)),(25,.i hS)] a/\au W M0 X w [aq.bm nt 136 [ao cN.Name,ao cN.bW,.q hO ii cN.Fields,.q gz g1 cN.aR],aq.row 9 1 (.q JG Kt uS) uS O0,aq.bm dc 125 [.q JG Kt uS]] [al.rows bz O0 uS,U J.b2 gz g1 cN.aR,U J.aX hO ii cN.Fields,al.cU a8 [.q bg bq x_.l,.map (some b'),.q aT aV x_.b1],U J.bd bg bq x_.l,al.map du (Value.int .i64) b' x_.cH,U (aj .i64) aT aV x_.b1]/\VZ=uS) (fun K fi=>?_) ?_
       · clear Tx
         refine cA (fun (c4:Nat) a w=>∃ (ED:aS) (Fz:Nat) (rn:List (List UInt8)) (Ji:dF) (oZ:Int),Fr ⟨96,[]⟩ [(0,.aL a8),(3,.aL dc),(4,.func (.func 103) #[] #[.aL dc]),(6,.aL nt),(23,.q bg bq x_.l),(24,.i (x_.l.length:Int)),(25,.i hS),(30,.q hO ii cN.Fields),(31,.i (cN.Fields.length:Int)),(32,.i oZ)] a/\au W M0 X w [aq.bm nt 136 [ao cN.Name,ao cN.bW,.q hO ii cN.Fields,.q gz g1 cN.aR],aq.row 9 1 (.q ED Fz rn) rn Ji,aq.bm dc 125 [.q ED Fz rn]] [al.rows bz Ji rn,U J.b2 gz g1 cN.aR,U J.aX hO ii cN.Fields,al.cU a8 [.q bg bq x_.l,.map (some b'),.q aT aV x_.b1],U J.bd bg bq x_.l,al.map du (Value.int .i64) b' x_.cH,U (aj .i64) aT aV x_.b1]/\J.vj cN c4 rn oZ=some VZ) F ⟨BE,Cl,pN,D6,0,I.cut,hm.ec [2,0,1,3,4,5,6],h⟩ ?_ ?_
         · rintro a w ⟨ED,Fz,rn,Ji,oZ,I,hm,h⟩;exact absurd h (by simp [J.vj])
         rintro c4 a w ⟨ED,Fz,rn,Ji,oZ,I,hm,h⟩ K gA;rw [J.vj] at h;refine bc [] [(33,.bool (decide (oZ <(cN.Fields.length:Int))))] I fun a I=>wp_seq_k fun K fy=>bi (I.g rfl) h (fun aqW h=>?_) (fun aqW h=>?_)
         · refine wp_skip <| fy _ _ <| wp_seq_k fun K fO=>wp_block <| wp_seq_k fun K fU=>aY ?_;obtain ⟨o',aDC,h⟩:=J.aF h;obtain ⟨amS,axJ,_,rfl,atq⟩:=bZ _ (hm.d 2 rfl) aDC;refine bQ wn (bF Tryz.underlying106 Tryz.sizeOf105 rfl (I.g rfl) (I.g rfl) amS axJ) I rfl rfl fun a I=>bf 1 [0,0] [(35,.agg #[ao o'.Name,.i o'.Kind.Kind,ao o'.Kind.aN])] [bG hO,bJ hO+(oZ).toNat* 3] (aw atq ax) I fun a I=>cy (cs:=[ao [],.i 0,ao []]) wn (eJ Tryz.zeroValue105 rfl rfl) I hm rfl rfl fun a akQ w _ I hm=>?_
           refine cx (vs:=[ao o'.Name,.i o'.Kind.Kind,ao o'.Kind.aN]) 0 hm rfl wn rfl Tryz.sizeOf105 rfl rfl rfl rfl (I.g rfl) (I.g rfl) rfl fun w hm=>wpList_nil <| fU _ _ <| aY <| bf 3 [0,1] [(36,.func (.func 103) #[] #[.aL dc]),(38,.agg #[.i o'.Kind.Kind,ao o'.Kind.aN])] [akQ,1] (aw (aZ (hm.e 0 rfl)) ax) I fun a I=>?_;obtain ⟨XE,aA3,h⟩:=J.aF h;have hc:=hm.kr [3,2,0,1] rfl rfl
           refine ll (f:=103) (vs:=[.agg #[.i o'.Kind.Kind,ao o'.Kind.aN]]) (us:=[]) (cs:=[.aL dc]) wn rfl Tryz.call103 (I.g rfl) ⟨(I.g rfl),trivial⟩ (QD ((hc.into 2).pick ⟨⟨0,rfl⟩,trivial⟩) aA3) I rfl rfl ?_;rintro _ w ⟨ahq,aim,aHX,rfl,af⟩;refine ⟨_,rfl,fun a I=>?_⟩;have hm:=hc.back 2 af;clear af hc;refine wpList_nil ?_
           have I:=I.cut (l':=[(0,.aL a8),(3,.aL dc),(4,.func (.func 103) #[] #[.aL dc]),(6,.aL nt),(23,.q bg bq x_.l),(24,.i (x_.l.length:Int)),(25,.i hS),(30,.q hO ii cN.Fields),(31,.i (cN.Fields.length:Int)),(32,.i oZ)]);refine fO _ _ <| ch [] [(32,.i (J.ap (oZ+ 1)))] I fun a I=>?_;exact gA _ _ ⟨ahq,aim,XE,aHX,J.ap (oZ+ 1),I.cut,hm.aW [3,1,0] [0,2,3,4,5,6,7],h⟩
         refine wp_exit <| bx (bx (cw ?_));exact fi _ _ ⟨ED,Fz,rn,Ji,I.cut,hm,(os h)⟩
       rintro a w ⟨JG,Kt,uS,O0,I,hm,bb⟩;subst VZ;have h:=Tx;clear Tx;refine dQ _ _ <| wp_seq_k fun K gr=>eI [0,3] [(42,.q gz g1 cN.aR),(43,.i (cN.aR.length:Int)),(44,.i 0)] [nt,3] (aw (aZ (hm.e 0 rfl)) ax) I fun a I=>gr _ _ ?_;obtain ⟨V1,h,TB⟩:=J.aF h
       refine cb (fun a w=>∃ (JH:aS) (Ku:Nat) (uT:List (List UInt8)) (O3:dF),Fr ⟨96,[]⟩ [(0,.aL a8),(3,.aL dc),(4,.func (.func 103) #[] #[.aL dc]),(23,.q bg bq x_.l),(24,.i (x_.l.length:Int)),(25,.i hS)] a/\au W M0 X w [aq.bm nt 136 [ao cN.Name,ao cN.bW,.q hO ii cN.Fields,.q gz g1 cN.aR],aq.row 9 1 (.q JH Ku uT) uT O3,aq.bm dc 125 [.q JH Ku uT]] [al.rows bz O3 uT,U J.b2 gz g1 cN.aR,U J.aX hO ii cN.Fields,al.cU a8 [.q bg bq x_.l,.map (some b'),.q aT aV x_.b1],U J.bd bg bq x_.l,al.map du (Value.int .i64) b' x_.cH,U (aj .i64) aT aV x_.b1]/\V1=uT) (fun K gN=>?_) ?_
       · clear TB
         refine cA (fun (eB:Nat) a w=>∃ (BI:aS) (Cp:Nat) (pR:List (List UInt8)) (D9:dF) (jM:Int),Fr ⟨96,[]⟩ [(0,.aL a8),(3,.aL dc),(4,.func (.func 103) #[] #[.aL dc]),(23,.q bg bq x_.l),(24,.i (x_.l.length:Int)),(25,.i hS),(42,.q gz g1 cN.aR),(43,.i (cN.aR.length:Int)),(44,.i jM)] a/\au W M0 X w [aq.bm nt 136 [ao cN.Name,ao cN.bW,.q hO ii cN.Fields,.q gz g1 cN.aR],aq.row 9 1 (.q BI Cp pR) pR D9,aq.bm dc 125 [.q BI Cp pR]] [al.rows bz D9 pR,U J.b2 gz g1 cN.aR,U J.aX hO ii cN.Fields,al.cU a8 [.q bg bq x_.l,.map (some b'),.q aT aV x_.b1],U J.bd bg bq x_.l,al.map du (Value.int .i64) b' x_.cH,U (aj .i64) aT aV x_.b1]/\J.vk F cN eB pR jM=some V1) F ⟨JG,Kt,uS,O0,0,I.cut,hm,h⟩ ?_ ?_
         · rintro a w ⟨BI,Cp,pR,D9,jM,I,hm,h⟩;exact absurd h (by simp [J.vk])
         rintro eB a w ⟨BI,Cp,pR,D9,jM,I,hm,h⟩ K hG;rw [J.vk] at h;refine bc [] [(45,.bool (decide (jM <(cN.aR.length:Int))))] I fun a I=>wp_seq_k fun K ht=>bi (I.g rfl) h (fun aq0 h=>?_) (fun aq0 h=>?_)
         · refine wp_skip <| ht _ _ <| wp_seq_k fun K hv=>?_;obtain ⟨aeM,h,TC⟩:=J.aF h
           refine cb (fun a w=>∃ (JI:aS) (Kv:Nat) (uU:List (List UInt8)) (O4:dF),Fr ⟨96,[]⟩ [(0,.aL a8),(3,.aL dc),(4,.func (.func 103) #[] #[.aL dc]),(23,.q bg bq x_.l),(24,.i (x_.l.length:Int)),(25,.i hS),(42,.q gz g1 cN.aR),(43,.i (cN.aR.length:Int)),(44,.i jM)] a/\au W M0 X w [aq.bm nt 136 [ao cN.Name,ao cN.bW,.q hO ii cN.Fields,.q gz g1 cN.aR],aq.row 9 1 (.q JI Kv uU) uU O4,aq.bm dc 125 [.q JI Kv uU]] [al.rows bz O4 uU,U J.b2 gz g1 cN.aR,U J.aX hO ii cN.Fields,al.cU a8 [.q bg bq x_.l,.map (some b'),.q aT aV x_.b1],U J.bd bg bq x_.l,al.map du (Value.int .i64) b' x_.cH,U (aj .i64) aT aV x_.b1]/\aeM=uU) (fun K hx=>?_) ?_
           · clear TC;refine wp_seq_k fun K jz=>aY ?_;obtain ⟨cX,aDI,h⟩:=J.aF h;obtain ⟨amX,axO,_,⟨ls,ni,lu,nj,rfl,avi,avj⟩,atw⟩:=bZ _ (hm.d 1 rfl) aDI;have hm:=hm.more (y:=U J.dx ls ni cX.bD) avi;have hm:=hm.more (y:=U J.er lu nj cX.bH) avj;refine bQ wn (bF Tryz.underlying134 Tryz.sizeOf133 rfl (I.g rfl) (I.g rfl) amX axO) I rfl rfl fun a I=>?_
             refine bf 1 [0,0] [(47,.agg #[ao cX.Name,.bool cX.Static,.q ls ni cX.bD,.i cX.Returns.Kind,ao cX.Returns.aN,.i cX.cT,.i cX.cS,ao cX.Code,.q lu nj cX.bH])] [bG gz,bJ gz+(jM).toNat* 9] (aw atw ax) I fun a I=>cy (cs:=[ao [],.bool false,.slice none 0 0,.i 0,ao [],.i 0,.i 0,ao [],.slice none 0 0]) wn (eJ Tryz.zeroValue133 rfl rfl) I hm rfl rfl fun a q1 w _ I hm=>?_
             refine cx (vs:=[ao cX.Name,.bool cX.Static,.q ls ni cX.bD,.i cX.Returns.Kind,ao cX.Returns.aN,.i cX.cT,.i cX.cS,ao cX.Code,.q lu nj cX.bH]) 0 hm rfl wn rfl Tryz.sizeOf133 rfl rfl rfl rfl (I.g rfl) (I.g rfl) rfl fun w hm=>wpList_nil <| jz _ _ <| wp_seq_k fun K jk=>wp_seq_k fun K mw=>eI [0,2] [(49,.q ls ni cX.bD),(50,.i (cX.bD.length:Int)),(51,.i 0)] [q1,2] (aw (aZ (hm.e 0 rfl)) ax) I fun a I=>mw _ _ ?_;obtain ⟨V2,h,TD⟩:=J.aF h
             refine cb (fun a w=>∃ (PJ:aS) (Ql:Nat) (yc:List (List UInt8)) (YC:dF),Fr ⟨96,[]⟩ [(0,.aL a8),(3,.aL dc),(4,.func (.func 103) #[] #[.aL dc]),(10,.aL q1),(23,.q bg bq x_.l),(24,.i (x_.l.length:Int)),(25,.i hS),(42,.q gz g1 cN.aR),(43,.i (cN.aR.length:Int)),(44,.i jM)] a/\au W M0 X w [aq.bm q1 133 [ao cX.Name,.bool cX.Static,.q ls ni cX.bD,.i cX.Returns.Kind,ao cX.Returns.aN,.i cX.cT,.i cX.cS,ao cX.Code,.q lu nj cX.bH],aq.bm nt 136 [ao cN.Name,ao cN.bW,.q hO ii cN.Fields,.q gz g1 cN.aR],aq.row 9 1 (.q PJ Ql yc) yc YC,aq.bm dc 125 [.q PJ Ql yc]] [al.rows bz YC yc,U J.er lu nj cX.bH,U J.dx ls ni cX.bD,U J.b2 gz g1 cN.aR,U J.aX hO ii cN.Fields,al.cU a8 [.q bg bq x_.l,.map (some b'),.q aT aV x_.b1],U J.bd bg bq x_.l,al.map du (Value.int .i64) b' x_.cH,U (aj .i64) aT aV x_.b1]/\V2=yc) (fun K jA=>?_) ?_
             · clear TD
               refine cA (fun (fB:Nat) a w=>∃ (EE:aS) (FB:Nat) (rp:List (List UInt8)) (Jj:dF) (o1:Int),Fr ⟨96,[]⟩ [(0,.aL a8),(3,.aL dc),(4,.func (.func 103) #[] #[.aL dc]),(10,.aL q1),(23,.q bg bq x_.l),(24,.i (x_.l.length:Int)),(25,.i hS),(42,.q gz g1 cN.aR),(43,.i (cN.aR.length:Int)),(44,.i jM),(49,.q ls ni cX.bD),(50,.i (cX.bD.length:Int)),(51,.i o1)] a/\au W M0 X w [aq.bm q1 133 [ao cX.Name,.bool cX.Static,.q ls ni cX.bD,.i cX.Returns.Kind,ao cX.Returns.aN,.i cX.cT,.i cX.cS,ao cX.Code,.q lu nj cX.bH],aq.bm nt 136 [ao cN.Name,ao cN.bW,.q hO ii cN.Fields,.q gz g1 cN.aR],aq.row 9 1 (.q EE FB rp) rp Jj,aq.bm dc 125 [.q EE FB rp]] [al.rows bz Jj rp,U J.er lu nj cX.bH,U J.dx ls ni cX.bD,U J.b2 gz g1 cN.aR,U J.aX hO ii cN.Fields,al.cU a8 [.q bg bq x_.l,.map (some b'),.q aT aV x_.b1],U J.bd bg bq x_.l,al.map du (Value.int .i64) b' x_.cH,U (aj .i64) aT aV x_.b1]/\J.vl cX fB rp o1=some V2) F ⟨BI,Cp,pR,D9,0,I.cut,hm.ec [2,0,1,3,4,5,6,7,8],h⟩ ?_ ?_
               · rintro a w ⟨EE,FB,rp,Jj,o1,I,hm,h⟩;exact absurd h (by simp [J.vl])
               rintro fB a w ⟨EE,FB,rp,Jj,o1,I,hm,h⟩ K jB;rw [J.vl] at h;refine bc [] [(52,.bool (decide (o1 <(cX.bD.length:Int))))] I fun a I=>wp_seq_k fun K j'=>bi (I.g rfl) h (fun aq1 h=>?_) (fun aq1 h=>?_)
               · refine wp_skip <| j' _ _ <| wp_seq_k fun K nv=>wp_block <| wp_seq_k fun K ow=>aY ?_;obtain ⟨rP,aDJ,h⟩:=J.aF h;obtain ⟨amY,axP,_,rfl,atx⟩:=bZ _ (hm.d 2 rfl) aDJ;refine bQ wn (bF Tryz.underlying130 Tryz.sizeOf103 rfl (I.g rfl) (I.g rfl) amY axP) I rfl rfl fun a I=>bf 1 [0,0] [(54,.agg #[.i rP.Kind,ao rP.aN])] [bG ls,bJ ls+(o1).toNat* 2] (aw atx ax) I fun a I=>cy (cs:=[.i 0,ao []]) wn (eJ Tryz.zeroValue103 rfl rfl) I hm rfl rfl fun a akR w _ I hm=>?_
                 refine cx (vs:=[.i rP.Kind,ao rP.aN]) 0 hm rfl wn rfl Tryz.sizeOf103 rfl rfl rfl rfl (I.g rfl) (I.g rfl) rfl fun w hm=>wpList_nil <| ow _ _ <| aY <| bf 2 [0,0] [(55,.func (.func 103) #[] #[.aL dc]),(56,.agg #[.i rP.Kind,ao rP.aN])] [akR,0] (aw (aZ (hm.e 0 rfl)) ax) I fun a I=>?_;obtain ⟨XH,aA8,h⟩:=J.aF h;have hc:=hm.kr [4,3,0,1,2] rfl rfl
                 refine ll (f:=103) (vs:=[.agg #[.i rP.Kind,ao rP.aN]]) (us:=[]) (cs:=[.aL dc]) wn rfl Tryz.call103 (I.g rfl) ⟨(I.g rfl),trivial⟩ (QD ((hc.into 2).pick ⟨⟨0,rfl⟩,trivial⟩) aA8) I rfl rfl ?_;rintro _ w ⟨ahr,ain,aHZ,rfl,af⟩;refine ⟨_,rfl,fun a I=>?_⟩;have hm:=hc.back 2 af;clear af hc;refine wpList_nil ?_
                 have I:=I.cut (l':=[(0,.aL a8),(3,.aL dc),(4,.func (.func 103) #[] #[.aL dc]),(10,.aL q1),(23,.q bg bq x_.l),(24,.i (x_.l.length:Int)),(25,.i hS),(42,.q gz g1 cN.aR),(43,.i (cN.aR.length:Int)),(44,.i jM),(49,.q ls ni cX.bD),(50,.i (cX.bD.length:Int)),(51,.i o1)]);refine nv _ _ <| ch [] [(51,.i (J.ap (o1+ 1)))] I fun a I=>?_
                 exact jB _ _ ⟨ahr,ain,XH,aHZ,J.ap (o1+ 1),I.cut,hm.aW [3,4,1,0] [0,2,3,4,5,6,7,8,9],h⟩
               refine wp_exit <| bx (bx (cw ?_));exact jA _ _ ⟨EE,FB,rp,Jj,I.cut,hm,(os h)⟩
             rintro a w ⟨PJ,Ql,yc,YC,I,hm,bb⟩;subst V2;have h:=TD;clear TD;refine jk _ _ <| wp_seq_k fun K lI=>aY <| bf 3 [0,3] [(59,.func (.func 103) #[] #[.aL dc]),(61,.agg #[.i cX.Returns.Kind,ao cX.Returns.aN])] [q1,3] (aw (aZ (hm.e 0 rfl)) ax) I fun a I=>?_;obtain ⟨XI,aA9,h⟩:=J.aF h;have hc:=hm.kr [3,2,0,1] rfl rfl;refine ll (f:=103) (vs:=[.agg #[.i cX.Returns.Kind,ao cX.Returns.aN]]) (us:=[]) (cs:=[.aL dc]) wn rfl Tryz.call103 (I.g rfl) ⟨(I.g rfl),trivial⟩ (QD ((hc.into 2).pick ⟨⟨0,rfl⟩,trivial⟩) aA9) I rfl rfl ?_;rintro _ w ⟨ahs,aio,aH0,rfl,af⟩;refine ⟨_,rfl,?_⟩
             intro a I;have hm:=hc.back 2 af;clear af hc;refine wpList_nil ?_;have I:=I.cut (l':=[(0,.aL a8),(3,.aL dc),(4,.func (.func 103) #[] #[.aL dc]),(10,.aL q1),(23,.q bg bq x_.l),(24,.i (x_.l.length:Int)),(25,.i hS),(42,.q gz g1 cN.aR),(43,.i (cN.aR.length:Int)),(44,.i jM)]);refine lI _ _ <| wp_seq_k fun K ox=>?_
             refine eI [0,8] [(64,.q lu nj cX.bH),(65,.i (cX.bH.length:Int)),(66,.i 0)] [q1,8] (aw (aZ (hm.e 2 rfl)) ax) I fun a I=>ox _ _ ?_;obtain ⟨V3,h,TE⟩:=J.aF h
             refine cb (fun a w=>∃ (JJ:aS) (Kw:Nat) (uV:List (List UInt8)) (O5:dF),Fr ⟨96,[]⟩ [(0,.aL a8),(3,.aL dc),(4,.func (.func 103) #[] #[.aL dc]),(23,.q bg bq x_.l),(24,.i (x_.l.length:Int)),(25,.i hS),(42,.q gz g1 cN.aR),(43,.i (cN.aR.length:Int)),(44,.i jM)] a/\au W M0 X w [aq.bm dc 125 [.q JJ Kw uV],aq.row 9 1 (.q JJ Kw uV) uV O5,aq.bm q1 133 [ao cX.Name,.bool cX.Static,.q ls ni cX.bD,.i cX.Returns.Kind,ao cX.Returns.aN,.i cX.cT,.i cX.cS,ao cX.Code,.q lu nj cX.bH],aq.bm nt 136 [ao cN.Name,ao cN.bW,.q hO ii cN.Fields,.q gz g1 cN.aR]] [al.rows bz O5 uV,U J.er lu nj cX.bH,U J.dx ls ni cX.bD,U J.b2 gz g1 cN.aR,U J.aX hO ii cN.Fields,al.cU a8 [.q bg bq x_.l,.map (some b'),.q aT aV x_.b1],U J.bd bg bq x_.l,al.map du (Value.int .i64) b' x_.cH,U (aj .i64) aT aV x_.b1]/\V3=uV) (fun K lJ=>?_) ?_
             · clear TE
               refine cA (fun (h1:Nat) a w=>∃ (BJ:aS) (Cq:Nat) (pS:List (List UInt8)) (Jk:dF) (o2:Int),Fr ⟨96,[]⟩ [(0,.aL a8),(3,.aL dc),(4,.func (.func 103) #[] #[.aL dc]),(23,.q bg bq x_.l),(24,.i (x_.l.length:Int)),(25,.i hS),(42,.q gz g1 cN.aR),(43,.i (cN.aR.length:Int)),(44,.i jM),(64,.q lu nj cX.bH),(65,.i (cX.bH.length:Int)),(66,.i o2)] a/\au W M0 X w [aq.bm dc 125 [.q BJ Cq pS],aq.row 9 1 (.q BJ Cq pS) pS Jk,aq.bm q1 133 [ao cX.Name,.bool cX.Static,.q ls ni cX.bD,.i cX.Returns.Kind,ao cX.Returns.aN,.i cX.cT,.i cX.cS,ao cX.Code,.q lu nj cX.bH],aq.bm nt 136 [ao cN.Name,ao cN.bW,.q hO ii cN.Fields,.q gz g1 cN.aR]] [al.rows bz Jk pS,U J.er lu nj cX.bH,U J.dx ls ni cX.bD,U J.b2 gz g1 cN.aR,U J.aX hO ii cN.Fields,al.cU a8 [.q bg bq x_.l,.map (some b'),.q aT aV x_.b1],U J.bd bg bq x_.l,al.map du (Value.int .i64) b' x_.cH,U (aj .i64) aT aV x_.b1]/\J.vm cX h1 pS o2=some V3) F ⟨ahs,aio,XI,aH0,0,I.cut,hm.ec [0,2,3,4,5,6,7,8,9],h⟩ ?_ ?_
               · rintro a w ⟨BJ,Cq,pS,Jk,o2,I,hm,h⟩;exact absurd h (by simp [J.vm])
               rintro h1 a w ⟨BJ,Cq,pS,Jk,o2,I,hm,h⟩ K mx;rw [J.vm] at h;refine bc [] [(67,.bool (decide (o2 <(cX.bH.length:Int))))] I fun a I=>wp_seq_k fun K zO=>bi (I.g rfl) h (fun aq2 h=>?_) (fun aq2 h=>?_)
               · refine wp_skip <| zO _ _ <| wp_seq_k fun K my=>wp_block <| wp_seq_k fun K tS=>aY ?_;obtain ⟨nW,aDK,h⟩:=J.aF h;obtain ⟨amZ,axQ,_,rfl,aty⟩:=bZ _ (hm.d 1 rfl) aDK;refine bQ wn (bF Tryz.underlying131 Tryz.sizeOf150 rfl (I.g rfl) (I.g rfl) amZ axQ) I rfl rfl fun a I=>bf 1 [0,0] [(69,.agg #[.i nW.From,.i nW.To,.i nW.gX,ao nW.aN])] [bG lu,bJ lu+(o2).toNat* 4] (aw aty ax) I fun a I=>cy (cs:=[.i 0,.i 0,.i 0,ao []]) wn (eJ Tryz.zeroValue150 rfl rfl) I hm rfl rfl fun a akS w _ I hm=>?_
                 refine cx (vs:=[.i nW.From,.i nW.To,.i nW.gX,ao nW.aN]) 0 hm rfl wn rfl Tryz.sizeOf150 rfl rfl rfl rfl (I.g rfl) (I.g rfl) rfl fun w hm=>wpList_nil <| tS _ _ <| aY <| bf 3 [0,0,1,3] [(70,.q BJ Cq pS),(72,ao nW.aN)] [akS,3,dc,0] (aw (aZ (hm.e 1 rfl)) (aw (aZ (hm.e 0 rfl)) ax)) I fun a I=>gw (cs:=[ao nW.aN]) wn (fX (vs:=[(0,ao nW.aN)]) Tryz.underlying125 Tryz.sizeOf9 Tryz.zeroValue9 rfl rfl rfl ⟨⟨(I.g rfl),rfl⟩,trivial⟩ (by kernel_rfl)) I hm rfl rfl fun a aJZ w _ I hm=>?_
                 obtain ⟨Mn,ay_,h⟩:=J.aF h;refine iJ (T:=bz) (ml:=[nW.aN]) 3 0 0 hm rfl rfl rfl Tryz.underlying125 ya rfl rfl ay_ rfl rfl ⟨_,_,rfl,rfl,rfl⟩ wn rfl (I.g rfl) (I.g rfl) I rfl rfl fun a Zt aaW aH1 w I hm=>cx (vs:=[.q Zt aaW Mn]) 1 hm rfl wn rfl Tryz.sizeOf125 rfl rfl rfl rfl (I.g rfl) (I.g rfl) rfl fun w hm=>wpList_nil ?_
                 have I:=I.cut (l':=[(0,.aL a8),(3,.aL dc),(4,.func (.func 103) #[] #[.aL dc]),(23,.q bg bq x_.l),(24,.i (x_.l.length:Int)),(25,.i hS),(42,.q gz g1 cN.aR),(43,.i (cN.aR.length:Int)),(44,.i jM),(64,.q lu nj cX.bH),(65,.i (cX.bH.length:Int)),(66,.i o2)]);refine my _ _ <| ch [] [(66,.i (J.ap (o2+ 1)))] I fun a I=>?_
                 exact mx _ _ ⟨Zt,aaW,Mn,aH1,J.ap (o2+ 1),I.cut,hm.aW [1,2,3,4] [0,2,3,4,5,6,7,8,9],h⟩
               refine wp_exit <| bx (bx (cw ?_));exact lJ _ _ ⟨BJ,Cq,pS,Jk,I.cut,hm,(os h)⟩
             rintro a w ⟨JJ,Kw,uV,O5,I,hm,bb⟩;subst V3;have h:=TE;clear TE;exact hx _ _ ⟨JJ,Kw,uV,O5,I.cut,hm.aW [3,1,0] [0,3,4,5,6,7,8],(os h)⟩
           rintro a w ⟨JI,Kv,uU,O4,I,hm,bb⟩;subst aeM;have h:=TC;clear TC;refine hv _ _ <| ch [] [(44,.i (J.ap (jM+ 1)))] I fun a I=>?_;exact hG _ _ ⟨JI,Kv,uU,O4,J.ap (jM+ 1),I.cut,hm,h⟩
         refine wp_exit <| bx (bx (cw ?_));exact gN _ _ ⟨BI,Cp,pR,D9,I.cut,hm,(os h)⟩
       rintro a w ⟨JH,Ku,uT,O3,I,hm,bb⟩;subst V1;have h:=TB;clear TB;exact dA _ _ ⟨JH,Ku,uT,O3,I.cut,hm.aW [1,2] [0,3,4,5,6],(os h)⟩
     rintro a w ⟨JF,Ks,uR,OZ,I,hm,bb⟩;subst aeJ;have h:=Tw;clear Tw;refine da _ _ <| ch [] [(25,.i (J.ap (hS+ 1)))] I fun a I=>?_;exact dt _ _ ⟨JF,Ks,uR,OZ,J.ap (hS+ 1),I.cut,hm,h⟩
   refine wp_exit <| bx (bx (cw ?_));exact dL _ _ ⟨BE,Cl,pN,D6,I.cut,hm,(os h)⟩
 rintro a w ⟨qx,tC,hP,Bi,I,hm,bb⟩;subst VI;have h:=Tc;clear Tc;refine cY _ _ <| wp_seq_k fun K q3=>wp_seq_k fun K oy=>eI [0,0] [(78,.q qx tC hP),(79,.i (hP.length:Int)),(80,.i 0)] [dc,0] (aw (aZ (hm.e 1 rfl)) ax) I fun a I=>oy _ _ ?_;obtain ⟨V4,h,TF⟩:=J.ef h
 refine cb (fun a w=>Fr ⟨96,[]⟩ [] a/\au W M0 X w [aq.row 9 1 (.q qx tC hP) hP Bi,aq.bm dc 125 [.q qx tC hP]] [al.rows bz Bi hP,al.cU a8 [.q bg bq x_.l,.map (some b'),.q aT aV x_.b1],U J.bd bg bq x_.l,al.map du (Value.int .i64) b' x_.cH,U (aj .i64) aT aV x_.b1]/\V4=(.go ())) (fun K oz=>?_) ?_
 · refine cA (fun (jE:Nat) a w=>∃ (p8:Int),Fr ⟨96,[]⟩ [(0,.aL a8),(78,.q qx tC hP),(79,.i (hP.length:Int)),(80,.i p8)] a/\au W M0 X w [aq.row 9 1 (.q qx tC hP) hP Bi,aq.bm dc 125 [.q qx tC hP]] [al.rows bz Bi hP,al.cU a8 [.q bg bq x_.l,.map (some b'),.q aT aV x_.b1],U J.bd bg bq x_.l,al.map du (Value.int .i64) b' x_.cH,U (aj .i64) aT aV x_.b1]/\J.yo x_ hP jE p8=some V4) F ⟨0,I.cut,hm,h⟩ ?_ ?_
   · rintro a w ⟨p8,I,hm,h⟩;exact absurd h (by simp [J.yo])
   rintro jE a w ⟨p8,I,hm,h⟩ K mz;rw [J.yo] at h;refine bc [] [(81,.bool (decide (p8 <(hP.length:Int))))] I fun a I=>wp_seq_k fun K tT=>bi (I.g rfl) h (fun aq3 h=>?_) (fun aq3 h=>?_)
   · refine wp_skip <| tT _ _ <| wp_seq_k fun K tU=>wp_block <| wp_seq_k fun K sn=>aY ?_;obtain ⟨DW,aDL,h⟩:=J.aF h;obtain ⟨am0,axR,_,rfl,atz⟩:=gi (hm.e 0 rfl) (hm.d 0 rfl) aDL;refine bQ wn (bF Tryz.underlying125 Tryz.sizeOf9 rfl (I.g rfl) (I.g rfl) am0 axR) I rfl rfl fun a I=>bf 2 [0,0] [(16,ao DW)] [bG qx,bJ qx+(p8).toNat* 1] (aw atz ax) I fun a I=>wpList_nil (sn _ _ ?_);refine wp_seq_k fun K tV=>aY <| bf 5 [0,1] [(88,.map (some b')),(89,ao DW)] [a8,1] (aw (hm.d 1 rfl).2.2 ax) I fun a I=>?_
     refine bQ wn (Jp (K:=du) (ev:=(Value.int .i64)) Tryz.underlying120 Tryz.underlying9 Tryz.zeroValue3 ((hm.d 3 rfl).2.2) rfl (I.g rfl) (I.g rfl)) I rfl rfl fun a I=>aP 5 [] [(18,.bool ((J.dv x_.cH DW).isSome))] I fun a I=>wpList_nil (tV _ _ ?_);refine bc [] [(94,.bool (!((J.dv x_.cH DW).isSome)))] I fun a I=>bi (I.g rfl) h (fun aq4 h=>?_) (fun aq4 h=>?_)
     · refine bt [] [(2,.i 5)] I fun a I=>wp_ret ?_;obtain rfl:=aB h;obtain rfl:=aB TF;refine a6 (ak (ak (a6 (ak (ak ?_)))));refine bn Tryz.results78 I rfl ?_;exact ⟨rfl,hm.aW [] []⟩
     refine wp_skip <| tU _ _ <| ch [] [(80,.i (J.ap (p8+ 1)))] I fun a I=>?_;exact mz _ _ ⟨J.ap (p8+ 1),I.cut,hm,h⟩
   refine wp_exit <| bx (bx (cw ?_));exact oz _ _ ⟨I.cut,hm,(os h)⟩
 rintro a w ⟨I,hm,bb⟩;subst V4;have h:=TF;clear TF;dsimp only [J.dZ] at h;refine q3 _ _ <| bt [] [(2,.i 0)] I fun a I=>wp_ret ?_;obtain rfl:=aB h;refine bn Tryz.results78 I rfl ?_;exact ⟨rfl,hm.aW [] []⟩
theorem abE {W:World} {X:List Nat} {F:Nat} {aK:List (List UInt8)} {r:Bool} {ag:aS} {ah:Nat} {M0:List Nat} (hm:au W M0 X W [] [U bz ag ah aK]) (h:J.Dc F aK=some r) :
 Calls Tryz.prog 104 [.q ag ah aK].toArray W (fun e aD=>e= .returned (.bool r)/\au W M0 X aD [] []):=by
 refine enter Tryz.func104 rfl Tryz.ntmps104 rfl fun a I=>?_;rw [J.Dc] at h;refine bc [] [] I fun a I=>wp_seq_k fun K bI=>aY <| MD (κ:=List UInt8) (β:=Bool) du Value.bool wn rfl I hm rfl rfl fun a fN w _ I hm=>aP 1 [] [(3,.map (some fN))] I fun a I=>wpList_nil (bI _ _ ?_);refine wp_seq_k fun K ca=>bc [] [(7,.q ag ah aK),(8,.i (aK.length:Int)),(9,.i 0)] I fun a I=>?_;obtain ⟨Vr,h,SV⟩:=J.aF h
 refine cb (fun a w=>∃ (Dd:List ((List UInt8) × Bool)),Fr ⟨21,[]⟩ [(0,.q ag ah aK),(3,.map (some fN))] a/\au W M0 X w [aq.map du Value.bool fN Dd] [U bz ag ah aK]/\Vr=Dd) (fun K cu=>?_) ?_
 · clear SV;refine cA (fun (bu:Nat) a w=>∃ (vn:List ((List UInt8) × Bool)) (p4:Int),Fr ⟨21,[]⟩ [(0,.q ag ah aK),(3,.map (some fN)),(7,.q ag ah aK),(8,.i (aK.length:Int)),(9,.i p4)] a/\au W M0 X w [aq.map du Value.bool fN vn] [U bz ag ah aK]/\J.yp aK bu vn p4=some Vr) F ⟨[],0,I.cut,hm,h⟩ ?_ ?_
   · rintro a w ⟨vn,p4,I,hm,h⟩;exact absurd h (by simp [J.yp])
   rintro bu a w ⟨vn,p4,I,hm,h⟩ K dL;rw [J.yp] at h;refine bc [] [(10,.bool (decide (p4 <(aK.length:Int))))] I fun a I=>wp_seq_k fun K cO=>bi (I.g rfl) h (fun aqx h=>?_) (fun aqx h=>?_)
   · refine wp_skip <| cO _ _ <| wp_seq_k fun K dp=>wp_block <| wp_seq_k fun K da=>aY ?_;obtain ⟨IZ,aDq,h⟩:=J.aF h;obtain ⟨amJ,axB,_,rfl,atl⟩:=bZ _ (hm.d 0 rfl) aDq;refine bQ wn (bF Tryz.underlying125 Tryz.sizeOf9 rfl (I.g rfl) (I.g rfl) amJ axB) I rfl rfl fun a I=>bf 2 [0,0] [(5,ao IZ)] [bG ag,bJ ag+(p4).toNat* 1] (aw atl ax) I fun a I=>wpList_nil (da _ _ ?_);refine aY <| aP 2 [] [(13,.map (some fN)),(14,ao IZ)] I fun a I=>Nv (K:=du) (ev:=Value.bool) 0 hm rfl wn Tryz.underlying178 Tryz.underlying9 (.inl rfl) (I.g rfl) (I.g rfl) (cW _ _) rfl fun w hm=>wpList_nil ?_
     refine dp _ _ <| ch [] [(9,.i (J.ap (p4+ 1)))] I fun a I=>?_;exact dL _ _ ⟨J.hI vn IZ true,J.ap (p4+ 1),I.cut,hm,h⟩
   refine wp_exit <| bx (bx (cw ?_));exact cu _ _ ⟨vn,I.cut,hm,(os h)⟩
 rintro a w ⟨Dd,I,hm,bb⟩;subst Vr;have h:=SV;clear SV;refine ca _ _ <| wp_seq_k fun K dA=>aY <| aP 1 [] [(16,.map (some fN))] I fun a I=>bQ wn (YG (K:=du) (ev:=Value.bool) Tryz.underlying178 ((hm.e 0 rfl)) rfl (I.g rfl)) I rfl rfl fun a I=>eo 4 [] [(2,.bool (decide ((Dd.length:Int) <(aK.length:Int))))] I fun a I=>wpList_nil (dA _ _ ?_);refine wp_ret ?_;obtain rfl:=aB h;refine bn Tryz.results104 I rfl ?_;exact ⟨rfl,hm.aW [] []⟩
theorem ajf {W:World} {X:List Nat} {F:Nat} {x_:J.df} {r:Int} {a8:Nat} {bg:aS} {bq:Nat} {b':Nat} {aT:aS} {aV:Nat} {M0:List Nat} (hm:au W M0 X W [] [al.cU a8 [.q bg bq x_.l,.map (some b'),.q aT aV x_.b1],U J.bd bg bq x_.l,al.map du (Value.int .i64) b' x_.cH,U (aj .i64) aT aV x_.b1]) (h:J.H2 F x_=some r) :
 Calls Tryz.prog 79 [.aL a8].toArray W (fun e aD=>e= .returned (.i r)/\au W M0 X aD [] []):=by
 refine enter Tryz.func79 rfl Tryz.ntmps79 rfl fun a I=>?_;rw [J.H2] at h;refine bc [] [] I fun a I=>wp_seq_k fun K bI=>wp_seq_k fun K ca=>eI [0,0] [(14,.q bg bq x_.l),(15,.i (x_.l.length:Int)),(16,.i 0)] [a8,0] (aw (hm.d 0 rfl).2.2 ax) I fun a I=>ca _ _ ?_;obtain ⟨Vn,h,LB⟩:=J.ef h
 refine cb (fun a w=>Fr ⟨55,[]⟩ [] a/\au W M0 X w [] [al.cU a8 [.q bg bq x_.l,.map (some b'),.q aT aV x_.b1],U J.bd bg bq x_.l,al.map du (Value.int .i64) b' x_.cH,U (aj .i64) aT aV x_.b1]/\Vn=(.go ())) (fun K cY=>?_) ?_
 · refine cA (fun (bu:Nat) a w=>∃ (iU:Int),Fr ⟨55,[]⟩ [(0,.aL a8),(14,.q bg bq x_.l),(15,.i (x_.l.length:Int)),(16,.i iU)] a/\au W M0 X w [] [al.cU a8 [.q bg bq x_.l,.map (some b'),.q aT aV x_.b1],U J.bd bg bq x_.l,al.map du (Value.int .i64) b' x_.cH,U (aj .i64) aT aV x_.b1]/\J.yl F x_ bu iU=some Vn) F ⟨0,I.cut,hm,h⟩ ?_ ?_
   · rintro a w ⟨iU,I,hm,h⟩;exact absurd h (by simp [J.yl])
   rintro bu a w ⟨iU,I,hm,h⟩ K cu;rw [J.yl] at h;refine bc [] [(17,.bool (decide (iU <(x_.l.length:Int))))] I fun a I=>wp_seq_k fun K dt=>bi (I.g rfl) h (fun aqo h=>?_) (fun aqo h=>?_)
   · refine wp_skip <| dt _ _ <| wp_seq_k fun K cO=>?_;obtain ⟨aeE,h,LH⟩:=J.e3 h;refine cb (fun a w=>Fr ⟨55,[]⟩ [(0,.aL a8),(14,.q bg bq x_.l),(15,.i (x_.l.length:Int)),(16,.i iU)] a/\au W M0 X w [] [al.cU a8 [.q bg bq x_.l,.map (some b'),.q aT aV x_.b1],U J.bd bg bq x_.l,al.map du (Value.int .i64) b' x_.cH,U (aj .i64) aT aV x_.b1]/\aeE=(.go ())) (fun K dp=>?_) ?_
     · refine wp_seq_k fun K da=>aY <| aP 1 [] [(18,.i iU)] I fun a I=>?_;obtain ⟨fh,aDj,h⟩:=J.aF h;obtain ⟨amz,axq,_,⟨qz,qR,mb,om,rfl,au4,au5⟩,as_⟩:=bZ _ (hm.d 1 rfl) aDj;have hm:=hm.more (y:=U J.aX qz qR fh.Fields) au4;have hm:=hm.more (y:=U J.b2 mb om fh.aR) au5;refine bQ wn (bF Tryz.underlying25 Tryz.sizeOf136 rfl (I.g rfl) (I.g rfl) amz axq) I rfl rfl fun a I=>?_
       refine bf 1 [0,0] [(20,.agg #[ao fh.Name,ao fh.bW,.q qz qR fh.Fields,.q mb om fh.aR])] [bG bg,bJ bg+(iU).toNat* 4] (aw as_ ax) I fun a I=>cy (cs:=[ao [],ao [],.slice none 0 0,.slice none 0 0]) wn (eJ Tryz.zeroValue136 rfl rfl) I hm rfl rfl fun a zJ w _ I hm=>aP 1 [] [(3,.i iU)] I fun a I=>cx (vs:=[ao fh.Name,ao fh.bW,.q qz qR fh.Fields,.q mb om fh.aR]) 0 hm rfl wn rfl Tryz.sizeOf136 rfl rfl rfl rfl (I.g rfl) (I.g rfl) rfl fun w hm=>wpList_nil ?_
       refine da _ _ <| bc [] [(5,.slice none 0 0),(6,.slice none 0 0)] I fun a I=>wp_seq_k fun K d_=>wp_seq_k fun K dQ=>aY <| aP 2 [] [(21,.aL a8),(22,.i iU)] I fun a I=>?_;obtain ⟨io,aAJ,h⟩:=J.aF h;have hc:=hm;refine bP (vs:=[.aL a8,.i iU]) wn rfl Tryz.call82 ⟨(I.g rfl),(I.g rfl),trivial⟩ (QC ((hc.into 0).pick ⟨⟨2,rfl⟩,⟨3,rfl⟩,⟨4,rfl⟩,⟨5,rfl⟩,trivial⟩) aAJ) I rfl rfl ?_;rintro _ w ⟨y6,Fp,y2,rfl,af⟩;refine ⟨_,rfl,fun a I=>?_⟩;have ad:a' [] _ w:=af.ev;have hm:=hc.back 0 af
       clear af hc;clear ad;refine aP 2 [] [(24,.i (io.length:Int)),(25,.i 0)] I fun a I=>wpList_nil (dQ _ _ ?_);have hm:=hm.cV (α:=List UInt8) 9 1;have hm:=hm.more (y:=al.rows bz [] []) rfl;obtain ⟨VN,h,Tj⟩:=J.aF h
       refine cb (fun a w=>∃ (s7:aS) (tD:Nat) (kC:List (List UInt8)) (Bj:dF),Fr ⟨55,[]⟩ [(0,.aL a8),(4,.aL zJ),(5,.q s7 tD kC),(6,.slice none 0 0),(14,.q bg bq x_.l),(15,.i (x_.l.length:Int)),(16,.i iU)] a/\au W M0 X w [aq.row 9 1 (.q s7 tD kC) kC Bj,aq.row 105 3 (.q y6 Fp io) io y2,aq.bm zJ 136 [ao fh.Name,ao fh.bW,.q qz qR fh.Fields,.q mb om fh.aR]] [al.rows bz Bj kC,al.rows J.aX y2 io,U J.b2 mb om fh.aR,U J.aX qz qR fh.Fields,al.cU a8 [.q bg bq x_.l,.map (some b'),.q aT aV x_.b1],U J.bd bg bq x_.l,al.map du (Value.int .i64) b' x_.cH,U (aj .i64) aT aV x_.b1]/\VN=kC) (fun K fx=>?_) ?_
       · clear Tj
         refine cA (fun (c4:Nat) a w=>∃ (BD:aS) (Ck:Nat) (pM:List (List UInt8)) (Jg:dF) (p6:Int),Fr ⟨55,[]⟩ [(0,.aL a8),(4,.aL zJ),(5,.q BD Ck pM),(6,.slice none 0 0),(14,.q bg bq x_.l),(15,.i (x_.l.length:Int)),(16,.i iU),(23,.q y6 Fp io),(24,.i (io.length:Int)),(25,.i p6)] a/\au W M0 X w [aq.row 9 1 (.q BD Ck pM) pM Jg,aq.row 105 3 (.q y6 Fp io) io y2,aq.bm zJ 136 [ao fh.Name,ao fh.bW,.q qz qR fh.Fields,.q mb om fh.aR]] [al.rows bz Jg pM,al.rows J.aX y2 io,U J.b2 mb om fh.aR,U J.aX qz qR fh.Fields,al.cU a8 [.q bg bq x_.l,.map (some b'),.q aT aV x_.b1],U J.bd bg bq x_.l,al.map du (Value.int .i64) b' x_.cH,U (aj .i64) aT aV x_.b1]/\J.vg io c4 pM p6=some VN) F ⟨none,0,[],[],0,I.cut,hm,h⟩ ?_ ?_
         · rintro a w ⟨BD,Ck,pM,Jg,p6,I,hm,h⟩;exact absurd h (by simp [J.vg])
         rintro c4 a w ⟨BD,Ck,pM,Jg,p6,I,hm,h⟩ K fi;rw [J.vg] at h;refine bc [] [(26,.bool (decide (p6 <(io.length:Int))))] I fun a I=>wp_seq_k fun K hf=>bi (I.g rfl) h (fun aqw h=>?_) (fun aqw h=>?_)
         · refine wp_skip <| hf _ _ <| wp_seq_k fun K fy=>wp_block <| wp_seq_k fun K fO=>aY ?_;obtain ⟨qm,aDl,h⟩:=J.aF h;obtain ⟨amB,axr,_,rfl,as'⟩:=gi (hm.e 1 rfl) (hm.d 1 rfl) aDl;refine bQ wn (bF Tryz.underlying106 Tryz.sizeOf105 rfl (I.g rfl) (I.g rfl) amB axr) I rfl rfl fun a I=>bf 1 [0,0] [(28,.agg #[ao qm.Name,.i qm.Kind.Kind,ao qm.Kind.aN])] [bG y6,bJ y6+(p6).toNat* 3] (aw as' ax) I fun a I=>cy (cs:=[ao [],.i 0,ao []]) wn (eJ Tryz.zeroValue105 rfl rfl) I hm rfl rfl fun a akN w _ I hm=>?_
           refine cx (vs:=[ao qm.Name,.i qm.Kind.Kind,ao qm.Kind.aN]) 0 hm rfl wn rfl Tryz.sizeOf105 rfl rfl rfl rfl (I.g rfl) (I.g rfl) rfl fun w hm=>wpList_nil <| fO _ _ <| aY <| bf 3 [0,0] [(29,.q BD Ck pM),(31,ao qm.Name)] [akN,0] (aw (aZ (hm.e 0 rfl)) ax) I fun a I=>gw (cs:=[ao qm.Name]) wn (fX (vs:=[(0,ao qm.Name)]) Tryz.underlying125 Tryz.sizeOf9 Tryz.zeroValue9 rfl rfl rfl ⟨⟨(I.g rfl),rfl⟩,trivial⟩ (by kernel_rfl)) I hm rfl rfl fun a aJW w _ I hm=>?_;obtain ⟨Ml,ay6,h⟩:=J.aF h
           refine iJ (T:=bz) (ml:=[qm.Name]) 2 0 0 hm rfl rfl rfl Tryz.underlying125 ya rfl rfl ay6 rfl rfl ⟨_,_,rfl,rfl,rfl⟩ wn rfl (I.g rfl) (I.g rfl) I rfl rfl fun a Zn aaQ aHU w I hm=>aP 1 [] [(5,.q Zn aaQ Ml)] I fun a I=>wpList_nil (fy _ _ ?_);refine ch [] [(25,.i (J.ap (p6+ 1)))] I fun a I=>?_;exact fi _ _ ⟨Zn,aaQ,Ml,aHU,J.ap (p6+ 1),I.cut,hm.aW [1,2,3] [0,2,3,4,5,6,7,8],h⟩
         refine wp_exit <| bx (bx (cw ?_));exact fx _ _ ⟨BD,Ck,pM,Jg,I.cut,hm,(os h)⟩
       rintro a w ⟨s7,tD,kC,Bj,I,hm,bb⟩;subst VN;have h:=Tj;clear Tj;refine d_ _ _ <| wp_seq_k fun K fU=>wp_seq_k fun K gr=>eI [0,3] [(36,.q mb om fh.aR),(37,.i (fh.aR.length:Int)),(38,.i 0)] [zJ,3] (aw (aZ (hm.e 2 rfl)) ax) I fun a I=>gr _ _ ?_;have hm:=hm.cV (α:=List UInt8) 9 1;have hm:=hm.more (y:=al.rows bz [] []) rfl;obtain ⟨VP,h,Tl⟩:=J.aF h
       refine cb (fun a w=>∃ (Ex:aS) (Fs:Nat) (sE:List (List UInt8)) (YB:dF),Fr ⟨55,[]⟩ [(0,.aL a8),(5,.q s7 tD kC),(6,.q Ex Fs sE),(14,.q bg bq x_.l),(15,.i (x_.l.length:Int)),(16,.i iU)] a/\au W M0 X w [aq.row 9 1 (.q Ex Fs sE) sE YB,aq.row 9 1 (.q s7 tD kC) kC Bj,aq.row 105 3 (.q y6 Fp io) io y2,aq.bm zJ 136 [ao fh.Name,ao fh.bW,.q qz qR fh.Fields,.q mb om fh.aR]] [al.rows bz YB sE,al.rows bz Bj kC,al.rows J.aX y2 io,U J.b2 mb om fh.aR,U J.aX qz qR fh.Fields,al.cU a8 [.q bg bq x_.l,.map (some b'),.q aT aV x_.b1],U J.bd bg bq x_.l,al.map du (Value.int .i64) b' x_.cH,U (aj .i64) aT aV x_.b1]/\VP=sE) (fun K gN=>?_) ?_
       · clear Tl
         refine cA (fun (eB:Nat) a w=>∃ (BF:aS) (Cm:Nat) (pO:List (List UInt8)) (Jh:dF) (p7:Int),Fr ⟨55,[]⟩ [(0,.aL a8),(5,.q s7 tD kC),(6,.q BF Cm pO),(14,.q bg bq x_.l),(15,.i (x_.l.length:Int)),(16,.i iU),(36,.q mb om fh.aR),(37,.i (fh.aR.length:Int)),(38,.i p7)] a/\au W M0 X w [aq.row 9 1 (.q BF Cm pO) pO Jh,aq.row 9 1 (.q s7 tD kC) kC Bj,aq.row 105 3 (.q y6 Fp io) io y2,aq.bm zJ 136 [ao fh.Name,ao fh.bW,.q qz qR fh.Fields,.q mb om fh.aR]] [al.rows bz Jh pO,al.rows bz Bj kC,al.rows J.aX y2 io,U J.b2 mb om fh.aR,U J.aX qz qR fh.Fields,al.cU a8 [.q bg bq x_.l,.map (some b'),.q aT aV x_.b1],U J.bd bg bq x_.l,al.map du (Value.int .i64) b' x_.cH,U (aj .i64) aT aV x_.b1]/\J.vh fh eB pO p7=some VP) F ⟨none,0,[],[],0,I.cut,hm,h⟩ ?_ ?_
         · rintro a w ⟨BF,Cm,pO,Jh,p7,I,hm,h⟩;exact absurd h (by simp [J.vh])
         rintro eB a w ⟨BF,Cm,pO,Jh,p7,I,hm,h⟩ K hG;rw [J.vh] at h;refine bc [] [(39,.bool (decide (p7 <(fh.aR.length:Int))))] I fun a I=>wp_seq_k fun K ht=>bi (I.g rfl) h (fun aqB h=>?_) (fun aqB h=>?_)
         · refine wp_skip <| ht _ _ <| wp_seq_k fun K hv=>wp_block <| wp_seq_k fun K hx=>aY ?_;obtain ⟨hT,aDr,h⟩:=J.aF h;obtain ⟨amF,axw,_,⟨PD,Qf,PE,Qg,rfl,au_,au'⟩,ate⟩:=bZ _ (hm.d 3 rfl) aDr;have hm:=hm.more (y:=U J.dx PD Qf hT.bD) au_;have hm:=hm.more (y:=U J.er PE Qg hT.bH) au';refine bQ wn (bF Tryz.underlying134 Tryz.sizeOf133 rfl (I.g rfl) (I.g rfl) amF axw) I rfl rfl fun a I=>?_
           refine bf 1 [0,0] [(41,.agg #[ao hT.Name,.bool hT.Static,.q PD Qf hT.bD,.i hT.Returns.Kind,ao hT.Returns.aN,.i hT.cT,.i hT.cS,ao hT.Code,.q PE Qg hT.bH])] [bG mb,bJ mb+(p7).toNat* 9] (aw ate ax) I fun a I=>cy (cs:=[ao [],.bool false,.slice none 0 0,.i 0,ao [],.i 0,.i 0,ao [],.slice none 0 0]) wn (eJ Tryz.zeroValue133 rfl rfl) I hm rfl rfl fun a akP w _ I hm=>?_
           refine cx (vs:=[ao hT.Name,.bool hT.Static,.q PD Qf hT.bD,.i hT.Returns.Kind,ao hT.Returns.aN,.i hT.cT,.i hT.cS,ao hT.Code,.q PE Qg hT.bH]) 0 hm rfl wn rfl Tryz.sizeOf133 rfl rfl rfl rfl (I.g rfl) (I.g rfl) rfl fun w hm=>wpList_nil <| hx _ _ <| aY <| bf 3 [0,0] [(42,.q BF Cm pO),(44,ao hT.Name)] [akP,0] (aw (aZ (hm.e 0 rfl)) ax) I fun a I=>?_
           refine gw (cs:=[ao hT.Name]) wn (fX (vs:=[(0,ao hT.Name)]) Tryz.underlying125 Tryz.sizeOf9 Tryz.zeroValue9 rfl rfl rfl ⟨⟨(I.g rfl),rfl⟩,trivial⟩ (by kernel_rfl)) I hm rfl rfl fun a aJX w _ I hm=>?_;obtain ⟨Mm,ay7,h⟩:=J.aF h;refine iJ (T:=bz) (ml:=[hT.Name]) 2 0 2 hm rfl rfl rfl Tryz.underlying125 ya rfl rfl ay7 rfl rfl ⟨_,_,rfl,rfl,rfl⟩ wn rfl (I.g rfl) (I.g rfl) I rfl rfl fun a Zq aaS aHV w I hm=>aP 1 [] [(6,.q Zq aaS Mm)] I fun a I=>wpList_nil (hv _ _ ?_);refine ch [] [(38,.i (J.ap (p7+ 1)))] I fun a I=>?_
           exact hG _ _ ⟨Zq,aaS,Mm,aHV,J.ap (p7+ 1),I.cut,hm.aW [1,2,3,4] [0,4,5,6,7,8,9,10,11],h⟩
         refine wp_exit <| bx (bx (cw ?_));exact gN _ _ ⟨BF,Cm,pO,Jh,I.cut,hm,(os h)⟩
       rintro a w ⟨Ex,Fs,sE,YB,I,hm,bb⟩;subst VP;have h:=Tl;clear Tl;refine fU _ _ <| wp_seq_k fun K jz=>aY <| aP 1 [] [(48,.q s7 tD kC)] I fun a I=>?_;obtain ⟨M9,aAS,h⟩:=J.aF h;have hc:=hm;have az:=hc.freeze 1 1 rfl rfl;refine bP (vs:=[.q s7 tD kC]) wn rfl Tryz.call104 ⟨(I.g rfl),trivial⟩ (abE ((az.into 0).pick ⟨⟨0,rfl⟩,trivial⟩) aAS) I rfl rfl ?_;rintro _ w ⟨rfl,af⟩;refine ⟨_,rfl,fun a I=>?_⟩;have ad:a' [] _ w:=af.ev;have hm:=hc.gl 0 (by exact trivial) af;clear af hc az;clear ad
       refine aP 1 [] [(50,.bool M9)] I fun a I=>?_;rcases Bool.eq_false_or_eq_true M9 with GR | GR
       · have h:=J.di GR h;have I:=I.b5 50 rfl GR;refine aP 3 [1,1,1] [(53,.bool true)] I fun a I=>wpList_nil (jz _ _ ?_);refine eN (I.g rfl) rfl <| bt [] [(2,.i 6)] I fun a I=>wp_ret ?_;obtain rfl:=aB h;obtain rfl:=aB LH;obtain rfl:=aB LB;refine a6 (ak (ak (ak (a6 (ak (ak ?_))))));refine bn Tryz.results79 I rfl ?_;exact ⟨rfl,hm.aW [] []⟩
       have h:=J.dh GR h;have I:=I.b5 50 rfl GR;refine aP 1 [1] [(51,.q Ex Fs sE)] I fun a I=>?_;obtain ⟨Xx,aAT,h⟩:=J.aF h;have hc:=hm;have az:=hc.freeze 0 0 rfl rfl;refine bP (vs:=[.q Ex Fs sE]) (c1 I rfl rfl rfl rfl) rfl Tryz.call104 ⟨(I.g rfl),trivial⟩ (abE ((az.into 0).pick ⟨⟨0,rfl⟩,trivial⟩) aAT) I rfl rfl ?_;rintro _ w ⟨rfl,af⟩;refine ⟨_,rfl,fun a I=>?_⟩;have ad:a' [] _ w:=af.ev;have hm:=hc.gl 0 (by exact trivial) af;clear af hc az;clear ad;refine aP 1 [1] [(53,.bool Xx)] I fun a I=>wpList_nil (jz _ _ ?_)
       refine bi (I.g rfl) h (fun aqE h=>?_) (fun aqE h=>?_)
       · refine bt [] [(2,.i 6)] I fun a I=>wp_ret ?_;obtain rfl:=aB h;obtain rfl:=aB LH;obtain rfl:=aB LB;refine a6 (ak (ak (ak (a6 (ak (ak ?_))))));refine bn Tryz.results79 I rfl ?_;exact ⟨rfl,hm.aW [] []⟩
       refine wp_skip ?_;exact dp _ _ ⟨I.cut,hm.aW [] [5,6,7,8],(os h)⟩
     rintro a w ⟨I,hm,bb⟩;subst aeE;have h:=LH;clear LH;dsimp only [J.eV] at h;refine cO _ _ <| ch [] [(16,.i (J.ap (iU+ 1)))] I fun a I=>?_;exact cu _ _ ⟨J.ap (iU+ 1),I.cut,hm,h⟩
   refine wp_exit <| bx (bx (cw ?_));exact cY _ _ ⟨I.cut,hm,(os h)⟩
 rintro a w ⟨I,hm,bb⟩;subst Vn;have h:=LB;clear LB;dsimp only [J.dZ] at h;refine bI _ _ <| bt [] [(2,.i 0)] I fun a I=>wp_ret ?_;obtain rfl:=aB h;refine bn Tryz.results79 I rfl ?_;exact ⟨rfl,hm.aW [] []⟩
theorem aju {W:World} {X:List Nat} {F:Nat} {b8:List J.Kind} {cp:List J.Kind} {r:Bool} {ag:aS} {ah:Nat} {aI:aS} {aQ:Nat} {M0:List Nat} (hm:au W M0 X W [] [U J.dx ag ah b8,U J.dx aI aQ cp]) (h:J.IB F b8 cp=some r) :
 Calls Tryz.prog 133 [.q ag ah b8,.q aI aQ cp].toArray W (fun e aD=>e= .returned (.bool r)/\au W M0 X aD [] []):=by
 refine enter Tryz.func133 rfl Tryz.ntmps133 rfl fun a I=>?_;rw [J.IB] at h;refine bc [] [] I fun a I=>wp_seq_k fun K bI=>bc [] [(10,.bool (!decide ((b8.length:Int)=(cp.length:Int))))] I fun a I=>bi (I.g rfl) h (fun hZ h=>?_) (fun hZ h=>?_)
 · refine bt [] [(4,.bool false)] I fun a I=>wp_ret ?_;obtain rfl:=aB h;refine ak <| bn Tryz.results133 I rfl ?_;exact ⟨rfl,hm.aW [] []⟩
 refine wp_skip <| bI _ _ <| wp_seq_k fun K cu=>bc [] [(12,.i (b8.length:Int)),(13,.i 0)] I fun a I=>?_;obtain ⟨gv,h,gd⟩:=J.ef h;refine cb (fun a w=>Fr ⟨26,[]⟩ [] a/\au W M0 X w [] [U J.dx ag ah b8,U J.dx aI aQ cp]/\gv=(.go ())) (fun K dt=>?_) ?_
 · refine cA (fun (bu:Nat) a w=>∃ (cf:Int),Fr ⟨26,[]⟩ [(0,.q ag ah b8),(1,.q aI aQ cp),(12,.i (b8.length:Int)),(13,.i cf)] a/\au W M0 X w [] [U J.dx ag ah b8,U J.dx aI aQ cp]/\J.AW b8 cp bu cf=some gv) F ⟨0,I.cut,hm,h⟩ ?_ ?_
   · rintro a w ⟨cf,I,hm,h⟩;exact absurd h (by simp [J.AW])
   rintro bu a w ⟨cf,I,hm,h⟩ K cO;rw [J.AW] at h;refine bc [] [(14,.bool (decide (cf <(b8.length:Int))))] I fun a I=>wp_seq_k fun K da=>bi (I.g rfl) h (fun mB h=>?_) (fun mB h=>?_)
   · refine wp_skip <| da _ _ <| wp_seq_k fun K dA=>wp_block <| bc [] [(5,.i cf)] I fun a I=>wp_seq_k fun K dQ=>hF (by kernel_rfl) (by kernel_rfl) <| dM 2 [] [(16,.q ag ah b8),(17,.i cf)] [] (fun a7 ad=>ax) I fun a I=>?_;obtain ⟨fk,mJ,h⟩:=J.aF h;obtain ⟨mu,mG,_,rfl,mC⟩:=bZ _ (hm.d 0 rfl) mJ;refine eM wn (fun a7 ad=>bF Tryz.underlying130 Tryz.sizeOf103 rfl (I.g rfl) (I.g rfl) mu mG) I rfl rfl fun a I=>?_
     refine dM 3 [0,0] [(19,.agg #[.i fk.Kind,ao fk.aN]),(20,.q aI aQ cp),(21,.i cf)] [bG ag,bJ ag+(cf).toNat* 2] (fun a7 ad=>(aw (b9 ad mC) ax)) I fun a I=>?_;obtain ⟨fu,mK,h⟩:=J.aF h;obtain ⟨mv,mH,_,rfl,mD⟩:=bZ _ (hm.d 1 rfl) mK;refine eM wn (fun a7 ad=>bF Tryz.underlying130 Tryz.sizeOf103 rfl (I.g rfl) (I.g rfl) mv mH) I rfl rfl fun a I=>dM 1 [0,0] [(23,.agg #[.i fu.Kind,ao fu.aN])] [bG aI,bJ aI+(cf).toNat* 2] (fun a7 ad=>(aw (b9 ad mD) ax)) I fun a I=>eM wn (fun a7 ad=>FT (X:=fk) (Y:=fu) rfl (I.g rfl) (I.g rfl)) I rfl rfl fun a I=>wpQuiet_nil fun w ad=>?_
     have hm:=hm.dB ad;clear ad;refine dQ _ _ <| bi (I.g rfl) h (fun k2 h=>?_) (fun k2 h=>?_)
     · refine bt [] [(4,.bool false)] I fun a I=>wp_ret ?_;obtain rfl:=aB h;obtain rfl:=aB gd;refine a6 (ak (ak (a6 (ak (ak ?_)))));refine bn Tryz.results133 I rfl ?_;exact ⟨rfl,hm.aW [] []⟩
     refine wp_skip <| dA _ _ <| ch [] [(13,.i (J.ap (cf+ 1)))] I fun a I=>?_;exact cO _ _ ⟨J.ap (cf+ 1),I.cut,hm,h⟩
   refine wp_exit <| bx (bx (cw ?_));exact dt _ _ ⟨I.cut,hm,(os h)⟩
 rintro a w ⟨I,hm,bb⟩;subst gv;have h:=gd;clear gd;dsimp only [J.dZ] at h;refine cu _ _ <| bt [] [(4,.bool true)] I fun a I=>wp_ret ?_;obtain rfl:=aB h;refine bn Tryz.results133 I rfl ?_;exact ⟨rfl,hm.aW [] []⟩
theorem aja {W:World} {X:List Nat} {F:Nat} {a_:J.Method} {b_:J.Method} {r:Bool} {ag:aS} {ah:Nat} {aI:aS} {aQ:Nat} {aT:aS} {aV:Nat} {bl:aS} {bp:Nat} {M0:List Nat} (hm:au W M0 X W [] [U J.dx ag ah a_.bD,U J.er aI aQ a_.bH,U J.dx aT aV b_.bD,U J.er bl bp b_.bH]) (h:J.Mu F a_ b_=some r) :
 Calls Tryz.prog 106 [.agg #[ao a_.Name,.bool a_.Static,.q ag ah a_.bD,.i a_.Returns.Kind,ao a_.Returns.aN,.i a_.cT,.i a_.cS,ao a_.Code,.q aI aQ a_.bH],.agg #[ao b_.Name,.bool b_.Static,.q aT aV b_.bD,.i b_.Returns.Kind,ao b_.Returns.aN,.i b_.cT,.i b_.cS,ao b_.Code,.q bl bp b_.bH]].toArray W (fun e aD=>e= .returned (.bool r)/\au W M0 X aD [] []):=by
 refine enter Tryz.func106 rfl Tryz.ntmps106 rfl fun a I=>?_;rw [J.Mu] at h;refine wp_seq_k fun K cZ=>aY <| cy (cs:=[ao a_.Name,.bool a_.Static,.q ag ah a_.bD,.i a_.Returns.Kind,ao a_.Returns.aN,.i a_.cT,.i a_.cS,ao a_.Code,.q aI aQ a_.bH]) wn (ei rfl rfl (I.g rfl)) I hm rfl rfl fun a gp w _ I hm=>cy (cs:=[ao b_.Name,.bool b_.Static,.q aT aV b_.bD,.i b_.Returns.Kind,ao b_.Returns.aN,.i b_.cT,.i b_.cS,ao b_.Code,.q bl bp b_.bH]) wn (ei rfl rfl (I.g rfl)) I hm rfl rfl fun a kW w _ I hm=>?_
 refine aP 1 [] [] I fun a I=>wpList_nil (cZ _ _ ?_);refine wp_seq_k fun K bI=>aY <| bf 9 [0,1,0,0,1,1,0,0] [(13,.bool ((!a_.Static) && (!b_.Static)))] [kW,1,gp,1] (aw (aZ (hm.e 1 rfl)) (aw (aZ (hm.e 0 rfl)) ax)) I fun a I=>?_;rcases Bool.eq_false_or_eq_true ((!a_.Static) && (!b_.Static)) with t' | t'
 · have h:=J.di t' h;have I:=I.b5 13 rfl t';refine bf 4 [1,1,0,2,1,1,1,2] [(15,.q ag ah a_.bD),(17,.q aT aV b_.bD)] [kW,2,gp,2] (aw (aZ (hm.e 1 rfl)) (aw (aZ (hm.e 0 rfl)) ax)) I fun a I=>?_;obtain ⟨c2,mI,h⟩:=J.aF h;have hc:=hm;refine bP (vs:=[.q ag ah a_.bD,.q aT aV b_.bD]) (c1 I rfl rfl rfl rfl) rfl Tryz.call133 ⟨(I.g rfl),(I.g rfl),trivial⟩ (aju ((hc.into 0).pick ⟨⟨0,rfl⟩,⟨2,rfl⟩,trivial⟩) mI) I rfl rfl ?_;rintro _ w ⟨rfl,af⟩;refine ⟨_,rfl,fun a I=>?_⟩;have hm:=hc.back 0 af;clear af hc
   refine aP 2 [1] [(20,.bool c2)] I fun a I=>?_;rcases Bool.eq_false_or_eq_true c2 with jm | jm
   · have h:=J.di jm h;have I:=I.b5 20 rfl jm;refine bf 4 [1,1,0,3,1,1,1,3] [(22,.agg #[.i a_.Returns.Kind,ao a_.Returns.aN]),(24,.agg #[.i b_.Returns.Kind,ao b_.Returns.aN])] [kW,3,gp,3] (aw (aZ (hm.e 1 rfl)) (aw (aZ (hm.e 0 rfl)) ax)) I fun a I=>bQ (c1 I rfl rfl rfl rfl) (akl (X:=a_.Returns) (Y:=b_.Returns) rfl (I.g rfl) (I.g rfl)) I rfl rfl fun a I=>eo 2 [1] [(4,.bool (decide (a_.Returns=b_.Returns)))] I fun a I=>wpList_nil (bI _ _ ?_);refine wp_ret ?_;obtain rfl:=aB h;refine bn Tryz.results106 I rfl ?_
     exact ⟨rfl,hm.aW [] []⟩
   have h:=J.dh jm h;have I:=I.b5 20 rfl jm;refine eo 7 [1,1,1,1,1,1] [(4,.bool false)] I fun a I=>wpList_nil (bI _ _ ?_);refine wp_ret ?_;obtain rfl:=aB h;refine bn Tryz.results106 I rfl ?_;exact ⟨rfl,hm.aW [] []⟩
 have h:=J.dh t' h;have I:=I.b5 13 rfl t';refine eo 14 [1,1,1,1,1,1,1,1,1,1,1,1] [(4,.bool false)] I fun a I=>wpList_nil (bI _ _ ?_);refine wp_ret ?_;obtain rfl:=aB h;refine bn Tryz.results106 I rfl ?_;exact ⟨rfl,hm.aW [] []⟩
theorem ajd {W:World} {X:List Nat} {F:Nat} {x_:J.df} {r:Int} {a8:Nat} {bg:aS} {bq:Nat} {b':Nat} {aT:aS} {aV:Nat} {M0:List Nat} (hm:au W M0 X W [] [al.cU a8 [.q bg bq x_.l,.map (some b'),.q aT aV x_.b1],U J.bd bg bq x_.l,al.map du (Value.int .i64) b' x_.cH,U (aj .i64) aT aV x_.b1]) (h:J.H0 F x_=some r) :
 Calls Tryz.prog 80 [.aL a8].toArray W (fun e aD=>e= .returned (.i r)/\au W M0 X aD [] []):=by
 refine enter Tryz.func80 rfl Tryz.ntmps80 rfl fun a I=>?_;rw [J.H0] at h;refine bc [] [] I fun a I=>wp_seq_k fun K bI=>wp_seq_k fun K ca=>eI [0,0] [(14,.q bg bq x_.l),(15,.i (x_.l.length:Int)),(16,.i 0)] [a8,0] (aw (hm.d 0 rfl).2.2 ax) I fun a I=>ca _ _ ?_;obtain ⟨UW,h,So⟩:=J.ef h
 refine cb (fun a w=>Fr ⟨65,[]⟩ [] a/\au W M0 X w [] [al.cU a8 [.q bg bq x_.l,.map (some b'),.q aT aV x_.b1],U J.bd bg bq x_.l,al.map du (Value.int .i64) b' x_.cH,U (aj .i64) aT aV x_.b1]/\UW=(.go ())) (fun K cY=>?_) ?_
 · refine cA (fun (bu:Nat) a w=>∃ (hQ:Int),Fr ⟨65,[]⟩ [(0,.aL a8),(14,.q bg bq x_.l),(15,.i (x_.l.length:Int)),(16,.i hQ)] a/\au W M0 X w [] [al.cU a8 [.q bg bq x_.l,.map (some b'),.q aT aV x_.b1],U J.bd bg bq x_.l,al.map du (Value.int .i64) b' x_.cH,U (aj .i64) aT aV x_.b1]/\J.yi F x_ bu hQ=some UW) F ⟨0,I.cut,hm,h⟩ ?_ ?_
   · rintro a w ⟨hQ,I,hm,h⟩;exact absurd h (by simp [J.yi])
   rintro bu a w ⟨hQ,I,hm,h⟩ K cu;rw [J.yi] at h;refine bc [] [(17,.bool (decide (hQ <(x_.l.length:Int))))] I fun a I=>wp_seq_k fun K dt=>bi (I.g rfl) h (fun apx h=>?_) (fun apx h=>?_)
   · refine wp_skip <| dt _ _ <| wp_seq_k fun K cO=>?_;obtain ⟨aeq,h,SI⟩:=J.e3 h;refine cb (fun a w=>Fr ⟨65,[]⟩ [(0,.aL a8),(14,.q bg bq x_.l),(15,.i (x_.l.length:Int)),(16,.i hQ)] a/\au W M0 X w [] [al.cU a8 [.q bg bq x_.l,.map (some b'),.q aT aV x_.b1],U J.bd bg bq x_.l,al.map du (Value.int .i64) b' x_.cH,U (aj .i64) aT aV x_.b1]/\aeq=(.go ())) (fun K dp=>?_) ?_
     · refine wp_seq_k fun K da=>aY <| aP 1 [] [(18,.i hQ)] I fun a I=>?_;obtain ⟨dr,aCs,h⟩:=J.aF h;obtain ⟨alD,awt,_,⟨jZ,j3,hN,ih,rfl,auC,auD⟩,ar'⟩:=bZ _ (hm.d 1 rfl) aCs;have hm:=hm.more (y:=U J.aX jZ j3 dr.Fields) auC;have hm:=hm.more (y:=U J.b2 hN ih dr.aR) auD;refine bQ wn (bF Tryz.underlying25 Tryz.sizeOf136 rfl (I.g rfl) (I.g rfl) alD awt) I rfl rfl fun a I=>?_
       refine bf 1 [0,0] [(20,.agg #[ao dr.Name,ao dr.bW,.q jZ j3 dr.Fields,.q hN ih dr.aR])] [bG bg,bJ bg+(hQ).toNat* 4] (aw ar' ax) I fun a I=>cy (cs:=[ao [],ao [],.slice none 0 0,.slice none 0 0]) wn (eJ Tryz.zeroValue136 rfl rfl) I hm rfl rfl fun a lF w _ I hm=>aP 1 [] [(3,.i hQ)] I fun a I=>cx (vs:=[ao dr.Name,ao dr.bW,.q jZ j3 dr.Fields,.q hN ih dr.aR]) 0 hm rfl wn rfl Tryz.sizeOf136 rfl rfl rfl rfl (I.g rfl) (I.g rfl) rfl fun w hm=>?_
       refine wpList_nil <| da _ _ <| wp_seq_k fun K dA=>aY <| aP 2 [] [(21,.aL a8),(22,.i hQ)] I fun a I=>?_;obtain ⟨o5,aAb,h⟩:=J.aF h;have hc:=hm;refine bP (vs:=[.aL a8,.i hQ]) wn rfl Tryz.call105 ⟨(I.g rfl),(I.g rfl),trivial⟩ (QB ((hc.into 0).pick ⟨⟨2,rfl⟩,⟨3,rfl⟩,⟨4,rfl⟩,⟨5,rfl⟩,trivial⟩) aAb) I rfl rfl ?_;rintro _ w ⟨vT,xd,aKD,rfl,af⟩;refine ⟨_,rfl,fun a I=>?_⟩;have ad:a' [] _ w:=af.ev;have hm:=hc.back 0 af;clear af hc
       clear ad;obtain ⟨g3,ayR,h⟩:=J.aF h;have hm:=hm.freeze 0 0 rfl rfl;refine aGP (T:=(aj .i64)) (i:=1) (j:=(o5.length:Int)) 0 hm rfl Tryz.underlying22 Tryz.sizeOf3 ayR wn rfl (I.g rfl) (.inr ⟨_,rfl,(cW _ _)⟩) (.inl ⟨rfl,rfl⟩) I rfl rfl fun a kR mm I hm=>aP 2 [] [(25,.i (g3.length:Int)),(26,.i 0)] I fun a I=>wpList_nil (dA _ _ ?_);obtain ⟨Vg,h,SK⟩:=J.e3 h
       refine cb (fun a w=>Fr ⟨65,[]⟩ [(0,.aL a8),(14,.q bg bq x_.l),(15,.i (x_.l.length:Int)),(16,.i hQ)] a/\au W M0 X w [aq.bm lF 136 [ao dr.Name,ao dr.bW,.q jZ j3 dr.Fields,.q hN ih dr.aR]] [U (aj .i64) kR mm g3,U (aj .i64) vT xd o5,U J.b2 hN ih dr.aR,U J.aX jZ j3 dr.Fields,al.cU a8 [.q bg bq x_.l,.map (some b'),.q aT aV x_.b1],U J.bd bg bq x_.l,al.map du (Value.int .i64) b' x_.cH,U (aj .i64) aT aV x_.b1]/\Vg=(.go ())) (fun K d_=>?_) ?_
       · refine cA (fun (c4:Nat) a w=>∃ (kH:Int),Fr ⟨65,[]⟩ [(0,.aL a8),(4,.aL lF),(14,.q bg bq x_.l),(15,.i (x_.l.length:Int)),(16,.i hQ),(24,.q kR mm g3),(25,.i (g3.length:Int)),(26,.i kH)] a/\au W M0 X w [aq.bm lF 136 [ao dr.Name,ao dr.bW,.q jZ j3 dr.Fields,.q hN ih dr.aR]] [U (aj .i64) kR mm g3,U (aj .i64) vT xd o5,U J.b2 hN ih dr.aR,U J.aX jZ j3 dr.Fields,al.cU a8 [.q bg bq x_.l,.map (some b'),.q aT aV x_.b1],U J.bd bg bq x_.l,al.map du (Value.int .i64) b' x_.cH,U (aj .i64) aT aV x_.b1]/\J.yj F x_ dr g3 c4 kH=some Vg) F ⟨0,I.cut,hm.ec [0,1,3,4,5,6,7,8],h⟩ ?_ ?_
         · rintro a w ⟨kH,I,hm,h⟩;exact absurd h (by simp [J.yj])
         rintro c4 a w ⟨kH,I,hm,h⟩ K dQ;rw [J.yj] at h;refine bc [] [(27,.bool (decide (kH <(g3.length:Int))))] I fun a I=>wp_seq_k fun K fi=>bi (I.g rfl) h (fun apD h=>?_) (fun apD h=>?_)
         · refine wp_skip <| fi _ _ <| wp_seq_k fun K gA=>?_;obtain ⟨aes,h,SM⟩:=J.e3 h
           refine cb (fun a w=>Fr ⟨65,[]⟩ [(0,.aL a8),(4,.aL lF),(14,.q bg bq x_.l),(15,.i (x_.l.length:Int)),(16,.i hQ),(24,.q kR mm g3),(25,.i (g3.length:Int)),(26,.i kH)] a/\au W M0 X w [aq.bm lF 136 [ao dr.Name,ao dr.bW,.q jZ j3 dr.Fields,.q hN ih dr.aR]] [U (aj .i64) kR mm g3,U (aj .i64) vT xd o5,U J.b2 hN ih dr.aR,U J.aX jZ j3 dr.Fields,al.cU a8 [.q bg bq x_.l,.map (some b'),.q aT aV x_.b1],U J.bd bg bq x_.l,al.map du (Value.int .i64) b' x_.cH,U (aj .i64) aT aV x_.b1]/\aes=(.go ())) (fun K hf=>?_) ?_
           · refine wp_seq_k fun K fy=>aY ?_;obtain ⟨o_,aCt,h⟩:=J.aF h;obtain ⟨alE,awv,_,rfl,asc⟩:=bZ _ (hm.d 0 rfl) aCt;refine bQ wn (bF Tryz.underlying22 Tryz.sizeOf3 rfl (I.g rfl) (I.g rfl) alE awv) I rfl rfl fun a I=>bf 2 [0,0] [(6,.i o_)] [bG kR,bJ kR+(kH).toNat* 1] (aw asc ax) I fun a I=>wpList_nil (fy _ _ ?_);refine wp_seq_k fun K fO=>eI [0,3] [(31,.q hN ih dr.aR),(32,.i (dr.aR.length:Int)),(33,.i 0)] [lF,3] (aw (aZ (hm.e 0 rfl)) ax) I fun a I=>fO _ _ ?_;obtain ⟨Vi,h,SN⟩:=J.e3 h
             refine cb (fun a w=>Fr ⟨65,[]⟩ [(0,.aL a8),(4,.aL lF),(14,.q bg bq x_.l),(15,.i (x_.l.length:Int)),(16,.i hQ),(24,.q kR mm g3),(25,.i (g3.length:Int)),(26,.i kH)] a/\au W M0 X w [aq.bm lF 136 [ao dr.Name,ao dr.bW,.q jZ j3 dr.Fields,.q hN ih dr.aR]] [U (aj .i64) kR mm g3,U (aj .i64) vT xd o5,U J.b2 hN ih dr.aR,U J.aX jZ j3 dr.Fields,al.cU a8 [.q bg bq x_.l,.map (some b'),.q aT aV x_.b1],U J.bd bg bq x_.l,al.map du (Value.int .i64) b' x_.cH,U (aj .i64) aT aV x_.b1]/\Vi=(.go ())) (fun K fU=>?_) ?_
             · refine cA (fun (eB:Nat) a w=>∃ (mW:Int),Fr ⟨65,[]⟩ [(0,.aL a8),(4,.aL lF),(6,.i o_),(14,.q bg bq x_.l),(15,.i (x_.l.length:Int)),(16,.i hQ),(24,.q kR mm g3),(25,.i (g3.length:Int)),(26,.i kH),(31,.q hN ih dr.aR),(32,.i (dr.aR.length:Int)),(33,.i mW)] a/\au W M0 X w [aq.bm lF 136 [ao dr.Name,ao dr.bW,.q jZ j3 dr.Fields,.q hN ih dr.aR]] [U (aj .i64) kR mm g3,U (aj .i64) vT xd o5,U J.b2 hN ih dr.aR,U J.aX jZ j3 dr.Fields,al.cU a8 [.q bg bq x_.l,.map (some b'),.q aT aV x_.b1],U J.bd bg bq x_.l,al.map du (Value.int .i64) b' x_.cH,U (aj .i64) aT aV x_.b1]/\J.yk F x_ dr o_ eB mW=some Vi) F ⟨0,I.cut,hm,h⟩ ?_ ?_
               · rintro a w ⟨mW,I,hm,h⟩;exact absurd h (by simp [J.yk])
               rintro eB a w ⟨mW,I,hm,h⟩ K gr;rw [J.yk] at h;refine bc [] [(34,.bool (decide (mW <(dr.aR.length:Int))))] I fun a I=>wp_seq_k fun K hG=>bi (I.g rfl) h (fun apF h=>?_) (fun apF h=>?_)
               · refine wp_skip <| hG _ _ <| wp_seq_k fun K hY=>?_;obtain ⟨aet,h,SP⟩:=J.e3 h
                 refine cb (fun a w=>Fr ⟨65,[]⟩ [(0,.aL a8),(4,.aL lF),(6,.i o_),(14,.q bg bq x_.l),(15,.i (x_.l.length:Int)),(16,.i hQ),(24,.q kR mm g3),(25,.i (g3.length:Int)),(26,.i kH),(31,.q hN ih dr.aR),(32,.i (dr.aR.length:Int)),(33,.i mW)] a/\au W M0 X w [aq.bm lF 136 [ao dr.Name,ao dr.bW,.q jZ j3 dr.Fields,.q hN ih dr.aR]] [U (aj .i64) kR mm g3,U (aj .i64) vT xd o5,U J.b2 hN ih dr.aR,U J.aX jZ j3 dr.Fields,al.cU a8 [.q bg bq x_.l,.map (some b'),.q aT aV x_.b1],U J.bd bg bq x_.l,al.map du (Value.int .i64) b' x_.cH,U (aj .i64) aT aV x_.b1]/\aet=(.go ())) (fun K ht=>?_) ?_
                 · refine wp_seq_k fun K hv=>aY ?_;obtain ⟨dz,aCu,h⟩:=J.aF h;obtain ⟨alF,aww,_,⟨s5,tA,s6,tB,rfl,auG,auH⟩,asd⟩:=bZ _ (hm.d 2 rfl) aCu;have hm:=hm.more (y:=U J.dx s5 tA dz.bD) auG;have hm:=hm.more (y:=U J.er s6 tB dz.bH) auH;refine bQ wn (bF Tryz.underlying134 Tryz.sizeOf133 rfl (I.g rfl) (I.g rfl) alF aww) I rfl rfl fun a I=>?_
                   refine bf 1 [0,0] [(36,.agg #[ao dz.Name,.bool dz.Static,.q s5 tA dz.bD,.i dz.Returns.Kind,ao dz.Returns.aN,.i dz.cT,.i dz.cS,ao dz.Code,.q s6 tB dz.bH])] [bG hN,bJ hN+(mW).toNat* 9] (aw asd ax) I fun a I=>cy (cs:=[ao [],.bool false,.slice none 0 0,.i 0,ao [],.i 0,.i 0,ao [],.slice none 0 0]) wn (eJ Tryz.zeroValue133 rfl rfl) I hm rfl rfl fun a FW w _ I hm=>?_
                   refine cx (vs:=[ao dz.Name,.bool dz.Static,.q s5 tA dz.bD,.i dz.Returns.Kind,ao dz.Returns.aN,.i dz.cT,.i dz.cS,ao dz.Code,.q s6 tB dz.bH]) 0 hm rfl wn rfl Tryz.sizeOf133 rfl rfl rfl rfl (I.g rfl) (I.g rfl) rfl fun w hm=>wpList_nil <| hv _ _ <| wp_seq_k fun K hx=>aY <| bf 5 [0,0] [(40,.q bg bq x_.l),(41,.i o_)] [a8,0] (aw (hm.d 6 rfl).2.2 ax) I fun a I=>?_;obtain ⟨jX,aCv,h⟩:=J.aF h
                   obtain ⟨alG,awx,_,⟨Py,P',y5,Fg,rfl,auI,auJ⟩,ase⟩:=bZ _ (hm.d 7 rfl) aCv;have hm:=hm.more (y:=U J.aX Py P' jX.Fields) auI;have hm:=hm.more (y:=U J.b2 y5 Fg jX.aR) auJ;refine bQ wn (bF Tryz.underlying25 Tryz.sizeOf136 rfl (I.g rfl) (I.g rfl) alG awx) I rfl rfl fun a I=>bf 4 [0,3] [(44,.q y5 Fg jX.aR),(45,.i (jX.aR.length:Int)),(46,.i 0)] [bG bg,bJ bg+(o_).toNat* 4 + 3] (aw ase ax) I fun a I=>wpList_nil (hx _ _ ?_);obtain ⟨Vj,h,SQ⟩:=J.e3 h
                   refine cb (fun a w=>Fr ⟨65,[]⟩ [(0,.aL a8),(4,.aL lF),(6,.i o_),(14,.q bg bq x_.l),(15,.i (x_.l.length:Int)),(16,.i hQ),(24,.q kR mm g3),(25,.i (g3.length:Int)),(26,.i kH),(31,.q hN ih dr.aR),(32,.i (dr.aR.length:Int)),(33,.i mW)] a/\au W M0 X w [aq.bm FW 133 [ao dz.Name,.bool dz.Static,.q s5 tA dz.bD,.i dz.Returns.Kind,ao dz.Returns.aN,.i dz.cT,.i dz.cS,ao dz.Code,.q s6 tB dz.bH],aq.bm lF 136 [ao dr.Name,ao dr.bW,.q jZ j3 dr.Fields,.q hN ih dr.aR]] [U J.b2 y5 Fg jX.aR,U J.aX Py P' jX.Fields,U J.er s6 tB dz.bH,U J.dx s5 tA dz.bD,U (aj .i64) kR mm g3,U (aj .i64) vT xd o5,U J.b2 hN ih dr.aR,U J.aX jZ j3 dr.Fields,al.cU a8 [.q bg bq x_.l,.map (some b'),.q aT aV x_.b1],U J.bd bg bq x_.l,al.map du (Value.int .i64) b' x_.cH,U (aj .i64) aT aV x_.b1]/\Vj=(.go ())) (fun K jz=>?_) ?_
                   · refine cA (fun (fB:Nat) a w=>∃ (mX:Int),Fr ⟨65,[]⟩ [(0,.aL a8),(4,.aL lF),(6,.i o_),(8,.aL FW),(14,.q bg bq x_.l),(15,.i (x_.l.length:Int)),(16,.i hQ),(24,.q kR mm g3),(25,.i (g3.length:Int)),(26,.i kH),(31,.q hN ih dr.aR),(32,.i (dr.aR.length:Int)),(33,.i mW),(44,.q y5 Fg jX.aR),(45,.i (jX.aR.length:Int)),(46,.i mX)] a/\au W M0 X w [aq.bm FW 133 [ao dz.Name,.bool dz.Static,.q s5 tA dz.bD,.i dz.Returns.Kind,ao dz.Returns.aN,.i dz.cT,.i dz.cS,ao dz.Code,.q s6 tB dz.bH],aq.bm lF 136 [ao dr.Name,ao dr.bW,.q jZ j3 dr.Fields,.q hN ih dr.aR]] [U J.b2 y5 Fg jX.aR,U J.aX Py P' jX.Fields,U J.er s6 tB dz.bH,U J.dx s5 tA dz.bD,U (aj .i64) kR mm g3,U (aj .i64) vT xd o5,U J.b2 hN ih dr.aR,U J.aX jZ j3 dr.Fields,al.cU a8 [.q bg bq x_.l,.map (some b'),.q aT aV x_.b1],U J.bd bg bq x_.l,al.map du (Value.int .i64) b' x_.cH,U (aj .i64) aT aV x_.b1]/\J.vf F dz jX fB mX=some Vj) F ⟨0,I.cut,hm,h⟩ ?_ ?_
                     · rintro a w ⟨mX,I,hm,h⟩;exact absurd h (by simp [J.vf])
                     rintro fB a w ⟨mX,I,hm,h⟩ K jk;rw [J.vf] at h;refine bc [] [(47,.bool (decide (mX <(jX.aR.length:Int))))] I fun a I=>wp_seq_k fun K jA=>bi (I.g rfl) h (fun apG h=>?_) (fun apG h=>?_)
                     · refine wp_skip <| jA _ _ <| wp_seq_k fun K jB=>wp_block <| wp_seq_k fun K j_=>aY ?_;obtain ⟨eU,aCw,h⟩:=J.aF h;obtain ⟨alH,awy,_,⟨En,Fh,Eo,Fi,rfl,auK,auL⟩,asf⟩:=bZ _ (hm.d 0 rfl) aCw;have hm:=hm.more (y:=U J.dx En Fh eU.bD) auK;have hm:=hm.more (y:=U J.er Eo Fi eU.bH) auL;refine bQ wn (bF Tryz.underlying134 Tryz.sizeOf133 rfl (I.g rfl) (I.g rfl) alH awy) I rfl rfl fun a I=>?_
                       refine bf 1 [0,0] [(49,.agg #[ao eU.Name,.bool eU.Static,.q En Fh eU.bD,.i eU.Returns.Kind,ao eU.Returns.aN,.i eU.cT,.i eU.cS,ao eU.Code,.q Eo Fi eU.bH])] [bG y5,bJ y5+(mX).toNat* 9] (aw asf ax) I fun a I=>cy (cs:=[ao [],.bool false,.slice none 0 0,.i 0,ao [],.i 0,.i 0,ao [],.slice none 0 0]) wn (eJ Tryz.zeroValue133 rfl rfl) I hm rfl rfl fun a acv w _ I hm=>?_
                       refine cx (vs:=[ao eU.Name,.bool eU.Static,.q En Fh eU.bD,.i eU.Returns.Kind,ao eU.Returns.aN,.i eU.cT,.i eU.cS,ao eU.Code,.q Eo Fi eU.bH]) 0 hm rfl wn rfl Tryz.sizeOf133 rfl rfl rfl rfl (I.g rfl) (I.g rfl) rfl fun w hm=>wpList_nil <| j_ _ _ <| wp_seq_k fun K j'=>aY <| bf 6 [0,0,1,0] [(55,.bool (decide (dz.Name=eU.Name)))] [acv,0,FW,0] (aw (aZ (hm.e 1 rfl)) (aw (aZ (hm.e 0 rfl)) ax)) I fun a I=>?_
                       rcases Bool.eq_false_or_eq_true (decide (dz.Name=eU.Name)) with Gs | Gs
                       · have h:=J.di Gs h;have I:=I.b5 55 rfl Gs;refine bf 2 [1,0,0,1,1,0] [(56,.agg #[ao dz.Name,.bool dz.Static,.q s5 tA dz.bD,.i dz.Returns.Kind,ao dz.Returns.aN,.i dz.cT,.i dz.cS,ao dz.Code,.q s6 tB dz.bH]),(57,.agg #[ao eU.Name,.bool eU.Static,.q En Fh eU.bD,.i eU.Returns.Kind,ao eU.Returns.aN,.i eU.cT,.i eU.cS,ao eU.Code,.q Eo Fi eU.bH])] [acv,0,FW,0] (aw (aZ (hm.e 1 rfl)) (aw (aZ (hm.e 0 rfl)) ax)) I fun a I=>?_;obtain ⟨Xb,aAd,h⟩:=J.aF h;have hc:=hm
                         refine bP (vs:=[.agg #[ao dz.Name,.bool dz.Static,.q s5 tA dz.bD,.i dz.Returns.Kind,ao dz.Returns.aN,.i dz.cT,.i dz.cS,ao dz.Code,.q s6 tB dz.bH],.agg #[ao eU.Name,.bool eU.Static,.q En Fh eU.bD,.i eU.Returns.Kind,ao eU.Returns.aN,.i eU.cT,.i eU.cS,ao eU.Code,.q Eo Fi eU.bH]]) (c1 I rfl rfl rfl rfl) rfl Tryz.call106 ⟨(I.g rfl),(I.g rfl),trivial⟩ (aja (a_:=dz) (b_:=eU) ((hc.into 0).pick ⟨⟨5,rfl⟩,⟨4,rfl⟩,⟨1,rfl⟩,⟨0,rfl⟩,trivial⟩) aAd) I rfl rfl ?_
                         rintro _ w ⟨rfl,af⟩;refine ⟨_,rfl,fun a I=>?_⟩;have hm:=hc.back 0 af;clear af hc;refine aP 2 [1,1] [(60,.bool (!Xb))] I fun a I=>wpList_nil (j' _ _ ?_);refine bi (I.g rfl) h (fun apH h=>?_) (fun apH h=>?_)
                         · refine bt [] [(2,.i 4)] I fun a I=>wp_ret ?_;obtain rfl:=aB h;obtain rfl:=aB SQ;obtain rfl:=aB SP;obtain rfl:=aB SN;obtain rfl:=aB SM;obtain rfl:=aB SK;obtain rfl:=aB SI;obtain rfl:=aB So
                           refine a6 (ak (ak (a6 (ak (a6 (ak (ak (ak (a6 (ak (a6 (ak (ak (ak (a6 (ak (a6 (ak (ak (ak (a6 (ak (ak ?_)))))))))))))))))))))));refine bn Tryz.results80 I rfl ?_;exact ⟨rfl,hm.aW [] []⟩
                         refine wp_skip <| jB _ _ <| ch [] [(46,.i (J.ap (mX+ 1)))] I fun a I=>?_;exact jk _ _ ⟨J.ap (mX+ 1),I.cut,hm.aW [1,2] [2,3,4,5,6,7,8,9,10,11,12,13],h⟩
                       have h:=J.dh Gs h;have I:=I.b5 55 rfl Gs;refine aP 5 [1,1,1,1,1] [(60,.bool false)] I fun a I=>wpList_nil (j' _ _ ?_);refine ij (I.g rfl) rfl <| wp_skip <| jB _ _ <| ch [] [(46,.i (J.ap (mX+ 1)))] I fun a I=>?_;exact jk _ _ ⟨J.ap (mX+ 1),I.cut,hm.aW [1,2] [2,3,4,5,6,7,8,9,10,11,12,13],h⟩
                     refine wp_exit <| bx (bx (cw ?_));exact jz _ _ ⟨I.cut,hm,(os h)⟩
                   rintro a w ⟨I,hm,bb⟩;subst Vj;have h:=SQ;clear SQ;dsimp only [J.eV] at h;exact ht _ _ ⟨I.cut,hm.aW [1] [4,5,6,7,8,9,10,11],(os h)⟩
                 rintro a w ⟨I,hm,bb⟩;subst aet;have h:=SP;clear SP;dsimp only [J.eV] at h;refine hY _ _ <| ch [] [(33,.i (J.ap (mW+ 1)))] I fun a I=>?_;exact gr _ _ ⟨J.ap (mW+ 1),I.cut,hm,h⟩
               refine wp_exit <| bx (bx (cw ?_));exact fU _ _ ⟨I.cut,hm,(os h)⟩
             rintro a w ⟨I,hm,bb⟩;subst Vi;have h:=SN;clear SN;dsimp only [J.eV] at h;exact hf _ _ ⟨I.cut,hm,(os h)⟩
           rintro a w ⟨I,hm,bb⟩;subst aes;have h:=SM;clear SM;dsimp only [J.eV] at h;refine gA _ _ <| ch [] [(26,.i (J.ap (kH+ 1)))] I fun a I=>?_;exact dQ _ _ ⟨J.ap (kH+ 1),I.cut,hm,h⟩
         refine wp_exit <| bx (bx (cw ?_));exact d_ _ _ ⟨I.cut,hm,(os h)⟩
       rintro a w ⟨I,hm,bb⟩;subst Vg;have h:=SK;clear SK;dsimp only [J.eV] at h;exact dp _ _ ⟨I.cut,hm.aW [] [4,5,6,7],(os h)⟩
     rintro a w ⟨I,hm,bb⟩;subst aeq;have h:=SI;clear SI;dsimp only [J.eV] at h;refine cO _ _ <| ch [] [(16,.i (J.ap (hQ+ 1)))] I fun a I=>?_;exact cu _ _ ⟨J.ap (hQ+ 1),I.cut,hm,h⟩
   refine wp_exit <| bx (bx (cw ?_));exact cY _ _ ⟨I.cut,hm,(os h)⟩
 rintro a w ⟨I,hm,bb⟩;subst UW;have h:=So;clear So;dsimp only [J.dZ] at h;refine bI _ _ <| bt [] [(2,.i 0)] I fun a I=>wp_ret ?_;obtain rfl:=aB h;refine bn Tryz.results80 I rfl ?_;exact ⟨rfl,hm.aW [] []⟩
end Go.Proofs.YtpkhpagplommoaaGreat
namespace J
def Nm (s_:List Field):Option (List Field):=
 (ej 40 ([]:List Field) s_).bind fun kf=>
 some kf
def Nq (s_:List Method):Option (List Method):=
 (ej 128 ([]:List Method) s_).bind fun kf=>
 some kf
def Np (s_:List Kind):Option (List Kind):=
 (ej 24 ([]:List Kind) s_).bind fun kf=>
 some kf
def Nn (s_:List Handler):Option (List Handler):=
 (ej 40 ([]:List Handler) s_).bind fun kf=>
 some kf
def ru:Nat->(List Method)->Int->Int->Option (List Method)
 | 0,_,_,_=>none
 | c4+ 1,kD,vp,iY=>
   cond (decide (iY <vp)) ((idx kD iY).bind fun hK=>
   (Np hK.bD).bind fun Na=>
   (Nn hK.bH).bind fun Nb=>
   (idx kD iY).bind fun hL=>
   (some (kD.set (iY).toNat (⟨hL.Name,hL.Static,Na,(⟨hL.Returns.Kind,hL.Returns.aN⟩:Kind),hL.cT,hL.cS,hL.Code,hL.bH⟩:Method))).bind fun Wy=>
   (idx Wy iY).bind fun hM=>
   (some (Wy.set (iY).toNat (⟨hM.Name,hM.Static,hM.bD,(⟨hM.Returns.Kind,hM.Returns.aN⟩:Kind),hM.cT,hM.cS,hM.Code,Nb⟩:Method))).bind fun Wz=>
   ru c4 Wz vp (ap (iY+ 1))) (some kD)
def rs (F:Nat) (aK:List aN):Nat->(List aN)->Int->Option (List aN)
 | 0,_,_=>none
 | bu+ 1,jG,m1=>
   cond (decide (m1 <(aK.length:Int))) (Option.bind (α:=List aN) ((idx aK m1).bind fun gj=>
   (Nm gj.Fields).bind fun m6=>
   (Nq gj.aR).bind fun yH=>
   Option.bind (α:=List Method) (ru F yH (yH.length:Int) 0) fun (pT:List Method)=>
   (ej 80 jG [(⟨gj.Name,gj.bW,m6,pT⟩:aN)]).bind fun Mr=>
   some Mr) fun (u2:List aN)=>
   rs F aK bu u2 (ap (m1+ 1))) (some jG)
def H5 (F:Nat) (aK:List aN):Option (List aN):=
 Option.bind (α:=List aN) (rs F aK F [] 0) fun (uQ:List aN)=>
 some uQ
def yS (s_:List (List UInt8)) (v_:List UInt8):Nat->Int->Option (Way (Int) (Unit))
 | 0,_=>none
 | bu+ 1,g9=>
   cond (decide (g9 <(s_.length:Int))) ((idx s_ g9).bind fun A'=>
   cond (decide (v_=A')) (some (.out g9)) (yS s_ v_ bu (ap (g9+ 1)))) (some (.go ()))
def IG (F:Nat) (s_:List (List UInt8)) (v_:List UInt8):Option (Int):=
 dw (α:=Unit) (yS s_ v_ F 0) fun (_:Unit)=>
 some (-1)
def yn (F:Nat) (fA:Int) (gG:aN):Nat->(List (List UInt8))->(List Target)->Int->Option ((List (List UInt8)) × (List Target))
 | 0,_,_,_=>none
 | c4+ 1,kg,mP,fK=>
   cond (decide (fK <(gG.aR.length:Int))) (Option.bind (α:=(List (List UInt8)) × (List Target)) ((idx gG.aR fK).bind fun gH=>
   (IG F kg gH.Name).bind fun AQ=>
   cond (decide (0 <=AQ)) ((idx mP AQ).bind fun Yx=>
   (some (mP.set (AQ).toNat (⟨fA,fK⟩:Target))).bind fun WA=>
   some (kg,WA)) ((ej 16 kg [gH.Name]).bind fun Ms=>
   (ej 16 mP [(⟨fA,fK⟩:Target)]).bind fun sH=>
   some (Ms,sH))) fun ((u7,u9):(List (List UInt8)) × (List Target))=>
   yn F fA gG c4 u7 u9 (ap (fK+ 1))) (some (kg,mP))
def ym (F:Nat) (x_:df):List Int->(List (List UInt8))->(List Target)->Option ((List (List UInt8)) × (List Target))
 | [],k9,k_=>some (k9,k_)
 | fA::Nh,k9,k_=>
   Option.bind (α:=(List (List UInt8)) × (List Target)) ((idx x_.l fA).bind fun gG=>
   Option.bind (α:=(List (List UInt8)) × (List Target)) (yn F fA gG F k9 k_ 0) fun ((u5,u6):(List (List UInt8)) × (List Target))=>
   some (u5,u6)) fun ((u3,u4):(List (List UInt8)) × (List Target))=>
   ym F x_ Nh u3 u4
def H3 (F:Nat) (x_:df) (bY:Int):Option ((List (List UInt8)) × (List Target)):=
 (vb F (⟨x_.l,x_.cH,x_.b1⟩:df) bY).bind fun hn=>
 (Iv hn).bind fun fP=>
 Option.bind (α:=(List (List UInt8)) × (List Target)) (ym F x_ hn.reverse [] []) fun ((k9,k_):(List (List UInt8)) × (List Target))=>
 some (k9,k_)
def pU (F:Nat) (dK:List aN) (fP:Int × df) (dj:Int × df):Nat->(List (List Target))->(List (List (List UInt8)))->(List (List Field))->Int->Option (Way (bw × Int) ((List (List Target)) × (List (List (List UInt8))) × (List (List Field))))
 | 0,_,_,_,_=>none
 | bu+ 1,pv,pw,px,jq=>
   cond (decide (jq <(dK.length:Int))) ((H3 F (⟨dK,fP.2.cH,dj.2.b1⟩:df) jq).bind fun l5=>
   (yg F (⟨dK,fP.2.cH,dj.2.b1⟩:df) jq).bind fun Ih=>
   (ej 24 px [Ih]).bind fun C9=>
   (ej 24 pw [l5.1]).bind fun L9=>
   (ej 24 pv [l5.2]).bind fun L_=>
   (idx C9 jq).bind fun NH=>
   cond ((decide (12 <(NH.length:Int))) || (decide (16 <(l5.1.length:Int)))) (some (.out ((⟨[],[],[],[],[]⟩:bw),2))) (pU F dK fP dj bu L_ L9 C9 (ap (jq+ 1)))) (some (.go (pv,pw,px)))
def yd (F:Nat) (aK:List aN):Option (bw × Int):=
 (HS F aK).bind fun h9=>
 cond (!decide (h9= 0)) (some ((⟨[],[],[],[],[]⟩:bw),h9)) ((H5 F aK).bind fun dK=>
 (Da F (⟨dK,[],[]⟩:df)).bind fun fP=>
 cond (!decide (fP.1 = 0)) (some ((⟨[],[],[],[],[]⟩:bw),fP.1)) ((Mv F (⟨dK,fP.2.cH,[]⟩:df)).bind fun dj=>
 cond (!decide (dj.1 = 0)) (some ((⟨[],[],[],[],[]⟩:bw),dj.1)) ((Mw F (⟨dK,fP.2.cH,dj.2.b1⟩:df)).bind fun eO=>
 cond (!decide (eO= 0)) (some ((⟨[],[],[],[],[]⟩:bw),eO)) ((H4 F (⟨dK,fP.2.cH,dj.2.b1⟩:df)).bind fun gh=>
 cond (!decide (gh= 0)) (some ((⟨[],[],[],[],[]⟩:bw),gh)) ((H2 F (⟨dK,fP.2.cH,dj.2.b1⟩:df)).bind fun ct=>
 cond (!decide (ct= 0)) (some ((⟨[],[],[],[],[]⟩:bw),ct)) ((H0 F (⟨dK,fP.2.cH,dj.2.b1⟩:df)).bind fun yF=>
 cond (!decide (yF= 0)) (some ((⟨[],[],[],[],[]⟩:bw),yF)) (dw (α:=(List (List Target)) × (List (List (List UInt8))) × (List (List Field))) (pU F dK fP dj F [] [] [] 0) fun ((nC,nD,nE):(List (List Target)) × (List (List (List UInt8))) × (List (List Field)))=>
 some ((⟨dK,dj.2.b1,nE,nD,nC⟩:bw),0))))))))
def yO (b8:List Int) (cp:List Int):Nat->Int->Option (Way (Bool) (Unit))
 | 0,_=>none
 | bu+ 1,cf=>
   cond (decide (cf <(b8.length:Int))) ((idx b8 cf).bind fun fk=>
   (idx cp cf).bind fun fu=>
   cond (!decide (fk=fu)) (some (.out false)) (yO b8 cp bu (ap (cf+ 1)))) (some (.go ()))
def ID (F:Nat) (b8:List Int) (cp:List Int):Option (Bool):=
 cond (!decide ((b8.length:Int)=(cp.length:Int))) (some false) (dw (α:=Unit) (yO b8 cp F 0) fun (_:Unit)=>
 some true)
def yM (b8:List Field) (cp:List Field):Nat->Int->Option (Way (Bool) (Unit))
 | 0,_=>none
 | bu+ 1,cf=>
   cond (decide (cf <(b8.length:Int))) ((idx b8 cf).bind fun fk=>
   (idx cp cf).bind fun fu=>
   cond (!decide (fk=fu)) (some (.out false)) (yM b8 cp bu (ap (cf+ 1)))) (some (.go ()))
def IA (F:Nat) (b8:List Field) (cp:List Field):Option (Bool):=
 cond (!decide ((b8.length:Int)=(cp.length:Int))) (some false) (dw (α:=Unit) (yM b8 cp F 0) fun (_:Unit)=>
 some true)
def yJ (F:Nat) (b8:List (List Field)) (cp:List (List Field)):Nat->Int->Option (Way (Bool) (Unit))
 | 0,_=>none
 | bu+ 1,eT=>
   cond (decide (eT <(b8.length:Int))) ((idx b8 eT).bind fun jW=>
   (idx cp eT).bind fun ia=>
   (IA F jW ia).bind fun rC=>
   cond (!rC) (some (.out false)) (yJ F b8 cp bu (ap (eT+ 1)))) (some (.go ()))
def Ix (F:Nat) (b8:List (List Field)) (cp:List (List Field)):Option (Bool):=
 cond (!decide ((b8.length:Int)=(cp.length:Int))) (some false) (dw (α:=Unit) (yJ F b8 cp F 0) fun (_:Unit)=>
 some true)
def yP (b8:List (List UInt8)) (cp:List (List UInt8)):Nat->Int->Option (Way (Bool) (Unit))
 | 0,_=>none
 | bu+ 1,cf=>
   cond (decide (cf <(b8.length:Int))) ((idx b8 cf).bind fun fk=>
   (idx cp cf).bind fun fu=>
   cond (!decide (fk=fu)) (some (.out false)) (yP b8 cp bu (ap (cf+ 1)))) (some (.go ()))
def IE (F:Nat) (b8:List (List UInt8)) (cp:List (List UInt8)):Option (Bool):=
 cond (!decide ((b8.length:Int)=(cp.length:Int))) (some false) (dw (α:=Unit) (yP b8 cp F 0) fun (_:Unit)=>
 some true)
def yL (F:Nat) (b8:List (List (List UInt8))) (cp:List (List (List UInt8))):Nat->Int->Option (Way (Bool) (Unit))
 | 0,_=>none
 | bu+ 1,eT=>
   cond (decide (eT <(b8.length:Int))) ((idx b8 eT).bind fun jW=>
   (idx cp eT).bind fun ia=>
   (IE F jW ia).bind fun rC=>
   cond (!rC) (some (.out false)) (yL F b8 cp bu (ap (eT+ 1)))) (some (.go ()))
def Iz (F:Nat) (b8:List (List (List UInt8))) (cp:List (List (List UInt8))):Option (Bool):=
 cond (!decide ((b8.length:Int)=(cp.length:Int))) (some false) (dw (α:=Unit) (yL F b8 cp F 0) fun (_:Unit)=>
 some true)
def yN (b8:List Target) (cp:List Target):Nat->Int->Option (Way (Bool) (Unit))
 | 0,_=>none
 | bu+ 1,cf=>
   cond (decide (cf <(b8.length:Int))) ((idx b8 cf).bind fun fk=>
   (idx cp cf).bind fun fu=>
   cond (!decide (fk=fu)) (some (.out false)) (yN b8 cp bu (ap (cf+ 1)))) (some (.go ()))
def IC (F:Nat) (b8:List Target) (cp:List Target):Option (Bool):=
 cond (!decide ((b8.length:Int)=(cp.length:Int))) (some false) (dw (α:=Unit) (yN b8 cp F 0) fun (_:Unit)=>
 some true)
def yK (F:Nat) (b8:List (List Target)) (cp:List (List Target)):Nat->Int->Option (Way (Bool) (Unit))
 | 0,_=>none
 | bu+ 1,eT=>
   cond (decide (eT <(b8.length:Int))) ((idx b8 eT).bind fun jW=>
   (idx cp eT).bind fun ia=>
   (IC F jW ia).bind fun rC=>
   cond (!rC) (some (.out false)) (yK F b8 cp bu (ap (eT+ 1)))) (some (.go ()))
def Iy (F:Nat) (b8:List (List Target)) (cp:List (List Target)):Option (Bool):=
 cond (!decide ((b8.length:Int)=(cp.length:Int))) (some false) (dw (α:=Unit) (yK F b8 cp F 0) fun (_:Unit)=>
 some true)
def Db (F:Nat) (a_:bw) (b_:bw):Option (Bool):=
 (ID F a_.aG b_.aG).bind fun yD=>
 cond (yD) ((Ix F a_.Fields b_.Fields).bind fun m4=>
 cond (m4) ((Iz F a_.Names b_.Names).bind fun yE=>
 cond (yE) ((Iy F a_.aE b_.aE).bind fun eP=>
 some eP) (some false)) (some false)) (some false)
def oN (F:Nat) (aa:bw):Option (Int):=
 (yd F aa.aJ).bind fun c2=>
 cond (!decide (c2.2 = 0)) (some 4) ((Db F (⟨aa.aJ,aa.aG,aa.Fields,aa.Names,aa.aE⟩:bw) (⟨c2.1.aJ,c2.1.aG,c2.1.Fields,c2.1.Names,c2.1.aE⟩:bw)).bind fun Xk=>
 cond (!Xk) (some 4) (some 0))
def PV:Option (List aN):=
 some [(⟨[79,98,106,101,99,116],[],[],[(⟨[109,97,105,110],true,[],(⟨0,[]⟩:Kind),2,0,[1,0,7,31,27],[]⟩:Method)]⟩:aN),(⟨[69,114,114,111,114],[79,98,106,101,99,116],[(⟨[99,111,100,101],(⟨1,[]⟩:Kind)⟩:Field)],[]⟩:aN)]
end J
