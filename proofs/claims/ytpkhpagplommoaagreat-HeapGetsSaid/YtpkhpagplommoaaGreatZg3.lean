/- Part 3 of the proof that is ended in the last text: small logic, what the functions compute, walks, plain laws. -/
import Derived.Test.YtpkhpagplommoaaGreatZg2
namespace J
def rT (F:Nat) (aJ:List aM):Nat->Int->Option (Way (Int) (Unit))
 | 0,_=>none
 | bu+ 1,eO=>
   cond (decide (eO <(aJ.length:Int))) ((idx aJ eO).bind fun DC=>
   (n6 F aJ DC.Name).bind fun WS=>
   cond (!decide (WS=eO)) (some (.out 6)) (rT F aJ bu (ap (eO+ 1)))) (some (.go ()))
def wb (aJ:List aM):Nat->Int->Option (Way (Int) (Unit))
 | 0,_=>none
 | c7+ 1,lS=>
   cond (decide (lS <(aJ.length:Int))) ((idx aJ lS).bind fun Ds=>
   (idx aJ lS).bind fun Is=>
   cond (!((decide (Ds.Name= [79,98,106,101,99,116])) == (decide (Is.bZ= [])))) (some (.out 4)) (wb aJ c7 (ap (lS+ 1)))) (some (.go ()))
def s4 (F:Nat) (aJ:List aM):Nat->Int->Option (Way (Int) (Unit))
 | 0,_=>none
 | et+ 1,kj=>
   cond (decide (kj <(aJ.length:Int))) ((idx aJ kj).bind fun Dw=>
   cond (!decide (Dw.bZ= [])) ((idx aJ kj).bind fun Dy=>
   (n6 F aJ Dy.bZ).bind fun Xk=>
   cond (decide (Xk < 0)) (some (.out 5)) (s4 F aJ et (ap (kj+ 1)))) (s4 F aJ et (ap (kj+ 1)))) (some (.go ()))
def wc (F:Nat) (aJ:List aM):Nat->Int->Option (Way (Int) (Unit))
 | 0,_=>none
 | fy+ 1,oU=>
   cond (decide (oU <(aJ.length:Int))) ((wH F aJ oU).bind fun Xm=>
   cond (decide ((Xm.length:Int)= 0)) (some (.out 4)) (wc F aJ fy (ap (oU+ 1)))) (some (.go ()))
def wg (F:Nat) (aJ:List aM) (fz:Int):Nat->Int->Option (Way (Int) (Unit))
 | 0,_=>none
 | jG+ 1,mW=>
   (idx aJ fz).bind fun Iq=>
   cond (decide (mW <(Iq.Fields.length:Int))) ((idx aJ fz).bind fun Ir=>
   (idx Ir.Fields mW).bind fun nY=>
   (y5 F aJ [(⟨nY.Kind.Kind,nY.Kind.aM⟩:Kind)]).bind fun WX=>
   cond (!WX) (some (.out 5)) (wg F aJ fz jG (ap (mW+ 1)))) (some (.go ()))
def wi (F:Nat) (aJ:List aM) (dJ:Method):Nat->Int->Option (Way (Int) (Unit))
 | 0,_=>none
 | ub+ 1,oR=>
   cond (decide (oR <(dJ.bK.length:Int))) ((idx dJ.bK oR).bind fun Nl=>
   (n6 F aJ Nl.aM).bind fun W0=>
   cond (decide (W0 < 0)) (some (.out 5)) (wi F aJ dJ ub (ap (oR+ 1)))) (some (.go ()))
def wh (F:Nat) (aJ:List aM) (fz:Int):Nat->Int->Option (Way (Int) (Unit))
 | 0,_=>none
 | si+ 1,kE=>
   (idx aJ fz).bind fun rB=>
   cond (decide (kE <(rB.aQ.length:Int))) (dY (α:=Unit) ((idx aJ fz).bind fun vm=>
   (idx vm.aQ kE).bind fun dJ=>
   (y5 F aJ dJ.bI).bind fun Mr=>
   cond (!Mr) (some (.out 5)) ((y5 F aJ [(⟨dJ.Returns.Kind,dJ.Returns.aM⟩:Kind)]).bind fun WZ=>
   cond (!WZ) (some (.out 5)) (dY (α:=Unit) (wi F aJ dJ F 0) fun (_:Unit)=>
   some (.go ())))) fun (_:Unit)=>
   wh F aJ fz si (ap (kE+ 1))) (some (.go ()))
def s5 (F:Nat) (aJ:List aM):Nat->Int->Option (Way (Int) (Unit))
 | 0,_=>none
 | hZ+ 1,fz=>
   cond (decide (fz <(aJ.length:Int))) (dY (α:=Unit) (dY (α:=Unit) (wg F aJ fz F 0) fun (_:Unit)=>
   dY (α:=Unit) (wh F aJ fz F 0) fun (_:Unit)=>
   some (.go ())) fun (_:Unit)=>
   s5 F aJ hZ (ap (fz+ 1))) (some (.go ()))
def vZ (eP:List Field) (iE:Int):Nat->Int->Option (Way (Int) (Unit))
 | 0,_=>none
 | LD+ 1,nK=>
   cond (decide (nK <iE)) ((idx eP nK).bind fun NH=>
   (idx eP iE).bind fun Yd=>
   cond (decide (NH.Name=Yd.Name)) (some (.out 6)) (vZ eP iE LD (ap (nK+ 1)))) (some (.go ()))
def vY (F:Nat) (eP:List Field):Nat->Int->Option (Way (Int) (Unit))
 | 0,_=>none
 | LC+ 1,iE=>
   cond (decide (iE <(eP.length:Int))) (dY (α:=Unit) (dY (α:=Unit) (vZ eP iE F 0) fun (_:Unit)=>
   some (.go ())) fun (_:Unit)=>
   vY F eP LC (ap (iE+ 1))) (some (.go ()))
def v7 (gQ:aM) (iY:Int):Nat->Int->Option (Way (Int) (Unit))
 | 0,_=>none
 | LG+ 1,oT=>
   cond (decide (oT <iY)) ((idx gQ.aQ oT).bind fun Dx=>
   (idx gQ.aQ iY).bind fun Ix=>
   cond (decide (Dx.Name=Ix.Name)) (some (.out 6)) (v7 gQ iY LG (ap (oT+ 1)))) (some (.go ()))
def v5 (F:Nat) (gQ:aM):Nat->Int->Option (Way (Int) (Unit))
 | 0,_=>none
 | LF+ 1,iY=>
   cond (decide (iY <(gQ.aQ.length:Int))) (dY (α:=Unit) (dY (α:=Unit) (v7 gQ iY F 0) fun (_:Unit)=>
   some (.go ())) fun (_:Unit)=>
   v5 F gQ LF (ap (iY+ 1))) (some (.go ()))
def wj (F:Nat) (aJ:List aM):Nat->Int->Option (Way (Int) (Unit))
 | 0,_=>none
 | sj+ 1,g'=>
   cond (decide (g' <(aJ.length:Int))) (dY (α:=Unit) ((y1 F aJ g').bind fun eP=>
   dY (α:=Unit) (vY F eP F 0) fun (_:Unit)=>
   (idx aJ g').bind fun gQ=>
   dY (α:=Unit) (v5 F gQ F 0) fun (_:Unit)=>
   some (.go ())) fun (_:Unit)=>
   wj F aJ sj (ap (g'+ 1))) (some (.go ()))
def s3 (F:Nat) (aJ:List aM) (e9:Int) (fw:List Int) (ga:Int) (h4:Int):Nat->Int->Option (Way (Int) (Unit))
 | 0,_=>none
 | Hw+ 1,km=>
   (idx fw ga).bind fun N1=>
   (idx aJ N1).bind fun IC=>
   cond (decide (km <(IC.aQ.length:Int))) ((idx aJ e9).bind fun AY=>
   (idx AY.aQ h4).bind fun fL=>
   (idx fw ga).bind fun N2=>
   (idx aJ N2).bind fun AZ=>
   (idx AZ.aQ km).bind fun fM=>
   cond (decide (fL.Name=fM.Name)) (cond (fL.Static || fM.Static) (some (.out 4)) ((s8 F fL.bI fM.bI).bind fun MI=>
   cond (!MI) (some (.out 4)) (cond (!decide ((⟨fL.Returns.Kind,fL.Returns.aM⟩:Kind)=(⟨fM.Returns.Kind,fM.Returns.aM⟩:Kind))) (some (.out 4)) (s3 F aJ e9 fw ga h4 Hw (ap (km+ 1)))))) (s3 F aJ e9 fw ga h4 Hw (ap (km+ 1)))) (some (.go ()))
def wa (F:Nat) (aJ:List aM) (e9:Int) (fw:List Int) (ga:Int):Nat->Int->Option (Way (Int) (Unit))
 | 0,_=>none
 | LJ+ 1,h4=>
   (idx aJ e9).bind fun rF=>
   cond (decide (h4 <(rF.aQ.length:Int))) (dY (α:=Unit) (dY (α:=Unit) (s3 F aJ e9 fw ga h4 F 0) fun (_:Unit)=>
   some (.go ())) fun (_:Unit)=>
   wa F aJ e9 fw ga LJ (ap (h4+ 1))) (some (.go ()))
def v' (F:Nat) (aJ:List aM) (e9:Int) (fw:List Int):Nat->Int->Option (Way (Int) (Unit))
 | 0,_=>none
 | LI+ 1,ga=>
   cond (decide (ga <(ap ((fw.length:Int) - 1)))) (dY (α:=Unit) (dY (α:=Unit) (wa F aJ e9 fw ga F 0) fun (_:Unit)=>
   some (.go ())) fun (_:Unit)=>
   v' F aJ e9 fw LI (ap (ga+ 1))) (some (.go ()))
def v8 (F:Nat) (aJ:List aM):Nat->Int->Option (Way (Int) (Unit))
 | 0,_=>none
 | LH+ 1,e9=>
   cond (decide (e9 <(aJ.length:Int))) (dY (α:=Unit) ((wH F aJ e9).bind fun fw=>
   dY (α:=Unit) (v' F aJ e9 fw F 0) fun (_:Unit)=>
   some (.go ())) fun (_:Unit)=>
   v8 F aJ LH (ap (e9+ 1))) (some (.go ()))
def Ez (F:Nat) (aJ:List aM):Option (Int):=
 (Ey F aJ).bind fun en=>
 cond (!decide (en= 0)) (some en) (dr (α:=Unit) (rT F aJ F 0) fun (_:Unit)=>
 (n6 F aJ [79,98,106,101,99,116]).bind fun u5=>
 cond (decide (u5 < 0)) (some 5) ((n6 F aJ [69,114,114,111,114]).bind fun Au=>
 cond (decide (Au < 0)) (some 5) (dr (α:=Unit) (wb aJ F 0) fun (_:Unit)=>
 dr (α:=Unit) (s4 F aJ F 0) fun (_:Unit)=>
 dr (α:=Unit) (wc F aJ F 0) fun (_:Unit)=>
 (n6 F aJ [69,114,114,111,114]).bind fun yh=>
 (y1 F aJ yh).bind fun cz=>
 (idx aJ yh).bind fun dG=>
 cond ((!decide (dG.bZ= [79,98,106,101,99,116])) || (decide ((cz.length:Int)= 0))) (some 4) ((idx cz 0).bind fun Yg=>
 cond (!decide (Yg.Kind.Kind= 1)) (some 4) (dr (α:=Unit) (s5 F aJ F 0) fun (_:Unit)=>
 dr (α:=Unit) (wj F aJ F 0) fun (_:Unit)=>
 dr (α:=Unit) (v8 F aJ F 0) fun (_:Unit)=>
 some 0)))))
def qx (F:Nat) (aJ:List aM):Nat->(List (List Target))->(List (List (List UInt8)))->(List (List Field))->(List Int)->Int->Option (Way (bs × Int) ((List (List Target)) × (List (List (List UInt8))) × (List (List Field)) × (List Int)))
 | 0,_,_,_,_,_=>none
 | bu+ 1,pC,pD,pE,pF,kh=>
   cond (decide (kh <(aJ.length:Int))) ((y1 F aJ kh).bind fun u6=>
   (EB F aJ kh).bind fun m4=>
   cond ((decide (12 <(u6.length:Int))) || (decide (16 <(m4.1.length:Int)))) (some (.out ((⟨[],[],[],[],[]⟩:bs),2))) ((idx aJ kh).bind fun yA=>
   (n6 F aJ yA.bZ).bind fun HX=>
   (ep 8 pF [HX]).bind fun LM=>
   (ep 24 pE [u6]).bind fun LN=>
   (ep 24 pD [m4.1]).bind fun LO=>
   (ep 24 pC [m4.2]).bind fun LP=>
   qx F aJ bu LP LO LN LM (ap (kh+ 1)))) (some (.go (pC,pD,pE,pF)))
def EA (F:Nat) (aJ:List aM):Option (bs × Int):=
 (Ez F aJ).bind fun h6=>
 cond (!decide (h6= 0)) (some ((⟨[],[],[],[],[]⟩:bs),h6)) (dr (α:=(List (List Target)) × (List (List (List UInt8))) × (List (List Field)) × (List Int)) (qx F aJ F [] [] [] [] 0) fun ((py,pz,pA,pB):(List (List Target)) × (List (List (List UInt8))) × (List (List Field)) × (List Int))=>
 some ((⟨aJ,pB,pA,pz,py⟩:bs),0))
end J
namespace Go.Proofs.YtpkhpagplommoaaGreat
open Go Go.RowKit aZ
set_option maxHeartbeats 4000000
set_option maxRecDepth 20000
theorem air {W:World} {X:List Nat} {F:Nat} {aJ:List J.aM} {r:Int} {ag:aP} {ah:Nat} {M0:List Nat} (hm:ar W M0 X W [] [U J.a' ag ah aJ]) (h:J.Ez F aJ=some r) :
 Calls Tryz.prog 109 [.q ag ah aJ].toArray W (fun e aF=>e= .returned (.i r)/\ar W M0 X aF [] []):=by
 refine enter Tryz.func109 rfl Tryz.ntmps109 rfl fun a I=>?_;rw [J.Ez] at h;refine bb [] [] I fun a I=>wp_seq_k fun K bN=>aY <| aN 1 [] [(29,.q ag ah aJ)] I fun a I=>?_;obtain ⟨en,z2,h⟩:=J.aH h;have hc:=hm;refine bP (vs:=[.q ag ah aJ]) wn rfl Tryz.call135 ⟨(I.g rfl),trivial⟩ (aip ((hc.into 0).pick ⟨⟨0,rfl⟩,trivial⟩) z2) I rfl rfl ?_;rintro _ w ⟨rfl,af⟩;refine ⟨_,rfl,fun a I=>?_⟩;have hm:=hc.back 0 af;clear af hc
 refine aN 1 [] [(3,.i en)] I fun a I=>wpList_nil (bN _ _ ?_);refine wp_seq_k fun K cb=>bb [] [(32,.bool (!decide (en= 0)))] I fun a I=>bk (I.g rfl) h (fun hY h=>?_) (fun hY h=>?_)
 · refine bt [] [(2,.i en)] I fun a I=>wp_ret ?_;obtain rfl:=ay h;refine aj <| bq Tryz.results109 I rfl ?_;exact ⟨rfl,hm.aX [] []⟩
 refine wp_skip <| cb _ _ <| wp_seq_k fun K dE=>bb [] [(4,.i 0)] I fun a I=>?_;obtain ⟨VQ,h,Tg⟩:=J.dZ h;refine ca (fun a w=>Fr ⟨353,[]⟩ [(0,.q ag ah aJ)] a/\ar W M0 X w [] [U J.a' ag ah aJ]/\VQ=(.go ())) (fun K cN=>?_) ?_
 · refine cw (fun (bu:Nat) a w=>∃ (eO:Int),Fr ⟨353,[]⟩ [(0,.q ag ah aJ),(4,.i eO)] a/\ar W M0 X w [] [U J.a' ag ah aJ]/\J.rT F aJ bu eO=some VQ) F ⟨0,I.cut,hm,h⟩ ?_ ?_
   · rintro a w ⟨eO,I,hm,h⟩;exact absurd h (by simp [J.rT])
   rintro bu a w ⟨eO,I,hm,h⟩ K dq;rw [J.rT] at h;refine wp_seq_k fun K dc=>bb [] [(37,.bool (decide (eO <(aJ.length:Int))))] I fun a I=>bk (I.g rfl) h (fun Rk h=>?_) (fun Rk h=>?_)
   · refine wp_skip <| dc _ _ <| wp_seq_k fun K dS=>wp_block <| wp_seq_k fun K dL=>aY <| aN 3 [] [(40,.q ag ah aJ),(41,.q ag ah aJ),(42,.i eO)] I fun a I=>?_;obtain ⟨DC,aDZ,h⟩:=J.aH h;obtain ⟨anj,ax_,_,⟨ahp,ail,ahq,ahO,rfl,at2,RB⟩,atV⟩:=bX _ (hm.d 0 rfl) aDZ;have hm:=hm.more (y:=U J.aW ahp ail DC.Fields) at2;have hm:=hm.more (y:=U J.b4 ahq ahO DC.aQ) RB;refine bQ wn (bF Tryz.underlying25 Tryz.sizeOf136 rfl (I.g rfl) (I.g rfl) anj ax_) I rfl rfl fun a I=>?_
     refine bi 2 [0,0] [(45,ao DC.Name)] [bG ag,bH ag+(eO).toNat* 4 + 0] (av atV aw) I fun a I=>?_;obtain ⟨WS,azm,h⟩:=J.aH h;have hc:=hm;refine bP (vs:=[.q ag ah aJ,ao DC.Name]) wn rfl Tryz.call112 ⟨(I.g rfl),(I.g rfl),trivial⟩ (ts ((hc.into 0).pick ⟨⟨2,rfl⟩,trivial⟩) azm) I rfl rfl ?_;rintro _ w ⟨rfl,af⟩;refine ⟨_,rfl,fun a I=>?_⟩;have hm:=hc.back 0 af;clear af hc;refine aN 2 [] [(48,.bool (!decide (WS=eO)))] I fun a I=>wpList_nil (dL _ _ ?_);refine bk (I.g rfl) h (fun Q7 h=>?_) (fun Q7 h=>?_)
     · refine bt [] [(2,.i 6)] I fun a I=>wp_ret ?_;obtain rfl:=ay h;obtain rfl:=ay Tg;refine a8 (aj (aj (a8 (aj (aj ?_)))));refine bq Tryz.results109 I rfl ?_;exact ⟨rfl,hm.aX [] []⟩
     refine wp_skip <| dS _ _ <| cg [] [(4,.i (J.ap (eO+ 1)))] I fun a I=>?_;exact dq _ _ ⟨J.ap (eO+ 1),I.cut,hm.eA [2],h⟩
   refine wp_exit <| bz (bz (cr ?_));exact cN _ _ ⟨I.cut,hm,(os h)⟩
 rintro a w ⟨I,hm,bc⟩;subst VQ;have h:=Tg;clear Tg;dsimp only [J.dW] at h;refine dE _ _ <| wp_seq_k fun K eX=>wp_seq_k fun K gx=>aY <| aN 1 [] [(49,.q ag ah aJ)] I fun a I=>?_;obtain ⟨u5,T2,h⟩:=J.aH h;have hc:=hm;refine bP (vs:=[.q ag ah aJ,ao [79,98,106,101,99,116]]) wn rfl Tryz.call112 ⟨(I.g rfl),(cW _ _),trivial⟩ (ts ((hc.into 0).pick ⟨⟨0,rfl⟩,trivial⟩) T2) I rfl rfl ?_;rintro _ w ⟨rfl,af⟩;refine ⟨_,rfl,fun a I=>?_⟩;have hm:=hc.back 0 af;clear af hc;refine aN 2 [] [(52,.bool (decide (u5 < 0)))] I fun a I=>?_
 rcases Bool.eq_false_or_eq_true (decide (u5 < 0)) with qP | qP
 · have h:=J.dj qP h;have I:=I.b6 52 rfl qP;refine aN 4 [1,1,1,1] [(56,.bool true)] I fun a I=>wpList_nil (gx _ _ ?_);refine eG (I.g rfl) rfl <| bt [] [(2,.i 5)] I fun a I=>wp_ret ?_;obtain rfl:=ay h;refine aj <| bq Tryz.results109 I rfl ?_;exact ⟨rfl,hm.aX [] []⟩
 have h:=J.di qP h;have I:=I.b6 52 rfl qP;refine aN 1 [1] [(53,.q ag ah aJ)] I fun a I=>?_;obtain ⟨Au,T4,h⟩:=J.aH h;have hc:=hm;refine bP (vs:=[.q ag ah aJ,ao [69,114,114,111,114]]) (cV I rfl rfl rfl rfl) rfl Tryz.call112 ⟨(I.g rfl),(cW _ _),trivial⟩ (ts ((hc.into 0).pick ⟨⟨0,rfl⟩,trivial⟩) T4) I rfl rfl ?_;rintro _ w ⟨rfl,af⟩;refine ⟨_,rfl,fun a I=>?_⟩;have hm:=hc.back 0 af;clear af hc;refine aN 2 [1,1] [(56,.bool (decide (Au < 0)))] I fun a I=>wpList_nil (gx _ _ ?_);refine bk (I.g rfl) h (fun aoy h=>?_) (fun aoy h=>?_)
 · refine bt [] [(2,.i 5)] I fun a I=>wp_ret ?_;obtain rfl:=ay h;refine aj <| bq Tryz.results109 I rfl ?_;exact ⟨rfl,hm.aX [] []⟩
 refine wp_skip <| eX _ _ <| wp_seq_k fun K fK=>bb [] [(5,.i 0)] I fun a I=>?_;obtain ⟨U4,h,Ss⟩:=J.dZ h;refine ca (fun a w=>Fr ⟨353,[]⟩ [(0,.q ag ah aJ)] a/\ar W M0 X w [] [U J.a' ag ah aJ]/\U4=(.go ())) (fun K gm=>?_) ?_
 · refine cw (fun (c7:Nat) a w=>∃ (lS:Int),Fr ⟨353,[]⟩ [(0,.q ag ah aJ),(5,.i lS)] a/\ar W M0 X w [] [U J.a' ag ah aJ]/\J.wb aJ c7 lS=some U4) F ⟨0,I.cut,hm,h⟩ ?_ ?_
   · rintro a w ⟨lS,I,hm,h⟩;exact absurd h (by simp [J.wb])
   rintro c7 a w ⟨lS,I,hm,h⟩ K gK;rw [J.wb] at h;refine wp_seq_k fun K hB=>bb [] [(60,.bool (decide (lS <(aJ.length:Int))))] I fun a I=>bk (I.g rfl) h (fun apq h=>?_) (fun apq h=>?_)
   · refine wp_skip <| hB _ _ <| wp_seq_k fun K ho=>wp_block <| wp_seq_k fun K hp=>hA (by kernel_rfl) (by kernel_rfl) <| dB 2 [] [(63,.q ag ah aJ),(64,.i lS)] [] (fun a6 ad=>aw) I fun a I=>?_;obtain ⟨Ds,aCf,h⟩:=J.aH h;obtain ⟨alu,awk,_,⟨ag1,ahW,Bd,BR,rfl,aut,auu⟩,ar5⟩:=bX _ (hm.d 0 rfl) aCf;have hm:=hm.more (y:=U J.aW ag1 ahW Ds.Fields) aut;have hm:=hm.more (y:=U J.b4 Bd BR Ds.aQ) auu;refine ek wn (fun a6 ad=>bF Tryz.underlying25 Tryz.sizeOf136 rfl (I.g rfl) (I.g rfl) alu awk) I rfl rfl fun a I=>?_
     refine dB 5 [0,0] [(68,.bool (decide (Ds.Name= [79,98,106,101,99,116]))),(69,.q ag ah aJ),(70,.i lS)] [bG ag,bH ag+(lS).toNat* 4 + 0] (fun a6 ad=>(av (b2 ad ar5) aw)) I fun a I=>?_;obtain ⟨Is,aCi,h⟩:=J.aH h;obtain ⟨aly,awn,_,⟨ag2,ahX,ag3,ahY,rfl,auv,auw⟩,ar8⟩:=bX _ (hm.d 2 rfl) aCi;have hm:=hm.more (y:=U J.aW ag2 ahX Is.Fields) auv;have hm:=hm.more (y:=U J.b4 ag3 ahY Is.aQ) auw;refine ek wn (fun a6 ad=>bF Tryz.underlying25 Tryz.sizeOf136 rfl (I.g rfl) (I.g rfl) aly awn) I rfl rfl fun a I=>?_
     refine dB 4 [0,1] [(75,.bool (!((decide (Ds.Name= [79,98,106,101,99,116])) == (decide (Is.bZ= [])))))] [bG ag,bH ag+(lS).toNat* 4 + 1] (fun a6 ad=>(av (b2 ad ar8) aw)) I fun a I=>wpQuiet_nil fun w ad=>?_;have hm:=hm.dw ad;clear ad;refine hp _ _ <| bk (I.g rfl) h (fun Ra h=>?_) (fun Ra h=>?_)
     · refine bt [] [(2,.i 4)] I fun a I=>wp_ret ?_;obtain rfl:=ay h;obtain rfl:=ay Ss;refine a8 (aj (aj (a8 (aj (aj ?_)))));refine bq Tryz.results109 I rfl ?_;exact ⟨rfl,hm.aX [] []⟩
     refine wp_skip <| ho _ _ <| cg [] [(5,.i (J.ap (lS+ 1)))] I fun a I=>?_;exact gK _ _ ⟨J.ap (lS+ 1),I.cut,hm.eA [4],h⟩
   refine wp_exit <| bz (bz (cr ?_));exact gm _ _ ⟨I.cut,hm,(os h)⟩
 rintro a w ⟨I,hm,bc⟩;subst U4;have h:=Ss;clear Ss;dsimp only [J.dW] at h;refine fK _ _ <| wp_seq_k fun K jC=>bb [] [(6,.i 0)] I fun a I=>?_;obtain ⟨Vs,h,SQ⟩:=J.dZ h;refine ca (fun a w=>Fr ⟨353,[]⟩ [(0,.q ag ah aJ)] a/\ar W M0 X w [] [U J.a' ag ah aJ]/\Vs=(.go ())) (fun K my=>?_) ?_
 · refine cw (fun (et:Nat) a w=>∃ (kj:Int),Fr ⟨353,[]⟩ [(0,.q ag ah aJ),(6,.i kj)] a/\ar W M0 X w [] [U J.a' ag ah aJ]/\J.s4 F aJ et kj=some Vs) F ⟨0,I.cut,hm,h⟩ ?_ ?_
   · rintro a w ⟨kj,I,hm,h⟩;exact absurd h (by simp [J.s4])
   rintro et a w ⟨kj,I,hm,h⟩ K jD;rw [J.s4] at h;refine wp_seq_k fun K jE=>bb [] [(79,.bool (decide (kj <(aJ.length:Int))))] I fun a I=>bk (I.g rfl) h (fun ap2 h=>?_) (fun ap2 h=>?_)
   · refine wp_skip <| jE _ _ <| wp_seq_k fun K j_=>wp_block <| wp_seq_k fun K ny=>aY <| aN 2 [] [(82,.q ag ah aJ),(83,.i kj)] I fun a I=>?_;obtain ⟨Dw,aCT,h⟩:=J.aH h;obtain ⟨al',aw3,_,⟨ag',ah6,aha,ah7,rfl,auI,auJ⟩,asN⟩:=bX _ (hm.d 0 rfl) aCT;have hm:=hm.more (y:=U J.aW ag' ah6 Dw.Fields) auI;have hm:=hm.more (y:=U J.b4 aha ah7 Dw.aQ) auJ;refine bQ wn (bF Tryz.underlying25 Tryz.sizeOf136 rfl (I.g rfl) (I.g rfl) al' aw3) I rfl rfl fun a I=>?_
     refine bi 4 [0,1] [(88,.bool (!decide (Dw.bZ= [])))] [bG ag,bH ag+(kj).toNat* 4 + 1] (av asN aw) I fun a I=>?_;rcases Bool.eq_false_or_eq_true (!decide (Dw.bZ= [])) with Gp | Gp
     · have h:=J.dj Gp h;have I:=I.b6 88 rfl Gp;refine aN 3 [1,1,1] [(89,.q ag ah aJ),(90,.q ag ah aJ),(91,.i kj)] I fun a I=>?_;obtain ⟨Dy,aCY,h⟩:=J.aH h;obtain ⟨ame,aw5,_,⟨ahb,ah8,ahc,ah9,rfl,auK,auL⟩,asP⟩:=bX _ (hm.d 2 rfl) aCY;have hm:=hm.more (y:=U J.aW ahb ah8 Dy.Fields) auK;have hm:=hm.more (y:=U J.b4 ahc ah9 Dy.aQ) auL;refine bQ (cV I rfl rfl rfl rfl) (bF Tryz.underlying25 Tryz.sizeOf136 rfl (I.g rfl) (I.g rfl) ame aw5) I rfl rfl fun a I=>?_
       refine bi 2 [1,1,0,1] [(94,ao Dy.bZ)] [bG ag,bH ag+(kj).toNat* 4 + 1] (av asP aw) I fun a I=>?_;obtain ⟨Xk,aAo,h⟩:=J.aH h;have hc:=hm;refine bP (vs:=[.q ag ah aJ,ao Dy.bZ]) (cV I rfl rfl rfl rfl) rfl Tryz.call112 ⟨(I.g rfl),(I.g rfl),trivial⟩ (ts ((hc.into 0).pick ⟨⟨4,rfl⟩,trivial⟩) aAo) I rfl rfl ?_;rintro _ w ⟨rfl,af⟩;refine ⟨_,rfl,fun a I=>?_⟩;have hm:=hc.back 0 af;clear af hc;refine aN 2 [1,1] [(97,.bool (decide (Xk < 0)))] I fun a I=>wpList_nil (ny _ _ ?_);refine bk (I.g rfl) h (fun ap' h=>?_) (fun ap' h=>?_)
       · refine bt [] [(2,.i 5)] I fun a I=>wp_ret ?_;obtain rfl:=ay h;obtain rfl:=ay SQ;refine a8 (aj (aj (a8 (aj (aj ?_)))));refine bq Tryz.results109 I rfl ?_;exact ⟨rfl,hm.aX [] []⟩
       refine wp_skip <| j_ _ _ <| cg [] [(6,.i (J.ap (kj+ 1)))] I fun a I=>?_;exact jD _ _ ⟨J.ap (kj+ 1),I.cut,hm.eA [4],h⟩
     have h:=J.di Gp h;have I:=I.b6 88 rfl Gp;refine aN 9 [1,1,1,1,1,1,1,1,1] [(97,.bool false)] I fun a I=>wpList_nil (ny _ _ ?_);refine hW (I.g rfl) rfl <| wp_skip <| j_ _ _ <| cg [] [(6,.i (J.ap (kj+ 1)))] I fun a I=>?_;exact jD _ _ ⟨J.ap (kj+ 1),I.cut,hm.eA [2],h⟩
   refine wp_exit <| bz (bz (cr ?_));exact my _ _ ⟨I.cut,hm,(os h)⟩
 rintro a w ⟨I,hm,bc⟩;subst Vs;have h:=SQ;clear SQ;dsimp only [J.dW] at h;refine jC _ _ <| wp_seq_k fun K lF=>bb [] [(7,.i 0)] I fun a I=>?_;obtain ⟨VC,h,S3⟩:=J.dZ h;refine ca (fun a w=>Fr ⟨353,[]⟩ [(0,.q ag ah aJ)] a/\ar W M0 X w [] [U J.a' ag ah aJ]/\VC=(.go ())) (fun K lG=>?_) ?_
 · refine cw (fun (fy:Nat) a w=>∃ (oU:Int),Fr ⟨353,[]⟩ [(0,.q ag ah aJ),(7,.i oU)] a/\ar W M0 X w [] [U J.a' ag ah aJ]/\J.wc F aJ fy oU=some VC) F ⟨0,I.cut,hm,h⟩ ?_ ?_
   · rintro a w ⟨oU,I,hm,h⟩;exact absurd h (by simp [J.wc])
   rintro fy a w ⟨oU,I,hm,h⟩ K mz;rw [J.wc] at h;refine wp_seq_k fun K qN=>bb [] [(101,.bool (decide (oU <(aJ.length:Int))))] I fun a I=>bk (I.g rfl) h (fun Rd h=>?_) (fun Rd h=>?_)
   · refine wp_skip <| qN _ _ <| wp_seq_k fun K mA=>wp_block <| wp_seq_k fun K tB=>aY <| aN 2 [] [(104,.q ag ah aJ),(105,.i oU)] I fun a I=>?_;obtain ⟨Xm,aAr,h⟩:=J.aH h;have hc:=hm;refine bP (vs:=[.q ag ah aJ,.i oU]) wn rfl Tryz.call136 ⟨(I.g rfl),(I.g rfl),trivial⟩ (Ky ((hc.into 0).pick ⟨⟨0,rfl⟩,trivial⟩) aAr) I rfl rfl ?_;rintro _ w ⟨aII,aIZ,rfl,af⟩;refine ⟨_,rfl,fun a I=>?_⟩;have hm:=hc.back 0 af;clear af hc;refine aN 2 [] [(108,.bool (decide ((Xm.length:Int)= 0)))] I fun a I=>wpList_nil (tB _ _ ?_)
     refine bk (I.g rfl) h (fun aqd h=>?_) (fun aqd h=>?_)
     · refine bt [] [(2,.i 4)] I fun a I=>wp_ret ?_;obtain rfl:=ay h;obtain rfl:=ay S3;refine a8 (aj (aj (a8 (aj (aj ?_)))));refine bq Tryz.results109 I rfl ?_;exact ⟨rfl,hm.aX [] []⟩
     refine wp_skip <| mA _ _ <| cg [] [(7,.i (J.ap (oU+ 1)))] I fun a I=>?_;exact mz _ _ ⟨J.ap (oU+ 1),I.cut,hm.eA [1],h⟩
   refine wp_exit <| bz (bz (cr ?_));exact lG _ _ ⟨I.cut,hm,(os h)⟩
 rintro a w ⟨I,hm,bc⟩;subst VC;have h:=S3;clear S3;dsimp only [J.dW] at h;refine lF _ _ <| wp_seq_k fun K ov=>aY <| aN 1 [] [(109,.q ag ah aJ)] I fun a I=>?_;obtain ⟨yh,aAs,h⟩:=J.aH h;have hc:=hm;refine bP (vs:=[.q ag ah aJ,ao [69,114,114,111,114]]) wn rfl Tryz.call112 ⟨(I.g rfl),(cW _ _),trivial⟩ (ts ((hc.into 0).pick ⟨⟨0,rfl⟩,trivial⟩) aAs) I rfl rfl ?_;rintro _ w ⟨rfl,af⟩;refine ⟨_,rfl,fun a I=>?_⟩;have hm:=hc.back 0 af;clear af hc;refine aN 1 [] [(8,.i yh)] I fun a I=>wpList_nil (ov _ _ ?_)
 refine wp_seq_k fun K ow=>aY <| aN 2 [] [(111,.q ag ah aJ),(112,.i yh)] I fun a I=>?_;obtain ⟨cz,aAt,h⟩:=J.aH h;have hc:=hm;refine bP (vs:=[.q ag ah aJ,.i yh]) wn rfl Tryz.call110 ⟨(I.g rfl),(I.g rfl),trivial⟩ (P6 ((hc.into 0).pick ⟨⟨0,rfl⟩,trivial⟩) aAt) I rfl rfl ?_;rintro _ w ⟨fI,fQ,dQ,rfl,af⟩;refine ⟨_,rfl,fun a I=>?_⟩;have hm:=hc.back 0 af;clear af hc;refine aN 1 [] [(9,.q fI fQ cz)] I fun a I=>wpList_nil (ow _ _ ?_);refine wp_seq_k fun K mB=>wp_seq_k fun K r_=>aY ?_
 refine aN 2 [] [(114,.q ag ah aJ),(115,.i yh)] I fun a I=>?_;obtain ⟨dG,aC5,h⟩:=J.aH h;obtain ⟨amj,aw',_,⟨fV,fX,fW,fY,rfl,auR,auS⟩,asV⟩:=bX _ (hm.d 1 rfl) aC5;have hm:=hm.more (y:=U J.aW fV fX dG.Fields) auR;have hm:=hm.more (y:=U J.b4 fW fY dG.aQ) auS;refine bQ wn (bF Tryz.underlying25 Tryz.sizeOf136 rfl (I.g rfl) (I.g rfl) amj aw') I rfl rfl fun a I=>?_
 refine bi 9 [0,1,0,0,0,0] [(125,.bool ((!decide (dG.bZ= [79,98,106,101,99,116])) || (decide ((cz.length:Int)= 0))))] [bG ag,bH ag+(yh).toNat* 4 + 1] (av asV aw) I fun a I=>?_;rcases Bool.eq_false_or_eq_true ((!decide (dG.bZ= [79,98,106,101,99,116])) || (decide ((cz.length:Int)= 0))) with Gs | Gs
 · have h:=J.dj Gs h;have I:=I.b6 125 rfl Gs;refine aN 7 [1,1,1,1,1,1,1] [(132,.bool true)] I fun a I=>wpList_nil (r_ _ _ ?_);refine eG (I.g rfl) rfl <| bt [] [(2,.i 4)] I fun a I=>wp_ret ?_;obtain rfl:=ay h;refine aj <| bq Tryz.results109 I rfl ?_;exact ⟨rfl,hm.aX [] []⟩
 have h:=J.di Gs h;have I:=I.b6 125 rfl Gs;refine aN 1 [1] [(126,.q fI fQ cz)] I fun a I=>?_;obtain ⟨Yg,aC7,h⟩:=J.aH h;obtain ⟨aml,axb,_,rfl,asX⟩:=gN (hm.e 0 rfl) (hm.d 2 rfl) aC7;refine bQ (cV I rfl rfl rfl rfl) (bF Tryz.underlying106 Tryz.sizeOf105 rfl (I.g rfl) (cW _ _) aml axb) I rfl rfl fun a I=>bi 5 [1,1,1,0,1,1,1] [(132,.bool (!decide (Yg.Kind.Kind= 1)))] [bG fI,bH fI+(0 :Int).toNat* 3 + 1 + 0] (av asX aw) I fun a I=>wpList_nil (r_ _ _ ?_);refine bk (I.g rfl) h (fun aqk h=>?_) (fun aqk h=>?_)
 · refine bt [] [(2,.i 4)] I fun a I=>wp_ret ?_;obtain rfl:=ay h;refine aj <| bq Tryz.results109 I rfl ?_;exact ⟨rfl,hm.aX [] []⟩
 refine wp_skip <| mB _ _ <| wp_seq_k fun K r'=>bb [] [(10,.i 0)] I fun a I=>?_;obtain ⟨V',h,CA⟩:=J.dZ h;refine ca (fun a w=>Fr ⟨353,[]⟩ [(0,.q ag ah aJ)] a/\ar W M0 X w [aq.row 105 3 (.q fI fQ cz) cz dQ] [U J.b4 fW fY dG.aQ,U J.aW fV fX dG.Fields,al.rows J.aW dQ cz,U J.a' ag ah aJ]/\V'=(.go ())) (fun K xl=>?_) ?_
 · refine cw (fun (hZ:Nat) a w=>∃ (fz:Int),Fr ⟨353,[]⟩ [(0,.q ag ah aJ),(10,.i fz)] a/\ar W M0 X w [aq.row 105 3 (.q fI fQ cz) cz dQ] [U J.b4 fW fY dG.aQ,U J.aW fV fX dG.Fields,al.rows J.aW dQ cz,U J.a' ag ah aJ]/\J.s5 F aJ hZ fz=some V') F ⟨0,I.cut,hm,h⟩ ?_ ?_
   · rintro a w ⟨fz,I,hm,h⟩;exact absurd h (by simp [J.s5])
   rintro hZ a w ⟨fz,I,hm,h⟩ K tF;rw [J.s5] at h;refine wp_seq_k fun K FH=>bb [] [(136,.bool (decide (fz <(aJ.length:Int))))] I fun a I=>bk (I.g rfl) h (fun aoO h=>?_) (fun aoO h=>?_)
   · refine wp_skip <| FH _ _ <| wp_seq_k fun K xm=>?_;obtain ⟨ad5,h,Cw⟩:=J.eT h;refine ca (fun a w=>Fr ⟨353,[]⟩ [(0,.q ag ah aJ),(10,.i fz)] a/\ar W M0 X w [aq.row 105 3 (.q fI fQ cz) cz dQ] [U J.b4 fW fY dG.aQ,U J.aW fV fX dG.Fields,al.rows J.aW dQ cz,U J.a' ag ah aJ]/\ad5=(.go ())) (fun K zw=>?_) ?_
     · refine wp_seq_k fun K tG=>bb [] [(11,.i 0)] I fun a I=>?_;obtain ⟨UY,h,Sm⟩:=J.eT h;refine ca (fun a w=>Fr ⟨353,[]⟩ [(0,.q ag ah aJ),(10,.i fz)] a/\ar W M0 X w [aq.row 105 3 (.q fI fQ cz) cz dQ] [U J.b4 fW fY dG.aQ,U J.aW fV fX dG.Fields,al.rows J.aW dQ cz,U J.a' ag ah aJ]/\UY=(.go ())) (fun K zx=>?_) ?_
       · refine cw (fun (jG:Nat) a w=>∃ (mW:Int),Fr ⟨353,[]⟩ [(0,.q ag ah aJ),(10,.i fz),(11,.i mW)] a/\ar W M0 X w [aq.row 105 3 (.q fI fQ cz) cz dQ] [U J.b4 fW fY dG.aQ,U J.aW fV fX dG.Fields,al.rows J.aW dQ cz,U J.a' ag ah aJ]/\J.wg F aJ fz jG mW=some UY) F ⟨0,I.cut,hm,h⟩ ?_ ?_
         · rintro a w ⟨mW,I,hm,h⟩;exact absurd h (by simp [J.wg])
         rintro jG a w ⟨mW,I,hm,h⟩ K xn;rw [J.wg] at h;refine wp_seq_k fun K FI=>wp_seq_k fun K FJ=>aY <| aN 3 [] [(139,.i mW),(140,.q ag ah aJ),(141,.i fz)] I fun a I=>?_;obtain ⟨Iq,aBS,h⟩:=J.aH h;obtain ⟨ak4,avW,_,⟨agW,ahQ,agX,ahR,rfl,at6,at7⟩,arE⟩:=bX _ (hm.d 3 rfl) aBS;have hm:=hm.more (y:=U J.aW agW ahQ Iq.Fields) at6;have hm:=hm.more (y:=U J.b4 agX ahR Iq.aQ) at7;refine bQ wn (bF Tryz.underlying25 Tryz.sizeOf136 rfl (I.g rfl) (I.g rfl) ak4 avW) I rfl rfl fun a I=>?_
         refine bi 4 [0,2] [(146,.bool (decide (mW <(Iq.Fields.length:Int))))] [bG ag,bH ag+(fz).toNat* 4 + 2] (av arE aw) I fun a I=>wpList_nil (FJ _ _ ?_);refine bk (I.g rfl) h (fun aoT h=>?_) (fun aoT h=>?_)
         · refine wp_skip <| FI _ _ <| wp_seq_k fun K Cj=>wp_block <| wp_seq_k fun K zy=>aY <| eu 3 [] [(0,.q ag ah aJ),(10,.i fz),(11,.i mW),(149,.q ag ah aJ),(150,.q ag ah aJ),(151,.i fz)] I fun a I=>?_;obtain ⟨Ir,aBT,h⟩:=J.aH h;obtain ⟨ak5,avX,_,⟨I8,Z',agY,ahS,rfl,at8,at9⟩,arF⟩:=bX _ (hm.d 5 rfl) aBT;have hm:=hm.more (y:=U J.aW I8 Z' Ir.Fields) at8;have hm:=hm.more (y:=U J.b4 agY ahS Ir.aQ) at9
           refine bQ wn (bF Tryz.underlying25 Tryz.sizeOf136 rfl (I.g rfl) (I.g rfl) ak5 avX) I rfl rfl fun a I=>bi 3 [0,2] [(154,.q I8 Z' Ir.Fields),(155,.i mW)] [bG ag,bH ag+(fz).toNat* 4 + 2] (av arF aw) I fun a I=>?_;obtain ⟨nY,aBU,h⟩:=J.aH h;obtain ⟨ak6,avY,_,rfl,arG⟩:=bX _ (hm.d 1 rfl) aBU;refine bQ wn (bF Tryz.underlying106 Tryz.sizeOf105 rfl (I.g rfl) (I.g rfl) ak6 avY) I rfl rfl fun a I=>bi 2 [0,1] [(158,.agg #[.i nY.Kind.Kind,ao nY.Kind.aM])] [bG I8,bH I8+(mW).toNat* 3 + 1] (av arG aw) I fun a I=>?_
           refine gq (cs:=[.i nY.Kind.Kind,ao nY.Kind.aM]) wn (fU (vs:=[(0,.agg #[.i nY.Kind.Kind,ao nY.Kind.aM])]) Tryz.underlying130 Tryz.sizeOf103 Tryz.zeroValue103 rfl rfl rfl ⟨⟨(I.g rfl),rfl⟩,trivial⟩ (by kernel_rfl)) I hm rfl rfl fun a akr w _ I hm=>?_;obtain ⟨WX,azA,h⟩:=J.aH h;have hc:=hm;have ax:=(hc.nI (sz:=2) 0 [nY.Kind] rfl rfl rfl rfl).more (y:=al.rows J.dt [.i nY.Kind.Kind,ao nY.Kind.aM] [nY.Kind]) ⟨_,_,rfl,rfl,rfl⟩;have ax:=ax.freeze 0 0 rfl rfl
           refine bP (vs:=[.q ag ah aJ,.slice (some ⟨akr,0,none⟩) 1 1]) wn rfl Tryz.call137 ⟨(I.g rfl),(I.g rfl),trivial⟩ (P7 (kinds_:=[nY.Kind]) ((ax.into 0).pick ⟨⟨9,rfl⟩,⟨0,rfl⟩,trivial⟩) azA) I rfl rfl ?_;rintro _ w ⟨rfl,af⟩;refine ⟨_,rfl,fun a I=>?_⟩;have ad:ba [] _ w:=af.ev;have hm:=hc.fP 0 (by exact trivial) af;clear af hc ax;clear ad;refine aN 1 [] [(161,.bool (!WX))] I fun a I=>wpList_nil (zy _ _ ?_);refine bk (I.g rfl) h (fun aoU h=>?_) (fun aoU h=>?_)
           · refine bt [] [(2,.i 5)] I fun a I=>wp_ret ?_;obtain rfl:=ay h;obtain rfl:=ay Sm;obtain rfl:=ay Cw;obtain rfl:=ay CA;refine a8 (aj (aj (a8 (aj (aj (a8 (aj (aj (aj (a8 (aj (aj ?_))))))))))));refine bq Tryz.results109 I rfl ?_;exact ⟨rfl,hm.aX [] []⟩
           refine wp_skip <| Cj _ _ <| cg [] [(11,.i (J.ap (mW+ 1)))] I fun a I=>?_;exact xn _ _ ⟨J.ap (mW+ 1),I.cut,hm.aX [1] [4,5,6,7],h⟩
         refine wp_exit <| bz (bz (cr ?_));exact zx _ _ ⟨I.cut,hm.eA [2,3,4,5],(os h)⟩
       rintro a w ⟨I,hm,bc⟩;subst UY;have h:=Sm;clear Sm;dsimp only [J.eN] at h;refine tG _ _ <| bb [] [(12,.i 0)] I fun a I=>?_;obtain ⟨U0,h,GQ⟩:=J.eT h;refine ca (fun a w=>Fr ⟨353,[]⟩ [(0,.q ag ah aJ),(10,.i fz)] a/\ar W M0 X w [aq.row 105 3 (.q fI fQ cz) cz dQ] [U J.b4 fW fY dG.aQ,U J.aW fV fX dG.Fields,al.rows J.aW dQ cz,U J.a' ag ah aJ]/\U0=(.go ())) (fun K QR=>?_) ?_
       · refine cw (fun (si:Nat) a w=>∃ (kE:Int),Fr ⟨353,[]⟩ [(0,.q ag ah aJ),(10,.i fz),(12,.i kE)] a/\ar W M0 X w [aq.row 105 3 (.q fI fQ cz) cz dQ] [U J.b4 fW fY dG.aQ,U J.aW fV fX dG.Fields,al.rows J.aW dQ cz,U J.a' ag ah aJ]/\J.wh F aJ fz si kE=some U0) F ⟨0,I.cut,hm,h⟩ ?_ ?_
         · rintro a w ⟨kE,I,hm,h⟩;exact absurd h (by simp [J.wh])
         rintro si a w ⟨kE,I,hm,h⟩ K an9;rw [J.wh] at h;refine wp_seq_k fun K QS=>wp_seq_k fun K KX=>aY <| aN 3 [] [(162,.i kE),(163,.q ag ah aJ),(164,.i fz)] I fun a I=>?_;obtain ⟨rB,aB1,h⟩:=J.aH h;obtain ⟨alb,av5,_,⟨Ja,JY,Jb,JZ,rfl,at',aua⟩,arO⟩:=bX _ (hm.d 3 rfl) aB1;have hm:=hm.more (y:=U J.aW Ja JY rB.Fields) at';have hm:=hm.more (y:=U J.b4 Jb JZ rB.aQ) aua;refine bQ wn (bF Tryz.underlying25 Tryz.sizeOf136 rfl (I.g rfl) (I.g rfl) alb av5) I rfl rfl fun a I=>?_
         refine bi 4 [0,3] [(169,.bool (decide (kE <(rB.aQ.length:Int))))] [bG ag,bH ag+(fz).toNat* 4 + 3] (av arO aw) I fun a I=>wpList_nil (KX _ _ ?_);refine bk (I.g rfl) h (fun ao2 h=>?_) (fun ao2 h=>?_)
         · refine wp_skip <| QS _ _ <| wp_seq_k fun K QT=>?_;obtain ⟨ad7,h,GR⟩:=J.eT h;refine ca (fun a w=>Fr ⟨353,[]⟩ [(0,.q ag ah aJ),(10,.i fz),(12,.i kE)] a/\ar W M0 X w [aq.row 105 3 (.q fI fQ cz) cz dQ] [U J.b4 Jb JZ rB.aQ,U J.aW Ja JY rB.Fields,U J.b4 fW fY dG.aQ,U J.aW fV fX dG.Fields,al.rows J.aW dQ cz,U J.a' ag ah aJ]/\ad7=(.go ())) (fun K QU=>?_) ?_
           · refine wp_seq_k fun K KY=>aY <| eu 2 [] [(0,.q ag ah aJ),(10,.i fz),(12,.i kE),(172,.q ag ah aJ),(173,.i fz)] I fun a I=>?_;obtain ⟨vm,aB2,h⟩:=J.aH h;obtain ⟨alc,av6,_,⟨O4,PI,Ba,J0,rfl,aub,auc⟩,arP⟩:=bX _ (hm.d 5 rfl) aB2;have hm:=hm.more (y:=U J.aW O4 PI vm.Fields) aub;have hm:=hm.more (y:=U J.b4 Ba J0 vm.aQ) auc;refine bQ wn (bF Tryz.underlying25 Tryz.sizeOf136 rfl (I.g rfl) (I.g rfl) alc av6) I rfl rfl fun a I=>?_
             refine bi 3 [0,3] [(176,.q Ba J0 vm.aQ),(177,.i kE)] [bG ag,bH ag+(fz).toNat* 4 + 3] (av arP aw) I fun a I=>?_;obtain ⟨dJ,aB3,h⟩:=J.aH h;obtain ⟨ald,av7,_,⟨sO,th,rJ,wR,rfl,aud,aue⟩,arQ⟩:=bX _ (hm.d 0 rfl) aB3;have hm:=hm.more (y:=U J.dt sO th dJ.bI) aud;have hm:=hm.more (y:=U J.eg rJ wR dJ.bK) aue;refine bQ wn (bF Tryz.underlying134 Tryz.sizeOf133 rfl (I.g rfl) (I.g rfl) ald av7) I rfl rfl fun a I=>?_
             refine bi 1 [0,0] [(179,.agg #[ao dJ.Name,.bool dJ.Static,.q sO th dJ.bI,.i dJ.Returns.Kind,ao dJ.Returns.aM,.i dJ.cR,.i dJ.cQ,ao dJ.Code,.q rJ wR dJ.bK])] [bG Ba,bH Ba+(kE).toNat* 9] (av arQ aw) I fun a I=>cD (cs:=[ao [],.bool false,.slice none 0 0,.i 0,ao [],.i 0,.i 0,ao [],.slice none 0 0]) wn (eQ Tryz.zeroValue133 rfl rfl) I hm rfl rfl fun a zn w _ I hm=>?_
             refine cX (vs:=[ao dJ.Name,.bool dJ.Static,.q sO th dJ.bI,.i dJ.Returns.Kind,ao dJ.Returns.aM,.i dJ.cR,.i dJ.cQ,ao dJ.Code,.q rJ wR dJ.bK]) 0 hm rfl wn rfl Tryz.sizeOf133 rfl rfl rfl rfl (I.g rfl) (I.g rfl) rfl fun w hm=>wpList_nil <| KY _ _ <| wp_seq_k fun K zz=>wp_seq_k fun K acz=>aY <| bi 3 [0,2] [(180,.q ag ah aJ),(182,.q sO th dJ.bI)] [zn,2] (av (a2 (hm.e 0 rfl)) aw) I fun a I=>?_;obtain ⟨Mr,azG,h⟩:=J.aH h;have hc:=hm
             refine bP (vs:=[.q ag ah aJ,.q sO th dJ.bI]) wn rfl Tryz.call137 ⟨(I.g rfl),(I.g rfl),trivial⟩ (P7 ((hc.into 0).pick ⟨⟨9,rfl⟩,⟨1,rfl⟩,trivial⟩) azG) I rfl rfl ?_;rintro _ w ⟨rfl,af⟩;refine ⟨_,rfl,fun a I=>?_⟩;have hm:=hc.back 0 af;clear af hc;refine aN 2 [] [(185,.bool (!Mr))] I fun a I=>?_;rcases Bool.eq_false_or_eq_true (!Mr) with FV | FV
             · have h:=J.dj FV h;have I:=I.b6 185 rfl FV;refine aN 7 [1,1,1,1,1,1,1] [(192,.bool true)] I fun a I=>wpList_nil (acz _ _ ?_);refine eG (I.g rfl) rfl <| bt [] [(2,.i 5)] I fun a I=>wp_ret ?_;obtain rfl:=ay h;obtain rfl:=ay GR;obtain rfl:=ay GQ;obtain rfl:=ay Cw;obtain rfl:=ay CA;refine aj (a8 (aj (aj (aj (a8 (aj (a8 (aj (aj (aj (a8 (aj (aj ?_)))))))))))))
               refine bq Tryz.results109 I rfl ?_;exact ⟨rfl,hm.aX [] []⟩
             have h:=J.di FV h;have I:=I.b6 185 rfl FV;refine bi 3 [1,1,1,0,3] [(186,.q ag ah aJ),(188,.agg #[.i dJ.Returns.Kind,ao dJ.Returns.aM])] [zn,3] (av (a2 (hm.e 0 rfl)) aw) I fun a I=>gq (cs:=[.i dJ.Returns.Kind,ao dJ.Returns.aM]) (cV I rfl rfl rfl rfl) (fU (vs:=[(0,.agg #[.i dJ.Returns.Kind,ao dJ.Returns.aM])]) Tryz.underlying130 Tryz.sizeOf103 Tryz.zeroValue103 rfl rfl rfl ⟨⟨(I.g rfl),rfl⟩,trivial⟩ (by kernel_rfl)) I hm rfl rfl fun a Qw w _ I hm=>?_;obtain ⟨WZ,azH,h⟩:=J.aH h;have hc:=hm
             have ax:=(hc.nI (sz:=2) 0 [dJ.Returns] rfl rfl rfl rfl).more (y:=al.rows J.dt [.i dJ.Returns.Kind,ao dJ.Returns.aM] [dJ.Returns]) ⟨_,_,rfl,rfl,rfl⟩;have ax:=ax.freeze 0 0 rfl rfl;refine bP (vs:=[.q ag ah aJ,.slice (some ⟨Qw,0,none⟩) 1 1]) (cV I rfl rfl rfl rfl) rfl Tryz.call137 ⟨(I.g rfl),(I.g rfl),trivial⟩ (P7 (kinds_:=[dJ.Returns]) ((ax.into 0).pick ⟨⟨11,rfl⟩,⟨0,rfl⟩,trivial⟩) azH) I rfl rfl ?_;rintro _ w ⟨rfl,af⟩;refine ⟨_,rfl,fun a I=>?_⟩;have ad:ba [] _ w:=af.ev;have hm:=hc.fP 0 (by exact trivial) af
             clear af hc ax;clear ad;refine aN 2 [1,1] [(192,.bool (!WZ))] I fun a I=>wpList_nil (acz _ _ ?_);refine bk (I.g rfl) h (fun ao4 h=>?_) (fun ao4 h=>?_)
             · refine bt [] [(2,.i 5)] I fun a I=>wp_ret ?_;obtain rfl:=ay h;obtain rfl:=ay GR;obtain rfl:=ay GQ;obtain rfl:=ay Cw;obtain rfl:=ay CA;refine aj (a8 (aj (aj (aj (a8 (aj (a8 (aj (aj (aj (a8 (aj (aj ?_)))))))))))));refine bq Tryz.results109 I rfl ?_;exact ⟨rfl,hm.aX [] []⟩
             refine wp_skip <| zz _ _ <| bb [] [(14,.i 0)] I fun a I=>?_;obtain ⟨U2,h,So⟩:=J.eT h
             refine ca (fun a w=>Fr ⟨353,[]⟩ [(0,.q ag ah aJ),(10,.i fz),(12,.i kE)] a/\ar W M0 X w [aq.br Qw 103 [.i dJ.Returns.Kind,ao dJ.Returns.aM],aq.br zn 133 [ao dJ.Name,.bool dJ.Static,.q sO th dJ.bI,.i dJ.Returns.Kind,ao dJ.Returns.aM,.i dJ.cR,.i dJ.cQ,ao dJ.Code,.q rJ wR dJ.bK],aq.row 105 3 (.q fI fQ cz) cz dQ] [U J.eg rJ wR dJ.bK,U J.dt sO th dJ.bI,U J.b4 Ba J0 vm.aQ,U J.aW O4 PI vm.Fields,U J.b4 Jb JZ rB.aQ,U J.aW Ja JY rB.Fields,U J.b4 fW fY dG.aQ,U J.aW fV fX dG.Fields,al.rows J.aW dQ cz,U J.a' ag ah aJ]/\U2=(.go ())) (fun K an_=>?_) ?_
             · refine cw (fun (ub:Nat) a w=>∃ (oR:Int),Fr ⟨353,[]⟩ [(0,.q ag ah aJ),(10,.i fz),(12,.i kE),(13,.aL zn),(14,.i oR)] a/\ar W M0 X w [aq.br Qw 103 [.i dJ.Returns.Kind,ao dJ.Returns.aM],aq.br zn 133 [ao dJ.Name,.bool dJ.Static,.q sO th dJ.bI,.i dJ.Returns.Kind,ao dJ.Returns.aM,.i dJ.cR,.i dJ.cQ,ao dJ.Code,.q rJ wR dJ.bK],aq.row 105 3 (.q fI fQ cz) cz dQ] [U J.eg rJ wR dJ.bK,U J.dt sO th dJ.bI,U J.b4 Ba J0 vm.aQ,U J.aW O4 PI vm.Fields,U J.b4 Jb JZ rB.aQ,U J.aW Ja JY rB.Fields,U J.b4 fW fY dG.aQ,U J.aW fV fX dG.Fields,al.rows J.aW dQ cz,U J.a' ag ah aJ]/\J.wi F aJ dJ ub oR=some U2) F ⟨0,I.cut,hm,h⟩ ?_ ?_
               · rintro a w ⟨oR,I,hm,h⟩;exact absurd h (by simp [J.wi])
               rintro ub a w ⟨oR,I,hm,h⟩ K QV;rw [J.wi] at h;refine wp_seq_k fun K an'=>wp_seq_k fun K QW=>eE [0,8] [(197,.bool (decide (oR <(dJ.bK.length:Int))))] [zn,8] (av (a2 (hm.e 1 rfl)) aw) I fun a I=>QW _ _ <| bk (I.g rfl) h (fun ao5 h=>?_) (fun ao5 h=>?_)
               · refine wp_skip <| an' _ _ <| wp_seq_k fun K QX=>wp_block <| wp_seq_k fun K QY=>aY <| bi 4 [0,8] [(200,.q ag ah aJ),(202,.q rJ wR dJ.bK),(203,.i oR)] [zn,8] (av (a2 (hm.e 1 rfl)) aw) I fun a I=>?_;obtain ⟨Nl,aB4,h⟩:=J.aH h;obtain ⟨ale,av8,_,rfl,arR⟩:=bX _ (hm.d 0 rfl) aB4;refine bQ wn (bF Tryz.underlying131 Tryz.sizeOf150 rfl (I.g rfl) (I.g rfl) ale av8) I rfl rfl fun a I=>bi 2 [0,3] [(206,ao Nl.aM)] [bG rJ,bH rJ+(oR).toNat* 4 + 3] (av arR aw) I fun a I=>?_;obtain ⟨W0,azI,h⟩:=J.aH h;have hc:=hm
                 refine bP (vs:=[.q ag ah aJ,ao Nl.aM]) wn rfl Tryz.call112 ⟨(I.g rfl),(I.g rfl),trivial⟩ (ts ((hc.into 0).pick ⟨⟨9,rfl⟩,trivial⟩) azI) I rfl rfl ?_;rintro _ w ⟨rfl,af⟩;refine ⟨_,rfl,fun a I=>?_⟩;have hm:=hc.back 0 af;clear af hc;refine aN 1 [] [(208,.bool (decide (W0 < 0)))] I fun a I=>wpList_nil (QY _ _ ?_);refine bk (I.g rfl) h (fun ao6 h=>?_) (fun ao6 h=>?_)
                 · refine bt [] [(2,.i 5)] I fun a I=>wp_ret ?_;obtain rfl:=ay h;obtain rfl:=ay So;obtain rfl:=ay GR;obtain rfl:=ay GQ;obtain rfl:=ay Cw;obtain rfl:=ay CA;refine a8 (aj (aj (a8 (aj (a8 (aj (aj (aj (a8 (aj (a8 (aj (aj (aj (a8 (aj (aj ?_)))))))))))))))));refine bq Tryz.results109 I rfl ?_;exact ⟨rfl,hm.aX [] []⟩
                 refine wp_skip <| QX _ _ <| cg [] [(14,.i (J.ap (oR+ 1)))] I fun a I=>?_;exact QV _ _ ⟨J.ap (oR+ 1),I.cut,hm,h⟩
               refine wp_exit <| bz (bz (cr ?_));exact an_ _ _ ⟨I.cut,hm,(os h)⟩
             rintro a w ⟨I,hm,bc⟩;subst U2;have h:=So;clear So;dsimp only [J.eN] at h;exact QU _ _ ⟨I.cut,hm.aX [2] [4,5,6,7,8,9],(os h)⟩
           rintro a w ⟨I,hm,bc⟩;subst ad7;have h:=GR;clear GR;dsimp only [J.eN] at h;refine QT _ _ <| cg [] [(12,.i (J.ap (kE+ 1)))] I fun a I=>?_;exact an9 _ _ ⟨J.ap (kE+ 1),I.cut,hm.eA [2,3,4,5],h⟩
         refine wp_exit <| bz (bz (cr ?_));exact QR _ _ ⟨I.cut,hm.eA [2,3,4,5],(os h)⟩
       rintro a w ⟨I,hm,bc⟩;subst U0;have h:=GQ;clear GQ;dsimp only [J.eN] at h;exact zw _ _ ⟨I.cut,hm,(os h)⟩
     rintro a w ⟨I,hm,bc⟩;subst ad5;have h:=Cw;clear Cw;dsimp only [J.eN] at h;refine xm _ _ <| cg [] [(10,.i (J.ap (fz+ 1)))] I fun a I=>?_;exact tF _ _ ⟨J.ap (fz+ 1),I.cut,hm,h⟩
   refine wp_exit <| bz (bz (cr ?_));exact xl _ _ ⟨I.cut,hm,(os h)⟩
 rintro a w ⟨I,hm,bc⟩;subst V';have h:=CA;clear CA;dsimp only [J.dW] at h;refine r' _ _ <| wp_seq_k fun K QZ=>bb [] [(15,.i 0)] I fun a I=>?_;obtain ⟨Vi,h,Lb⟩:=J.dZ h;refine ca (fun a w=>Fr ⟨353,[]⟩ [(0,.q ag ah aJ)] a/\ar W M0 X w [aq.row 105 3 (.q fI fQ cz) cz dQ] [U J.b4 fW fY dG.aQ,U J.aW fV fX dG.Fields,al.rows J.aW dQ cz,U J.a' ag ah aJ]/\Vi=(.go ())) (fun K Q0=>?_) ?_
 · refine cw (fun (sj:Nat) a w=>∃ (g':Int),Fr ⟨353,[]⟩ [(0,.q ag ah aJ),(15,.i g')] a/\ar W M0 X w [aq.row 105 3 (.q fI fQ cz) cz dQ] [U J.b4 fW fY dG.aQ,U J.aW fV fX dG.Fields,al.rows J.aW dQ cz,U J.a' ag ah aJ]/\J.wj F aJ sj g'=some Vi) F ⟨0,I.cut,hm,h⟩ ?_ ?_
   · rintro a w ⟨g',I,hm,h⟩;exact absurd h (by simp [J.wj])
   rintro sj a w ⟨g',I,hm,h⟩ K aob;rw [J.wj] at h;refine wp_seq_k fun K Q1=>bb [] [(212,.bool (decide (g' <(aJ.length:Int))))] I fun a I=>bk (I.g rfl) h (fun apO h=>?_) (fun apO h=>?_)
   · refine wp_skip <| Q1 _ _ <| wp_seq_k fun K Q2=>?_;obtain ⟨aef,h,Lf⟩:=J.eT h;refine ca (fun a w=>Fr ⟨353,[]⟩ [(0,.q ag ah aJ),(15,.i g')] a/\ar W M0 X w [aq.row 105 3 (.q fI fQ cz) cz dQ] [U J.b4 fW fY dG.aQ,U J.aW fV fX dG.Fields,al.rows J.aW dQ cz,U J.a' ag ah aJ]/\aef=(.go ())) (fun K aoc=>?_) ?_
     · refine wp_seq_k fun K KZ=>aY <| aN 2 [] [(215,.q ag ah aJ),(216,.i g')] I fun a I=>?_;obtain ⟨eP,aAj,h⟩:=J.aH h;have hc:=hm;refine bP (vs:=[.q ag ah aJ,.i g']) wn rfl Tryz.call110 ⟨(I.g rfl),(I.g rfl),trivial⟩ (P6 ((hc.into 0).pick ⟨⟨3,rfl⟩,trivial⟩) aAj) I rfl rfl ?_;rintro _ w ⟨iL,ku,jY,rfl,af⟩;refine ⟨_,rfl,fun a I=>?_⟩;have hm:=hc.back 0 af;clear af hc;refine aN 1 [] [(16,.q iL ku eP)] I fun a I=>wpList_nil (KZ _ _ ?_);refine wp_seq_k fun K K0=>wp_seq_k fun K aod=>?_
       refine cg [] [(17,.i 0)] I fun a I=>aod _ _ ?_;obtain ⟨Vw,h,SS⟩:=J.eT h;refine ca (fun a w=>Fr ⟨353,[]⟩ [(0,.q ag ah aJ),(15,.i g')] a/\ar W M0 X w [aq.row 105 3 (.q iL ku eP) eP jY,aq.row 105 3 (.q fI fQ cz) cz dQ] [al.rows J.aW jY eP,U J.b4 fW fY dG.aQ,U J.aW fV fX dG.Fields,al.rows J.aW dQ cz,U J.a' ag ah aJ]/\Vw=(.go ())) (fun K ano=>?_) ?_
       · refine cw (fun (LC:Nat) a w=>∃ (iE:Int),Fr ⟨353,[]⟩ [(0,.q ag ah aJ),(15,.i g'),(16,.q iL ku eP),(17,.i iE)] a/\ar W M0 X w [aq.row 105 3 (.q iL ku eP) eP jY,aq.row 105 3 (.q fI fQ cz) cz dQ] [al.rows J.aW jY eP,U J.b4 fW fY dG.aQ,U J.aW fV fX dG.Fields,al.rows J.aW dQ cz,U J.a' ag ah aJ]/\J.vY F eP LC iE=some Vw) F ⟨0,I.cut,hm,h⟩ ?_ ?_
         · rintro a w ⟨iE,I,hm,h⟩;exact absurd h (by simp [J.vY])
         rintro LC a w ⟨iE,I,hm,h⟩ K anp;rw [J.vY] at h;refine wp_seq_k fun K anq=>bb [] [(221,.bool (decide (iE <(eP.length:Int))))] I fun a I=>bk (I.g rfl) h (fun apY h=>?_) (fun apY h=>?_)
         · refine wp_skip <| anq _ _ <| wp_seq_k fun K anr=>?_;obtain ⟨aeg,h,SU⟩:=J.eT h;refine ca (fun a w=>Fr ⟨353,[]⟩ [(0,.q ag ah aJ),(15,.i g'),(16,.q iL ku eP),(17,.i iE)] a/\ar W M0 X w [aq.row 105 3 (.q iL ku eP) eP jY,aq.row 105 3 (.q fI fQ cz) cz dQ] [al.rows J.aW jY eP,U J.b4 fW fY dG.aQ,U J.aW fV fX dG.Fields,al.rows J.aW dQ cz,U J.a' ag ah aJ]/\aeg=(.go ())) (fun K ans=>?_) ?_
           · refine bb [] [(18,.i 0)] I fun a I=>?_;obtain ⟨Vx,h,SV⟩:=J.eT h;refine ca (fun a w=>Fr ⟨353,[]⟩ [(0,.q ag ah aJ),(15,.i g'),(16,.q iL ku eP),(17,.i iE)] a/\ar W M0 X w [aq.row 105 3 (.q iL ku eP) eP jY,aq.row 105 3 (.q fI fQ cz) cz dQ] [al.rows J.aW jY eP,U J.b4 fW fY dG.aQ,U J.aW fV fX dG.Fields,al.rows J.aW dQ cz,U J.a' ag ah aJ]/\Vx=(.go ())) (fun K ant=>?_) ?_
             · refine cw (fun (LD:Nat) a w=>∃ (nK:Int),Fr ⟨353,[]⟩ [(0,.q ag ah aJ),(15,.i g'),(16,.q iL ku eP),(17,.i iE),(18,.i nK)] a/\ar W M0 X w [aq.row 105 3 (.q iL ku eP) eP jY,aq.row 105 3 (.q fI fQ cz) cz dQ] [al.rows J.aW jY eP,U J.b4 fW fY dG.aQ,U J.aW fV fX dG.Fields,al.rows J.aW dQ cz,U J.a' ag ah aJ]/\J.vZ eP iE LD nK=some Vx) F ⟨0,I.cut,hm,h⟩ ?_ ?_
               · rintro a w ⟨nK,I,hm,h⟩;exact absurd h (by simp [J.vZ])
               rintro LD a w ⟨nK,I,hm,h⟩ K anu;rw [J.vZ] at h;refine wp_seq_k fun K anv=>bt [] [(0,.q ag ah aJ),(15,.i g'),(16,.q iL ku eP),(17,.i iE),(18,.i nK),(226,.bool (decide (nK <iE)))] I fun a I=>bk (I.g rfl) h (fun apZ h=>?_) (fun apZ h=>?_)
               · refine wp_skip <| anv _ _ <| wp_seq_k fun K anw=>wp_block <| wp_seq_k fun K anx=>hA (by kernel_rfl) (by kernel_rfl) <| dB 2 [] [(229,.q iL ku eP),(230,.i nK)] [] (fun a6 ad=>aw) I fun a I=>?_;obtain ⟨NH,aCO,h⟩:=J.aH h;obtain ⟨al6,awW,_,rfl,asF⟩:=gN (hm.e 0 rfl) (hm.d 0 rfl) aCO;refine ek wn (fun a6 ad=>bF Tryz.underlying106 Tryz.sizeOf105 rfl (I.g rfl) (I.g rfl) al6 awW) I rfl rfl fun a I=>dB 4 [0,0] [(233,ao NH.Name),(234,.q iL ku eP),(235,.i iE)] [bG iL,bH iL+(nK).toNat* 3 + 0] (fun a6 ad=>(av (b2 ad asF) aw)) I fun a I=>?_
                 obtain ⟨Yd,aCP,h⟩:=J.aH h;obtain ⟨al7,awX,_,rfl,asG⟩:=gN (hm.e 0 rfl) (hm.d 0 rfl) aCP;refine ek wn (fun a6 ad=>bF Tryz.underlying106 Tryz.sizeOf105 rfl (I.g rfl) (I.g rfl) al7 awX) I rfl rfl fun a I=>dB 3 [0,0] [(239,.bool (decide (NH.Name=Yd.Name)))] [bG iL,bH iL+(iE).toNat* 3 + 0] (fun a6 ad=>(av (b2 ad asG) aw)) I fun a I=>wpQuiet_nil fun w ad=>?_;have hm:=hm.dw ad;clear ad;refine anx _ _ <| bk (I.g rfl) h (fun ap0 h=>?_) (fun ap0 h=>?_)
                 · refine bt [] [(2,.i 6)] I fun a I=>wp_ret ?_;obtain rfl:=ay h;obtain rfl:=ay SV;obtain rfl:=ay SU;obtain rfl:=ay SS;obtain rfl:=ay Lf;obtain rfl:=ay Lb;refine a8 (aj (aj (a8 (aj (a8 (aj (aj (aj (a8 (aj (aj (a8 (aj (aj (aj (a8 (aj (aj ?_))))))))))))))))));refine bq Tryz.results109 I rfl ?_;exact ⟨rfl,hm.aX [] []⟩
                 refine wp_skip <| anw _ _ <| cg [] [(18,.i (J.ap (nK+ 1)))] I fun a I=>?_;exact anu _ _ ⟨J.ap (nK+ 1),I.cut,hm,h⟩
               refine wp_exit <| bz (bz (cr ?_));exact ant _ _ ⟨I.cut,hm,(os h)⟩
             rintro a w ⟨I,hm,bc⟩;subst Vx;have h:=SV;clear SV;dsimp only [J.eN] at h;exact ans _ _ ⟨I.cut,hm,(os h)⟩
           rintro a w ⟨I,hm,bc⟩;subst aeg;have h:=SU;clear SU;dsimp only [J.eN] at h;refine anr _ _ <| cg [] [(17,.i (J.ap (iE+ 1)))] I fun a I=>?_;exact anp _ _ ⟨J.ap (iE+ 1),I.cut,hm,h⟩
         refine wp_exit <| bz (bz (cr ?_));exact ano _ _ ⟨I.cut,hm,(os h)⟩
       rintro a w ⟨I,hm,bc⟩;subst Vw;have h:=SS;clear SS;dsimp only [J.eN] at h;refine K0 _ _ <| wp_seq_k fun K anz=>aY <| aN 2 [] [(240,.q ag ah aJ),(241,.i g')] I fun a I=>?_;obtain ⟨gQ,aCQ,h⟩:=J.aH h;obtain ⟨al8,awY,_,⟨Bi,BW,kR,oh,rfl,auC,auD⟩,asH⟩:=bX _ (hm.d 4 rfl) aCQ;have hm:=hm.more (y:=U J.aW Bi BW gQ.Fields) auC;have hm:=hm.more (y:=U J.b4 kR oh gQ.aQ) auD;refine bQ wn (bF Tryz.underlying25 Tryz.sizeOf136 rfl (I.g rfl) (I.g rfl) al8 awY) I rfl rfl fun a I=>?_
       refine jT 3 [0,3] [(0,.q ag ah aJ),(15,.i g'),(19,.q kR oh gQ.aQ)] [bG ag,bH ag+(g').toNat* 4 + 3] (av asH aw) I fun a I=>wpList_nil (anz _ _ ?_);refine bb [] [(20,.i 0)] I fun a I=>?_;obtain ⟨Vy,h,SX⟩:=J.eT h
       refine ca (fun a w=>Fr ⟨353,[]⟩ [(0,.q ag ah aJ),(15,.i g')] a/\ar W M0 X w [aq.row 105 3 (.q iL ku eP) eP jY,aq.row 105 3 (.q fI fQ cz) cz dQ] [U J.b4 kR oh gQ.aQ,U J.aW Bi BW gQ.Fields,al.rows J.aW jY eP,U J.b4 fW fY dG.aQ,U J.aW fV fX dG.Fields,al.rows J.aW dQ cz,U J.a' ag ah aJ]/\Vy=(.go ())) (fun K anA=>?_) ?_
       · refine cw (fun (LF:Nat) a w=>∃ (iY:Int),Fr ⟨353,[]⟩ [(0,.q ag ah aJ),(15,.i g'),(19,.q kR oh gQ.aQ),(20,.i iY)] a/\ar W M0 X w [aq.row 105 3 (.q iL ku eP) eP jY,aq.row 105 3 (.q fI fQ cz) cz dQ] [U J.b4 kR oh gQ.aQ,U J.aW Bi BW gQ.Fields,al.rows J.aW jY eP,U J.b4 fW fY dG.aQ,U J.aW fV fX dG.Fields,al.rows J.aW dQ cz,U J.a' ag ah aJ]/\J.v5 F gQ LF iY=some Vy) F ⟨0,I.cut,hm,h⟩ ?_ ?_
         · rintro a w ⟨iY,I,hm,h⟩;exact absurd h (by simp [J.v5])
         rintro LF a w ⟨iY,I,hm,h⟩ K anB;rw [J.v5] at h;refine wp_seq_k fun K anC=>bb [] [(248,.bool (decide (iY <(gQ.aQ.length:Int))))] I fun a I=>bk (I.g rfl) h (fun ap3 h=>?_) (fun ap3 h=>?_)
         · refine wp_skip <| anC _ _ <| wp_seq_k fun K anD=>?_;obtain ⟨aei,h,SY⟩:=J.eT h
           refine ca (fun a w=>Fr ⟨353,[]⟩ [(0,.q ag ah aJ),(15,.i g'),(19,.q kR oh gQ.aQ),(20,.i iY)] a/\ar W M0 X w [aq.row 105 3 (.q iL ku eP) eP jY,aq.row 105 3 (.q fI fQ cz) cz dQ] [U J.b4 kR oh gQ.aQ,U J.aW Bi BW gQ.Fields,al.rows J.aW jY eP,U J.b4 fW fY dG.aQ,U J.aW fV fX dG.Fields,al.rows J.aW dQ cz,U J.a' ag ah aJ]/\aei=(.go ())) (fun K anE=>?_) ?_
           · refine bb [] [(21,.i 0)] I fun a I=>?_;obtain ⟨Vz,h,SZ⟩:=J.eT h
             refine ca (fun a w=>Fr ⟨353,[]⟩ [(0,.q ag ah aJ),(15,.i g'),(19,.q kR oh gQ.aQ),(20,.i iY)] a/\ar W M0 X w [aq.row 105 3 (.q iL ku eP) eP jY,aq.row 105 3 (.q fI fQ cz) cz dQ] [U J.b4 kR oh gQ.aQ,U J.aW Bi BW gQ.Fields,al.rows J.aW jY eP,U J.b4 fW fY dG.aQ,U J.aW fV fX dG.Fields,al.rows J.aW dQ cz,U J.a' ag ah aJ]/\Vz=(.go ())) (fun K anF=>?_) ?_
             · refine cw (fun (LG:Nat) a w=>∃ (oT:Int),Fr ⟨353,[]⟩ [(0,.q ag ah aJ),(15,.i g'),(19,.q kR oh gQ.aQ),(20,.i iY),(21,.i oT)] a/\ar W M0 X w [aq.row 105 3 (.q iL ku eP) eP jY,aq.row 105 3 (.q fI fQ cz) cz dQ] [U J.b4 kR oh gQ.aQ,U J.aW Bi BW gQ.Fields,al.rows J.aW jY eP,U J.b4 fW fY dG.aQ,U J.aW fV fX dG.Fields,al.rows J.aW dQ cz,U J.a' ag ah aJ]/\J.v7 gQ iY LG oT=some Vz) F ⟨0,I.cut,hm,h⟩ ?_ ?_
               · rintro a w ⟨oT,I,hm,h⟩;exact absurd h (by simp [J.v7])
               rintro LG a w ⟨oT,I,hm,h⟩ K anG;rw [J.v7] at h;refine wp_seq_k fun K anH=>bb [] [(253,.bool (decide (oT <iY)))] I fun a I=>bk (I.g rfl) h (fun ap4 h=>?_) (fun ap4 h=>?_)
               · refine wp_skip <| anH _ _ <| wp_seq_k fun K anI=>wp_block <| wp_seq_k fun K anJ=>hA (by kernel_rfl) (by kernel_rfl) <| dB 2 [] [(256,.q kR oh gQ.aQ),(257,.i oT)] [] (fun a6 ad=>aw) I fun a I=>?_;obtain ⟨Dx,aCU,h⟩:=J.aH h;obtain ⟨ama,aw1,_,⟨ag7,ah2,ag8,ah3,rfl,auE,auF⟩,asL⟩:=bX _ (hm.d 0 rfl) aCU;have hm:=hm.more (y:=U J.dt ag7 ah2 Dx.bI) auE;have hm:=hm.more (y:=U J.eg ag8 ah3 Dx.bK) auF
                 refine ek wn (fun a6 ad=>bF Tryz.underlying134 Tryz.sizeOf133 rfl (I.g rfl) (I.g rfl) ama aw1) I rfl rfl fun a I=>dB 4 [0,0] [(260,ao Dx.Name),(261,.q kR oh gQ.aQ),(262,.i iY)] [bG kR,bH kR+(oT).toNat* 9 + 0] (fun a6 ad=>(av (b2 ad asL) aw)) I fun a I=>?_;obtain ⟨Ix,aCV,h⟩:=J.aH h;obtain ⟨amb,aw2,_,⟨ag9,ah4,ag_,ah5,rfl,auG,auH⟩,asM⟩:=bX _ (hm.d 2 rfl) aCV;have hm:=hm.more (y:=U J.dt ag9 ah4 Ix.bI) auG;have hm:=hm.more (y:=U J.eg ag_ ah5 Ix.bK) auH
                 refine ek wn (fun a6 ad=>bF Tryz.underlying134 Tryz.sizeOf133 rfl (I.g rfl) (I.g rfl) amb aw2) I rfl rfl fun a I=>dB 3 [0,0] [(266,.bool (decide (Dx.Name=Ix.Name)))] [bG kR,bH kR+(iY).toNat* 9 + 0] (fun a6 ad=>(av (b2 ad asM) aw)) I fun a I=>wpQuiet_nil fun w ad=>?_;have hm:=hm.dw ad;clear ad;refine anJ _ _ <| bk (I.g rfl) h (fun ap5 h=>?_) (fun ap5 h=>?_)
                 · refine bt [] [(2,.i 6)] I fun a I=>wp_ret ?_;obtain rfl:=ay h;obtain rfl:=ay SZ;obtain rfl:=ay SY;obtain rfl:=ay SX;obtain rfl:=ay Lf;obtain rfl:=ay Lb;refine a8 (aj (aj (a8 (aj (a8 (aj (aj (aj (a8 (aj (a8 (aj (aj (aj (a8 (aj (aj ?_)))))))))))))))));refine bq Tryz.results109 I rfl ?_;exact ⟨rfl,hm.aX [] []⟩
                 refine wp_skip <| anI _ _ <| cg [] [(21,.i (J.ap (oT+ 1)))] I fun a I=>?_;exact anG _ _ ⟨J.ap (oT+ 1),I.cut,hm.eA [4,5,6,7,8,9,10],h⟩
               refine wp_exit <| bz (bz (cr ?_));exact anF _ _ ⟨I.cut,hm,(os h)⟩
             rintro a w ⟨I,hm,bc⟩;subst Vz;have h:=SZ;clear SZ;dsimp only [J.eN] at h;exact anE _ _ ⟨I.cut,hm,(os h)⟩
           rintro a w ⟨I,hm,bc⟩;subst aei;have h:=SY;clear SY;dsimp only [J.eN] at h;refine anD _ _ <| cg [] [(20,.i (J.ap (iY+ 1)))] I fun a I=>?_;exact anB _ _ ⟨J.ap (iY+ 1),I.cut,hm,h⟩
         refine wp_exit <| bz (bz (cr ?_));exact anA _ _ ⟨I.cut,hm,(os h)⟩
       rintro a w ⟨I,hm,bc⟩;subst Vy;have h:=SX;clear SX;dsimp only [J.eN] at h;exact aoc _ _ ⟨I.cut,hm.aX [1] [3,4,5,6],(os h)⟩
     rintro a w ⟨I,hm,bc⟩;subst aef;have h:=Lf;clear Lf;dsimp only [J.eN] at h;refine Q2 _ _ <| cg [] [(15,.i (J.ap (g'+ 1)))] I fun a I=>?_;exact aob _ _ ⟨J.ap (g'+ 1),I.cut,hm,h⟩
   refine wp_exit <| bz (bz (cr ?_));exact Q0 _ _ ⟨I.cut,hm,(os h)⟩
 rintro a w ⟨I,hm,bc⟩;subst Vi;have h:=Lb;clear Lb;dsimp only [J.dW] at h;refine QZ _ _ <| wp_seq_k fun K anK=>bb [] [(22,.i 0)] I fun a I=>?_;obtain ⟨VB,h,GX⟩:=J.dZ h;refine ca (fun a w=>Fr ⟨353,[]⟩ [] a/\ar W M0 X w [aq.row 105 3 (.q fI fQ cz) cz dQ] [U J.b4 fW fY dG.aQ,U J.aW fV fX dG.Fields,al.rows J.aW dQ cz,U J.a' ag ah aJ]/\VB=(.go ())) (fun K anL=>?_) ?_
 · refine cw (fun (LH:Nat) a w=>∃ (e9:Int),Fr ⟨353,[]⟩ [(0,.q ag ah aJ),(22,.i e9)] a/\ar W M0 X w [aq.row 105 3 (.q fI fQ cz) cz dQ] [U J.b4 fW fY dG.aQ,U J.aW fV fX dG.Fields,al.rows J.aW dQ cz,U J.a' ag ah aJ]/\J.v8 F aJ LH e9=some VB) F ⟨0,I.cut,hm,h⟩ ?_ ?_
   · rintro a w ⟨e9,I,hm,h⟩;exact absurd h (by simp [J.v8])
   rintro LH a w ⟨e9,I,hm,h⟩ K anM;rw [J.v8] at h;refine wp_seq_k fun K anN=>bb [] [(270,.bool (decide (e9 <(aJ.length:Int))))] I fun a I=>bk (I.g rfl) h (fun aq2 h=>?_) (fun aq2 h=>?_)
   · refine wp_skip <| anN _ _ <| wp_seq_k fun K anO=>?_;obtain ⟨aeA,h,GY⟩:=J.eT h;refine ca (fun a w=>Fr ⟨353,[]⟩ [(0,.q ag ah aJ),(22,.i e9)] a/\ar W M0 X w [aq.row 105 3 (.q fI fQ cz) cz dQ] [U J.b4 fW fY dG.aQ,U J.aW fV fX dG.Fields,al.rows J.aW dQ cz,U J.a' ag ah aJ]/\aeA=(.go ())) (fun K anP=>?_) ?_
     · refine wp_seq_k fun K anQ=>aY <| aN 2 [] [(273,.q ag ah aJ),(274,.i e9)] I fun a I=>?_;obtain ⟨fw,aAZ,h⟩:=J.aH h;have hc:=hm;refine bP (vs:=[.q ag ah aJ,.i e9]) wn rfl Tryz.call136 ⟨(I.g rfl),(I.g rfl),trivial⟩ (Ky ((hc.into 0).pick ⟨⟨3,rfl⟩,trivial⟩) aAZ) I rfl rfl ?_;rintro _ w ⟨hx,iv,rfl,af⟩;refine ⟨_,rfl,fun a I=>?_⟩;have hm:=hc.back 0 af;clear af hc;refine aN 1 [] [(23,.q hx iv fw)] I fun a I=>wpList_nil (anQ _ _ ?_);refine wp_seq_k fun K anR=>?_
       refine cg [] [(24,.i 0)] I fun a I=>anR _ _ ?_;obtain ⟨V7,h,GZ⟩:=J.eT h;refine ca (fun a w=>Fr ⟨353,[]⟩ [(0,.q ag ah aJ),(22,.i e9)] a/\ar W M0 X w [aq.row 105 3 (.q fI fQ cz) cz dQ] [U (ak .i64) hx iv fw,U J.b4 fW fY dG.aQ,U J.aW fV fX dG.Fields,al.rows J.aW dQ cz,U J.a' ag ah aJ]/\V7=(.go ())) (fun K anS=>?_) ?_
       · refine cw (fun (LI:Nat) a w=>∃ (ga:Int),Fr ⟨353,[]⟩ [(0,.q ag ah aJ),(22,.i e9),(23,.q hx iv fw),(24,.i ga)] a/\ar W M0 X w [aq.row 105 3 (.q fI fQ cz) cz dQ] [U (ak .i64) hx iv fw,U J.b4 fW fY dG.aQ,U J.aW fV fX dG.Fields,al.rows J.aW dQ cz,U J.a' ag ah aJ]/\J.v' F aJ e9 fw LI ga=some V7) F ⟨0,I.cut,hm,h⟩ ?_ ?_
         · rintro a w ⟨ga,I,hm,h⟩;exact absurd h (by simp [J.v'])
         rintro LI a w ⟨ga,I,hm,h⟩ K anT;rw [J.v'] at h;refine wp_seq_k fun K anU=>bb [] [(280,.bool (decide (ga <(J.ap ((fw.length:Int) - 1)))))] I fun a I=>bk (I.g rfl) h (fun aq_ h=>?_) (fun aq_ h=>?_)
         · refine wp_skip <| anU _ _ <| wp_seq_k fun K anV=>?_;obtain ⟨aeC,h,G0⟩:=J.eT h;refine ca (fun a w=>Fr ⟨353,[]⟩ [(0,.q ag ah aJ),(22,.i e9),(23,.q hx iv fw),(24,.i ga)] a/\ar W M0 X w [aq.row 105 3 (.q fI fQ cz) cz dQ] [U (ak .i64) hx iv fw,U J.b4 fW fY dG.aQ,U J.aW fV fX dG.Fields,al.rows J.aW dQ cz,U J.a' ag ah aJ]/\aeC=(.go ())) (fun K anW=>?_) ?_
           · refine bt [] [(0,.q ag ah aJ),(22,.i e9),(23,.q hx iv fw),(24,.i ga),(25,.i 0)] I fun a I=>?_;obtain ⟨V9,h,G1⟩:=J.eT h
             refine ca (fun a w=>Fr ⟨353,[]⟩ [(0,.q ag ah aJ),(22,.i e9),(23,.q hx iv fw),(24,.i ga)] a/\ar W M0 X w [aq.row 105 3 (.q fI fQ cz) cz dQ] [U (ak .i64) hx iv fw,U J.b4 fW fY dG.aQ,U J.aW fV fX dG.Fields,al.rows J.aW dQ cz,U J.a' ag ah aJ]/\V9=(.go ())) (fun K anX=>?_) ?_
             · refine cw (fun (LJ:Nat) a w=>∃ (h4:Int),Fr ⟨353,[]⟩ [(0,.q ag ah aJ),(22,.i e9),(23,.q hx iv fw),(24,.i ga),(25,.i h4)] a/\ar W M0 X w [aq.row 105 3 (.q fI fQ cz) cz dQ] [U (ak .i64) hx iv fw,U J.b4 fW fY dG.aQ,U J.aW fV fX dG.Fields,al.rows J.aW dQ cz,U J.a' ag ah aJ]/\J.wa F aJ e9 fw ga LJ h4=some V9) F ⟨0,I.cut,hm,h⟩ ?_ ?_
               · rintro a w ⟨h4,I,hm,h⟩;exact absurd h (by simp [J.wa])
               rintro LJ a w ⟨h4,I,hm,h⟩ K anY;rw [J.wa] at h;refine wp_seq_k fun K anZ=>wp_seq_k fun K an0=>aY <| aN 3 [] [(283,.i h4),(284,.q ag ah aJ),(285,.i e9)] I fun a I=>?_;obtain ⟨rF,aDQ,h⟩:=J.aH h;obtain ⟨am',ax1,_,⟨JJ,Ks,JK,Kt,rfl,avm,avn⟩,atL⟩:=bX _ (hm.d 4 rfl) aDQ;have hm:=hm.more (y:=U J.aW JJ Ks rF.Fields) avm;have hm:=hm.more (y:=U J.b4 JK Kt rF.aQ) avn
               refine bQ wn (bF Tryz.underlying25 Tryz.sizeOf136 rfl (I.g rfl) (I.g rfl) am' ax1) I rfl rfl fun a I=>bi 4 [0,3] [(290,.bool (decide (h4 <(rF.aQ.length:Int))))] [bG ag,bH ag+(e9).toNat* 4 + 3] (av atL aw) I fun a I=>wpList_nil (an0 _ _ ?_);refine bk (I.g rfl) h (fun aq' h=>?_) (fun aq' h=>?_)
               · refine wp_skip <| anZ _ _ <| wp_seq_k fun K an1=>?_;obtain ⟨aeD,h,G2⟩:=J.eT h
                 refine ca (fun a w=>Fr ⟨353,[]⟩ [(0,.q ag ah aJ),(22,.i e9),(23,.q hx iv fw),(24,.i ga),(25,.i h4)] a/\ar W M0 X w [aq.row 105 3 (.q fI fQ cz) cz dQ] [U J.b4 JK Kt rF.aQ,U J.aW JJ Ks rF.Fields,U (ak .i64) hx iv fw,U J.b4 fW fY dG.aQ,U J.aW fV fX dG.Fields,al.rows J.aW dQ cz,U J.a' ag ah aJ]/\aeD=(.go ())) (fun K an2=>?_) ?_
                 · refine bb [] [(26,.i 0)] I fun a I=>?_;obtain ⟨V_,h,G3⟩:=J.eT h
                   refine ca (fun a w=>Fr ⟨353,[]⟩ [(0,.q ag ah aJ),(22,.i e9),(23,.q hx iv fw),(24,.i ga),(25,.i h4)] a/\ar W M0 X w [aq.row 105 3 (.q fI fQ cz) cz dQ] [U J.b4 JK Kt rF.aQ,U J.aW JJ Ks rF.Fields,U (ak .i64) hx iv fw,U J.b4 fW fY dG.aQ,U J.aW fV fX dG.Fields,al.rows J.aW dQ cz,U J.a' ag ah aJ]/\V_=(.go ())) (fun K an3=>?_) ?_
                   · refine cw (fun (Hw:Nat) a w=>∃ (km:Int),Fr ⟨353,[]⟩ [(0,.q ag ah aJ),(22,.i e9),(23,.q hx iv fw),(24,.i ga),(25,.i h4),(26,.i km)] a/\ar W M0 X w [aq.row 105 3 (.q fI fQ cz) cz dQ] [U J.b4 JK Kt rF.aQ,U J.aW JJ Ks rF.Fields,U (ak .i64) hx iv fw,U J.b4 fW fY dG.aQ,U J.aW fV fX dG.Fields,al.rows J.aW dQ cz,U J.a' ag ah aJ]/\J.s3 F aJ e9 fw ga h4 Hw km=some V_) F ⟨0,I.cut,hm,h⟩ ?_ ?_
                     · rintro a w ⟨km,I,hm,h⟩;exact absurd h (by simp [J.s3])
                     rintro Hw a w ⟨km,I,hm,h⟩ K acx;rw [J.s3] at h;refine wp_seq_k fun K an4=>wp_seq_k fun K an5=>aY <| aN 4 [] [(293,.i km),(294,.q ag ah aJ),(295,.q hx iv fw),(296,.i ga)] I fun a I=>?_;obtain ⟨N1,aDR,h⟩:=J.aH h;obtain ⟨ana,ax2,_,rfl,atM⟩:=bX _ (hm.d 2 rfl) aDR;refine bQ wn (bF Tryz.underlying22 Tryz.sizeOf3 rfl (I.g rfl) (I.g rfl) ana ax2) I rfl rfl fun a I=>bi 1 [0,0] [(298,.i N1)] [bG hx,bH hx+(ga).toNat* 1] (av atM aw) I fun a I=>?_;obtain ⟨IC,aDS,h⟩:=J.aH h
                     obtain ⟨anb,ax3,_,⟨ahm,aii,ahn,aij,rfl,avo,avp⟩,atN⟩:=bX _ (hm.d 6 rfl) aDS;have hm:=hm.more (y:=U J.aW ahm aii IC.Fields) avo;have hm:=hm.more (y:=U J.b4 ahn aij IC.aQ) avp;refine bQ wn (bF Tryz.underlying25 Tryz.sizeOf136 rfl (I.g rfl) (I.g rfl) anb ax3) I rfl rfl fun a I=>bi 4 [0,3] [(303,.bool (decide (km <(IC.aQ.length:Int))))] [bG ag,bH ag+(N1).toNat* 4 + 3] (av atN aw) I fun a I=>wpList_nil (an5 _ _ ?_);refine bk (I.g rfl) h (fun ara h=>?_) (fun ara h=>?_)
                     · refine wp_skip <| an4 _ _ <| wp_seq_k fun K acy=>wp_block <| wp_seq_k fun K an6=>hk (m:=23) 23 (ba []) (by kernel_rfl) rfl fun w ad=>?_;have hm:=hm.dw ad;clear ad;have bh:=hm;have aB:=ba.refl [] w;refine ch [0,1,5,8,9,10,16] 7 [] [(306,.q ag ah aJ),(307,.i e9),(311,.i h4),(314,.q ag ah aJ),(315,.q hx iv fw),(316,.i ga),(322,.i km)] [] (fun a6 ad=>aw) I aB fun a I=>?_;obtain ⟨AY,aDT,h⟩:=J.aH h;obtain ⟨anc,ax4,_,⟨ZB,aa8,Es,P3,rfl,acV,acW⟩,atO⟩:=bX _ (bh.d 8 rfl) aDT
                       have bh:=bh.more (y:=U J.aW ZB aa8 AY.Fields) acV;have hm:=hm.more (y:=U J.aW ZB aa8 AY.Fields) acV;have bh:=bh.more (y:=U J.b4 Es P3 AY.aQ) acW;have hm:=hm.more (y:=U J.b4 Es P3 AY.aQ) acW;refine eM 2 rfl (by kernel_rfl) wn (fun a6=>bF Tryz.underlying25 Tryz.sizeOf136 rfl (I.g rfl) (I.g rfl) anc ax4) aB I rfl rfl fun a I=>?_
                       refine ch [3,4] 2 [0,3] [(310,.q Es P3 AY.aQ)] [bG ag,bH ag+(e9).toNat* 4 + 3] (fun a6 ad=>(av (b2 ad atO) aw)) I aB fun a I=>?_;obtain ⟨fL,aDU,h⟩:=J.aH h;obtain ⟨ane,ax5,_,⟨Br,B6,JL,Ku,rfl,acX,acY⟩,atP⟩:=bX _ (bh.d 0 rfl) aDU;have bh:=bh.more (y:=U J.dt Br B6 fL.bI) acX;have hm:=hm.more (y:=U J.dt Br B6 fL.bI) acX
                       have bh:=bh.more (y:=U J.eg JL Ku fL.bK) acY;have hm:=hm.more (y:=U J.eg JL Ku fL.bK) acY;refine eM 6 rfl (by kernel_rfl) wn (fun a6=>bF Tryz.underlying134 Tryz.sizeOf133 rfl (I.g rfl) (I.g rfl) ane ax5) aB I rfl rfl fun a I=>?_
                       refine ch [7] 1 [0,0] [(313,.agg #[ao fL.Name,.bool fL.Static,.q Br B6 fL.bI,.i fL.Returns.Kind,ao fL.Returns.aM,.i fL.cR,.i fL.cQ,ao fL.Code,.q JL Ku fL.bK])] [bG Es,bH Es+(h4).toNat* 9] (fun a6 ad=>(av (b2 ad atP) aw)) I aB fun a I=>?_;obtain ⟨N2,aDV,h⟩:=J.aH h;obtain ⟨anf,ax6,_,rfl,atQ⟩:=bX _ (bh.d 8 rfl) aDV;refine eM 11 rfl (by kernel_rfl) wn (fun a6=>bF Tryz.underlying22 Tryz.sizeOf3 rfl (I.g rfl) (I.g rfl) anf ax6) aB I rfl rfl fun a I=>?_
                       refine ch [12] 1 [0,0] [(318,.i N2)] [bG hx,bH hx+(ga).toNat* 1] (fun a6 ad=>(av (b2 ad atQ) aw)) I aB fun a I=>?_;obtain ⟨AZ,aDW,h⟩:=J.aH h;obtain ⟨ang,ax7,_,⟨ZC,aa9,Et,P4,rfl,acZ,ac0⟩,atS⟩:=bX _ (bh.d 12 rfl) aDW;have bh:=bh.more (y:=U J.aW ZC aa9 AZ.Fields) acZ;have hm:=hm.more (y:=U J.aW ZC aa9 AZ.Fields) acZ;have bh:=bh.more (y:=U J.b4 Et P4 AZ.aQ) ac0
                       have hm:=hm.more (y:=U J.b4 Et P4 AZ.aQ) ac0;refine eM 13 rfl (by kernel_rfl) wn (fun a6=>bF Tryz.underlying25 Tryz.sizeOf136 rfl (I.g rfl) (I.g rfl) ang ax7) aB I rfl rfl fun a I=>ch [14,15] 2 [0,3] [(321,.q Et P4 AZ.aQ)] [bG ag,bH ag+(N2).toNat* 4 + 3] (fun a6 ad=>(av (b2 ad atS) aw)) I aB fun a I=>?_;obtain ⟨fM,aDX,h⟩:=J.aH h;obtain ⟨anh,ax8,_,⟨Bs,B7,JM,Kv,rfl,ac1,ac2⟩,atT⟩:=bX _ (bh.d 0 rfl) aDX
                       have bh:=bh.more (y:=U J.dt Bs B7 fM.bI) ac1;have hm:=hm.more (y:=U J.dt Bs B7 fM.bI) ac1;have bh:=bh.more (y:=U J.eg JM Kv fM.bK) ac2;have hm:=hm.more (y:=U J.eg JM Kv fM.bK) ac2;refine eM 17 rfl (by kernel_rfl) wn (fun a6=>bF Tryz.underlying134 Tryz.sizeOf133 rfl (I.g rfl) (I.g rfl) anh ax8) aB I rfl rfl fun a I=>?_
                       refine ch [18] 1 [0,0] [(324,.agg #[ao fM.Name,.bool fM.Static,.q Bs B7 fM.bI,.i fM.Returns.Kind,ao fM.Returns.aM,.i fM.cR,.i fM.cQ,ao fM.Code,.q JM Kv fM.bK])] [bG Et,bH Et+(km).toNat* 9] (fun a6 ad=>(av (b2 ad atT) aw)) I aB fun a I=>?_
                       refine PB (ci:=[ao [],.bool false,.slice none 0 0,.i 0,ao [],.i 0,.i 0,ao [],.slice none 0 0]) (cj:=[ao [],.bool false,.slice none 0 0,.i 0,ao [],.i 0,.i 0,ao [],.slice none 0 0]) 19 20 rfl rfl (by kernel_rfl) (by kernel_rfl) (by kernel_rfl) (by kernel_rfl) rfl rfl (fun b w=>eQ Tryz.zeroValue133 rfl rfl) (fun b w=>eQ Tryz.zeroValue133 rfl rfl) I hm rfl rfl rfl rfl rfl (fun a6 h=>fo aB h) fun a FB FC w ad RS RT I hm=>?_;have RS:=Nat.le_trans aB.size RS;have RT:=Nat.le_trans aB.size RT;have aB:=fo aB ad;clear ad;refine da 21 rfl (by kernel_rfl) (fun _=>aB) ?_
                       refine AE (vs:=[ao fL.Name,.bool fL.Static,.q Br B6 fL.bI,.i fL.Returns.Kind,ao fL.Returns.aM,.i fL.cR,.i fL.cQ,ao fL.Code,.q JL Ku fL.bK]) 0 hm rfl wn rfl Tryz.sizeOf133 rfl rfl rfl rfl (I.g rfl) (I.g rfl) rfl fun w ad hm=>?_;have aB:=zl aB ad RS;clear ad;refine c5 <| da 22 rfl (by kernel_rfl) (fun _=>aB) ?_
                       refine AE (vs:=[ao fM.Name,.bool fM.Static,.q Bs B7 fM.bI,.i fM.Returns.Kind,ao fM.Returns.aM,.i fM.cR,.i fM.cQ,ao fM.Code,.q JM Kv fM.bK]) 1 hm rfl wn rfl Tryz.sizeOf133 rfl rfl rfl rfl (I.g rfl) (I.g rfl) rfl fun w ad hm=>?_;have aB:=zl aB ad RT;clear ad;refine c5 <| fm (by kernel_rfl) ?_ (fun _=>aB);clear bh aB;refine an6 _ _ <| wp_seq_k fun K KW=>aY ?_
                       refine bi 6 [0,0,1,0] [(330,.bool (decide (fL.Name=fM.Name)))] [FC,0,FB,0] (av (a2 (hm.e 0 rfl)) (av (a2 (hm.e 1 rfl)) aw)) I fun a I=>?_;rcases Bool.eq_false_or_eq_true (decide (fL.Name=fM.Name)) with GA | GA
                       · have h:=J.dj GA h;have I:=I.b6 330 rfl GA;refine bi 7 [1,1,0,1,1,0,0,1,1,1,0,1] [(337,.bool (fL.Static || fM.Static))] [FC,1,FB,1] (av (a2 (hm.e 0 rfl)) (av (a2 (hm.e 1 rfl)) aw)) I fun a I=>?_;rcases Bool.eq_false_or_eq_true (fL.Static || fM.Static) with GB | GB
                         · have h:=J.dj GB h;have I:=I.b6 337 rfl GB;refine eu 15 [1,1,1,1,1,1,1,1,1,1,1,1,1,1,1,1,1] [(0,.q ag ah aJ),(22,.i e9),(23,.q hx iv fw),(24,.i ga),(25,.i h4),(26,.i km),(352,.bool true)] I fun a I=>wpList_nil (KW _ _ ?_);refine eG (I.g rfl) rfl <| bt [] [(2,.i 4)] I fun a I=>wp_ret ?_;obtain rfl:=ay h;obtain rfl:=ay G3;obtain rfl:=ay G2;obtain rfl:=ay G1
                           obtain rfl:=ay G0;obtain rfl:=ay GZ;obtain rfl:=ay GY;obtain rfl:=ay GX;refine a8 (aj (aj (a8 (aj (a8 (aj (aj (aj (a8 (aj (a8 (aj (aj (aj (a8 (aj (a8 (aj (aj (aj (a8 (aj (aj ?_)))))))))))))))))))))));refine bq Tryz.results109 I rfl ?_;exact ⟨rfl,hm.aX [] []⟩
                         have h:=J.di GB h;have I:=I.b6 337 rfl GB;refine jT 4 [1,1,0,2,1,1,1,2] [(0,.q ag ah aJ),(22,.i e9),(23,.q hx iv fw),(24,.i ga),(25,.i h4),(26,.i km),(27,.aL FB),(28,.aL FC),(330,.bool true),(337,.bool false),(339,.q Br B6 fL.bI),(341,.q Bs B7 fM.bI)] [FC,2,FB,2] (av (a2 (hm.e 0 rfl)) (av (a2 (hm.e 1 rfl)) aw)) I fun a I=>?_;obtain ⟨MI,aA4,h⟩:=J.aH h;have hc:=hm
                         refine bP (vs:=[.q Br B6 fL.bI,.q Bs B7 fM.bI]) (cV I rfl rfl rfl rfl) rfl Tryz.call138 ⟨(I.g rfl),(I.g rfl),trivial⟩ (aba ((hc.into 0).pick ⟨⟨5,rfl⟩,⟨1,rfl⟩,trivial⟩) aA4) I rfl rfl ?_;rintro _ w ⟨rfl,af⟩;refine ⟨_,rfl,fun a I=>?_⟩;have hm:=hc.back 0 af;clear af hc;refine aN 3 [1,1,1,1] [(345,.bool (!MI))] I fun a I=>?_;rcases Bool.eq_false_or_eq_true (!MI) with GC | GC
                         · have h:=J.dj GC h;have I:=I.b6 345 rfl GC;refine aN 7 [1,1,1,1,1,1,1,1] [(352,.bool true)] I fun a I=>wpList_nil (KW _ _ ?_);refine eG (I.g rfl) rfl <| bt [] [(2,.i 4)] I fun a I=>wp_ret ?_;obtain rfl:=ay h;obtain rfl:=ay G3;obtain rfl:=ay G2;obtain rfl:=ay G1;obtain rfl:=ay G0;obtain rfl:=ay GZ;obtain rfl:=ay GY
                           obtain rfl:=ay GX;refine a8 (aj (aj (a8 (aj (a8 (aj (aj (aj (a8 (aj (a8 (aj (aj (aj (a8 (aj (a8 (aj (aj (aj (a8 (aj (aj ?_)))))))))))))))))))))));refine bq Tryz.results109 I rfl ?_;exact ⟨rfl,hm.aX [] []⟩
                         have h:=J.di GC h;have I:=I.b6 345 rfl GC;refine bi 4 [1,1,0,3,1,1,1,3] [(347,.agg #[.i fL.Returns.Kind,ao fL.Returns.aM]),(349,.agg #[.i fM.Returns.Kind,ao fM.Returns.aM])] [FC,3,FB,3] (av (a2 (hm.e 0 rfl)) (av (a2 (hm.e 1 rfl)) aw)) I fun a I=>bQ (cV I rfl rfl rfl rfl) (Fv (X:=fL.Returns) (Y:=fM.Returns) rfl (I.g rfl) (I.g rfl)) I rfl rfl fun a I=>aN 2 [1,1,1] [(352,.bool (!decide (fL.Returns=fM.Returns)))] I fun a I=>wpList_nil (KW _ _ ?_)
                         refine bk (I.g rfl) h (fun arb h=>?_) (fun arb h=>?_)
                         · refine bt [] [(2,.i 4)] I fun a I=>wp_ret ?_;obtain rfl:=ay h;obtain rfl:=ay G3;obtain rfl:=ay G2;obtain rfl:=ay G1;obtain rfl:=ay G0;obtain rfl:=ay GZ;obtain rfl:=ay GY;obtain rfl:=ay GX
                           refine a8 (aj (aj (a8 (aj (a8 (aj (aj (aj (a8 (aj (a8 (aj (aj (aj (a8 (aj (a8 (aj (aj (aj (a8 (aj (aj ?_)))))))))))))))))))))));refine bq Tryz.results109 I rfl ?_;exact ⟨rfl,hm.aX [] []⟩
                         refine wp_skip <| acy _ _ <| cg [] [(26,.i (J.ap (km+ 1)))] I fun a I=>?_;exact acx _ _ ⟨J.ap (km+ 1),I.cut,hm.aX [2] [10,11,12,13,14,15,16],h⟩
                       have h:=J.di GA h;have I:=I.b6 330 rfl GA;refine aN 22 [1,1,1,1,1,1,1,1,1,1,1,1,1,1,1,1,1,1,1,1,1,1] [(352,.bool false)] I fun a I=>wpList_nil (KW _ _ ?_);refine hW (I.g rfl) rfl <| wp_skip <| acy _ _ <| Dc [] [(0,.q ag ah aJ),(22,.i e9),(23,.q hx iv fw),(24,.i ga),(25,.i h4),(26,.i (J.ap (km+ 1)))] I fun a I=>?_;exact acx _ _ ⟨J.ap (km+ 1),I.cut,hm.aX [2] [10,11,12,13,14,15,16],h⟩
                     refine wp_exit <| bz (bz (cr ?_));exact an3 _ _ ⟨I.cut,hm.eA [2,3,4,5,6,7,8],(os h)⟩
                   rintro a w ⟨I,hm,bc⟩;subst V_;have h:=G3;clear G3;dsimp only [J.eN] at h;exact an2 _ _ ⟨I.cut,hm,(os h)⟩
                 rintro a w ⟨I,hm,bc⟩;subst aeD;have h:=G2;clear G2;dsimp only [J.eN] at h;refine an1 _ _ <| cg [] [(25,.i (J.ap (h4+ 1)))] I fun a I=>?_;exact anY _ _ ⟨J.ap (h4+ 1),I.cut,hm.eA [2,3,4,5,6],h⟩
               refine wp_exit <| bz (bz (cr ?_));exact anX _ _ ⟨I.cut,hm.eA [2,3,4,5,6],(os h)⟩
             rintro a w ⟨I,hm,bc⟩;subst V9;have h:=G1;clear G1;dsimp only [J.eN] at h;exact anW _ _ ⟨I.cut,hm,(os h)⟩
           rintro a w ⟨I,hm,bc⟩;subst aeC;have h:=G0;clear G0;dsimp only [J.eN] at h;refine anV _ _ <| Dc [] [(0,.q ag ah aJ),(22,.i e9),(23,.q hx iv fw),(24,.i (J.ap (ga+ 1)))] I fun a I=>?_;exact anT _ _ ⟨J.ap (ga+ 1),I.cut,hm,h⟩
         refine wp_exit <| bz (bz (cr ?_));exact anS _ _ ⟨I.cut,hm,(os h)⟩
       rintro a w ⟨I,hm,bc⟩;subst V7;have h:=GZ;clear GZ;dsimp only [J.eN] at h;exact anP _ _ ⟨I.cut,hm.eA [1,2,3,4],(os h)⟩
     rintro a w ⟨I,hm,bc⟩;subst aeA;have h:=GY;clear GY;dsimp only [J.eN] at h;refine anO _ _ <| cg [] [(22,.i (J.ap (e9+ 1)))] I fun a I=>?_;exact anM _ _ ⟨J.ap (e9+ 1),I.cut,hm,h⟩
   refine wp_exit <| bz (bz (cr ?_));exact anL _ _ ⟨I.cut,hm,(os h)⟩
 rintro a w ⟨I,hm,bc⟩;subst VB;have h:=GX;clear GX;dsimp only [J.dW] at h;refine anK _ _ <| bt [] [(2,.i 0)] I fun a I=>wp_ret ?_;obtain rfl:=ay h;refine bq Tryz.results109 I rfl ?_;exact ⟨rfl,hm.aX [] []⟩
theorem aiw {W:World} {X:List Nat} {F:Nat} {aJ:List J.aM} {r:J.bs × Int} {ag:aP} {ah:Nat} {M0:List Nat} (hm:ar W M0 X W [] [U J.a' ag ah aJ]) (h:J.EA F aJ=some r) :
 Calls Tryz.prog 84 [.q ag ah aJ].toArray W (fun e aF=>∃ YQ:Option Addr,∃ aai:Nat,∃ YR:Option Addr,∃ aaj:Nat,∃ agt:List Value,∃ YS:Option Addr,∃ aak:Nat,∃ agu:List Value,∃ YT:Option Addr,∃ aal:Nat,∃ agv:List Value,∃ YU:Option Addr,∃ aam:Nat,∃ agw:List Value,e= .returned (.tuple #[.agg #[.q YQ aai r.1.aD,.q YR aaj r.1.aA,.q YS aak r.1.Fields,.q YT aal r.1.Names,.q YU aam r.1.az],.i r.2])/\ar W M0 X aF [aq.row 3 1 (.q YR aaj r.1.aA) r.1.aA agt,aq.row 106 1 (.q YS aak r.1.Fields) r.1.Fields agu,aq.row 125 1 (.q YT aal r.1.Names) r.1.Names agv,aq.row 126 1 (.q YU aam r.1.az) r.1.az agw] [U J.a' YQ aai r.1.aD,al.rows (ak .i64) agt r.1.aA,al.rows (aG J.aW) agu r.1.Fields,al.rows (aG bE) agv r.1.Names,al.rows (aG J.bS) agw r.1.az]):=by
 refine enter Tryz.func84 rfl Tryz.ntmps84 rfl fun a I=>?_;rw [J.EA] at h;refine wp_seq_k fun K c6=>aY <| cD (cs:=[.slice none 0 0,.slice none 0 0,.slice none 0 0,.slice none 0 0,.slice none 0 0]) wn (eQ Tryz.zeroValue30 rfl rfl) I hm rfl rfl fun a fJ w _ I hm=>aN 1 [] [] I fun a I=>wpList_nil (c6 _ _ ?_);refine wp_seq_k fun K bN=>aY <| aN 1 [] [(10,.q ag ah aJ)] I fun a I=>?_;obtain ⟨h6,z5,h⟩:=J.aH h;have hc:=hm;refine bP (vs:=[.q ag ah aJ]) wn rfl Tryz.call109 ⟨(I.g rfl),trivial⟩ (air ((hc.into 0).pick ⟨⟨0,rfl⟩,trivial⟩) z5) I rfl rfl ?_;rintro _ w ⟨rfl,af⟩;refine ⟨_,rfl,?_⟩
 intro a I;have hm:=hc.back 0 af;clear af hc;refine aN 1 [] [(4,.i h6)] I fun a I=>wpList_nil (bN _ _ ?_);refine wp_seq_k fun K cb=>bb [] [(13,.bool (!decide (h6= 0)))] I fun a I=>bk (I.g rfl) h (fun Rg h=>?_) (fun Rg h=>?_)
 · refine wp_seq_k fun K cp=>aY <| bQ wn (gG (vs:=[]) (cs:=[.slice none 0 0,.slice none 0 0,.slice none 0 0,.slice none 0 0,.slice none 0 0]) Tryz.zeroValue30 Tryz.underlying30 qb rfl trivial (by kernel_rfl)) I rfl rfl fun a I=>aN 1 [] [(15,.i h6)] I fun a I=>cX (vs:=[.slice none 0 0,.slice none 0 0,.slice none 0 0,.slice none 0 0,.slice none 0 0]) 0 hm rfl wn rfl Tryz.sizeOf30 rfl rfl rfl rfl (I.g rfl) (I.g rfl) rfl fun w hm=>aN 1 [] [(3,.i h6)] I fun a I=>wpList_nil (cp _ _ ?_);refine wp_ret ?_;obtain rfl:=ay h;refine aj ?_
   refine hh (vs:=[.agg #[.slice none 0 0,.slice none 0 0,.slice none 0 0,.slice none 0 0,.slice none 0 0],.i h6]) Tryz.results84 I ⟨⟨_,_,I.g rfl,.inl ⟨[.slice none 0 0,.slice none 0 0,.slice none 0 0,.slice none 0 0,.slice none 0 0],Tryz.isAgg30,Tryz.sizeOf30,hK (hm.e 0 rfl) 0 ⟨rfl,rfl,rfl,rfl,rfl,trivial⟩,rfl⟩⟩,I.g rfl,trivial⟩ ?_;have hm:=hm.cO (α:=Int) 3 1;have hm:=hm.more (y:=al.rows (ak .i64) [] []) rfl;have hm:=hm.cO (α:=List J.Field) 106 1;have hm:=hm.more (y:=al.rows (aG J.aW) [] []) rfl;have hm:=hm.cO (α:=List (List UInt8)) 125 1;have hm:=hm.more (y:=al.rows (aG bE) [] []) rfl;have hm:=hm.cO (α:=List J.Target) 126 1;have hm:=hm.more (y:=al.rows (aG J.bS) [] []) rfl
   have hm:=hm.more (y:=al.of (aG J.a') [.slice none 0 0] ([]:List J.aM)) (lf _ _ _);exact ⟨none,0,none,0,[],none,0,[],none,0,[],none,0,[],rfl,hm.aX [3,2,1,0] [0,1,1,1,1]⟩
 refine wp_skip <| cb _ _ <| wp_seq_k fun K dE=>aY <| aN 1 [] [(16,.q ag ah aJ)] I fun a I=>bQ wn (gG (vs:=[(0,.q ag ah aJ)]) (cs:=[.q ag ah aJ,.slice none 0 0,.slice none 0 0,.slice none 0 0,.slice none 0 0]) Tryz.zeroValue30 Tryz.underlying30 qb rfl ⟨⟨(I.g rfl),rfl⟩,trivial⟩ (by kernel_rfl)) I rfl rfl fun a I=>cD (cs:=[.slice none 0 0,.slice none 0 0,.slice none 0 0,.slice none 0 0,.slice none 0 0]) wn (eQ Tryz.zeroValue30 rfl rfl) I hm rfl rfl fun a dh w _ I hm=>cX (vs:=[.q ag ah aJ,.slice none 0 0,.slice none 0 0,.slice none 0 0,.slice none 0 0]) 0 hm rfl wn rfl Tryz.sizeOf30 rfl rfl rfl rfl (I.g rfl) (I.g rfl) rfl ?_
 intro w hm;refine wpList_nil <| dE _ _ <| wp_seq_k fun K dl=>bb [] [(6,.i 0)] I fun a I=>?_;have hm:=hm.cO (α:=Int) 3 1;have hm:=hm.more (y:=al.rows (ak .i64) [] []) rfl;have hm:=hm.cO (α:=List J.Field) 106 1;have hm:=hm.more (y:=al.rows (aG J.aW) [] []) rfl;have hm:=hm.cO (α:=List (List UInt8)) 125 1;have hm:=hm.more (y:=al.rows (aG bE) [] []) rfl;have hm:=hm.cO (α:=List J.Target) 126 1;have hm:=hm.more (y:=al.rows (aG J.bS) [] []) rfl;obtain ⟨UX,h,Sl⟩:=J.dZ h
 refine ca (fun a w=>∃ (vt:aP) (wN:Nat) (py:List (List J.Target)) (N7:dy) (vu:aP) (wO:Nat) (pz:List (List (List UInt8))) (N8:dy) (vv:aP) (wP:Nat) (pA:List (List J.Field)) (N9:dy) (vw:aP) (wQ:Nat) (pB:fq) (N_:dy),Fr ⟨73,[]⟩ [(2,.aL fJ),(5,.aL dh)] a/\ar W M0 X w [aq.row 126 1 (.q vt wN py) py N7,aq.row 125 1 (.q vu wO pz) pz N8,aq.row 106 1 (.q vv wP pA) pA N9,aq.row 3 1 (.q vw wQ pB) pB N_,aq.br dh 30 [.q ag ah aJ,.q vw wQ pB,.q vv wP pA,.q vu wO pz,.q vt wN py],aq.br fJ 30 [.slice none 0 0,.slice none 0 0,.slice none 0 0,.slice none 0 0,.slice none 0 0]] [al.rows (aG J.bS) N7 py,al.rows (aG bE) N8 pz,al.rows (aG J.aW) N9 pA,al.rows (ak .i64) N_ pB,U J.a' ag ah aJ]/\UX=(.go (py,pz,pA,pB))) (fun K dq=>?_) ?_
 · refine cw (fun (bu:Nat) a w=>∃ (A8:aP) (BL:Nat) (pC:List (List J.Target)) (IH:dy) (A9:aP) (BM:Nat) (pD:List (List (List UInt8))) (II:dy) (A_:aP) (BN:Nat) (pE:List (List J.Field)) (IJ:dy) (A':aP) (BO:Nat) (pF:fq) (IK:dy) (kh:Int),Fr ⟨73,[]⟩ [(0,.q ag ah aJ),(2,.aL fJ),(5,.aL dh),(6,.i kh)] a/\ar W M0 X w [aq.row 126 1 (.q A8 BL pC) pC IH,aq.row 125 1 (.q A9 BM pD) pD II,aq.row 106 1 (.q A_ BN pE) pE IJ,aq.row 3 1 (.q A' BO pF) pF IK,aq.br dh 30 [.q ag ah aJ,.q A' BO pF,.q A_ BN pE,.q A9 BM pD,.q A8 BL pC],aq.br fJ 30 [.slice none 0 0,.slice none 0 0,.slice none 0 0,.slice none 0 0,.slice none 0 0]] [al.rows (aG J.bS) IH pC,al.rows (aG bE) II pD,al.rows (aG J.aW) IJ pE,al.rows (ak .i64) IK pF,U J.a' ag ah aJ]/\J.qx F aJ bu pC pD pE pF kh=some UX) F ⟨none,0,[],[],none,0,[],[],none,0,[],[],none,0,[],[],0,I.cut,hm.eA [0,0,0,0,4],h⟩ ?_ ?_
   · rintro a w ⟨A8,BL,pC,IH,A9,BM,pD,II,A_,BN,pE,IJ,A',BO,pF,IK,kh,I,hm,h⟩;exact absurd h (by simp [J.qx])
   rintro bu a w ⟨A8,BL,pC,IH,A9,BM,pD,II,A_,BN,pE,IJ,A',BO,pF,IK,kh,I,hm,h⟩ K dc;rw [J.qx] at h;refine wp_seq_k fun K dC=>bb [] [(21,.bool (decide (kh <(aJ.length:Int))))] I fun a I=>bk (I.g rfl) h (fun aoX h=>?_) (fun aoX h=>?_)
   · refine wp_skip <| dC _ _ <| wp_seq_k fun K dL=>wp_block <| wp_seq_k fun K ft=>aY <| aN 2 [] [(24,.q ag ah aJ),(25,.i kh)] I fun a I=>?_;obtain ⟨u6,azB,h⟩:=J.aH h;have hc:=hm;refine bP (vs:=[.q ag ah aJ,.i kh]) wn rfl Tryz.call110 ⟨(I.g rfl),(I.g rfl),trivial⟩ (P6 ((hc.into 0).pick ⟨⟨4,rfl⟩,trivial⟩) azB) I rfl rfl ?_;rintro _ w ⟨I9,JV,aJ7,rfl,af⟩;refine ⟨_,rfl,fun a I=>?_⟩;have hm:=hc.back 0 af;clear af hc
     refine aN 1 [] [(7,.q I9 JV u6)] I fun a I=>wpList_nil (ft _ _ ?_);refine wp_seq_k fun K eX=>aY <| aN 2 [] [(28,.q ag ah aJ),(29,.i kh)] I fun a I=>?_;obtain ⟨m4,azC,h⟩:=J.aH h;have hc:=hm;refine bP (vs:=[.q ag ah aJ,.i kh]) wn rfl Tryz.call111 ⟨(I.g rfl),(I.g rfl),trivial⟩ (aiB ((hc.into 0).pick ⟨⟨5,rfl⟩,trivial⟩) azC) I rfl rfl ?_;rintro _ w ⟨I_,JW,aJ8,I',JX,aJ9,rfl,af⟩;refine ⟨_,rfl,fun a I=>?_⟩;have hm:=hc.back 0 af;clear af hc
     refine aN 5 [] [(8,.q I_ JW m4.1),(9,.q I' JX m4.2)] I fun a I=>wpList_nil (eX _ _ ?_);refine wp_seq_k fun K gx=>bb [0,0,0,0] [(40,.bool ((decide (12 <(u6.length:Int))) || (decide (16 <(m4.1.length:Int)))))] I fun a I=>bk (I.g rfl) h (fun aoZ h=>?_) (fun aoZ h=>?_)
     · refine wp_seq_k fun K fu=>aY <| bQ wn (gG (vs:=[]) (cs:=[.slice none 0 0,.slice none 0 0,.slice none 0 0,.slice none 0 0,.slice none 0 0]) Tryz.zeroValue30 Tryz.underlying30 qb rfl trivial (by kernel_rfl)) I rfl rfl fun a I=>cX (vs:=[.slice none 0 0,.slice none 0 0,.slice none 0 0,.slice none 0 0,.slice none 0 0]) 8 hm rfl wn rfl Tryz.sizeOf30 rfl rfl rfl rfl (I.g rfl) (I.g rfl) rfl fun w hm=>aN 1 [] [(3,.i 2)] I fun a I=>wpList_nil (fu _ _ ?_);refine wp_ret ?_;obtain rfl:=ay h;obtain rfl:=ay Sl
       refine aj (a8 (aj (aj (a8 (aj (aj ?_))))));refine hh (vs:=[.agg #[.slice none 0 0,.slice none 0 0,.slice none 0 0,.slice none 0 0,.slice none 0 0],.i 2]) Tryz.results84 I ⟨⟨_,_,I.g rfl,.inl ⟨[.slice none 0 0,.slice none 0 0,.slice none 0 0,.slice none 0 0,.slice none 0 0],Tryz.isAgg30,Tryz.sizeOf30,hK (hm.e 8 rfl) 0 ⟨rfl,rfl,rfl,rfl,rfl,trivial⟩,rfl⟩⟩,I.g rfl,trivial⟩ ?_;have hm:=hm.cO (α:=Int) 3 1;have hm:=hm.more (y:=al.rows (ak .i64) [] []) rfl;have hm:=hm.cO (α:=List J.Field) 106 1;have hm:=hm.more (y:=al.rows (aG J.aW) [] []) rfl;have hm:=hm.cO (α:=List (List UInt8)) 125 1;have hm:=hm.more (y:=al.rows (aG bE) [] []) rfl;have hm:=hm.cO (α:=List J.Target) 126 1
       have hm:=hm.more (y:=al.rows (aG J.bS) [] []) rfl;have hm:=hm.more (y:=al.of (aG J.a') [.slice none 0 0] ([]:List J.aM)) (lf _ _ _);exact ⟨none,0,none,0,[],none,0,[],none,0,[],none,0,[],rfl,hm.aX [3,2,1,0] [0,1,1,1,1]⟩
     refine wp_skip <| gx _ _ <| wp_seq_k fun K fK=>hk (m:=13) 10 (ba []) (by kernel_rfl) rfl fun w ad=>?_;have hm:=hm.dw ad;clear ad;have bh:=hm;have aB:=ba.refl [] w;refine ch [0,1,2,3,4] 5 [0,1] [(43,.q A' BO pF),(44,.q ag ah aJ),(45,.q ag ah aJ),(46,.i kh)] [dh,1] (fun a6 ad=>(av (b2 ad (a2 (bh.e 7 rfl))) aw)) I aB fun a I=>?_;obtain ⟨yA,aBY,h⟩:=J.aH h;obtain ⟨ak_,av2,_,⟨YK,aac,YL,aad,rfl,acT,acU⟩,arK⟩:=bX _ (bh.d 7 rfl) aBY;have bh:=bh.more (y:=U J.aW YK aac yA.Fields) acT
     have hm:=hm.more (y:=U J.aW YK aac yA.Fields) acT;have bh:=bh.more (y:=U J.b4 YL aad yA.aQ) acU;have hm:=hm.more (y:=U J.b4 YL aad yA.aQ) acU;refine eM 5 rfl (by kernel_rfl) wn (fun a6=>bF Tryz.underlying25 Tryz.sizeOf136 rfl (I.g rfl) (I.g rfl) ak_ av2) aB I rfl rfl fun a I=>ch [6,7] 2 [0,1] [(49,ao yA.bZ)] [bG ag,bH ag+(kh).toNat* 4 + 1] (fun a6 ad=>(av (b2 ad arK) aw)) I aB fun a I=>da 8 rfl (by kernel_rfl) (fun _=>aB) ?_
     obtain ⟨HX,azE,h⟩:=J.aH h;have hc:=hm;refine bP (vs:=[.q ag ah aJ,ao yA.bZ]) wn rfl Tryz.call112 ⟨(I.g rfl),(I.g rfl),trivial⟩ (ts ((hc.into 0).pick ⟨⟨9,rfl⟩,trivial⟩) azE) I rfl rfl ?_;rintro _ w ⟨rfl,af⟩;refine ⟨_,rfl,fun a I=>?_⟩;have ad:ba [] _ w:=af.ev;have hm:=hc.back 0 af;clear af hc;have aB:=fo aB ad;clear ad;refine c5 <| da 9 rfl (by kernel_rfl) (fun _=>aB) <| x8 (cs:=[.i HX]) wn (fU (vs:=[(0,.i HX)]) Tryz.underlying22 Tryz.sizeOf3 Tryz.zeroValue3 rfl rfl rfl ⟨⟨(I.g rfl),rfl⟩,trivial⟩ (by kernel_rfl)) I hm rfl rfl fun a aJn w ad ac8 I hm=>?_
     have ac8:=Nat.le_trans aB.size ac8;have aB:=fo aB ad;clear ad;refine c5 <| da 10 rfl (by kernel_rfl) (fun _=>aB) ?_;obtain ⟨LM,ays,h⟩:=J.aH h;refine iH (T:=(ak .i64)) (ml:=[HX]) 7 0 8 hm rfl rfl rfl Tryz.underlying22 nD rfl rfl ays rfl rfl ⟨_,_,rfl,rfl,rfl⟩ wn rfl (I.g rfl) (I.g rfl) I rfl rfl fun a YM aae aHj w I hm=>c5 ?_;clear bh aB;have bh:=hm;have aB:=ba.refl [] w;refine eC.next 12 (ba [] w) (by kernel_rfl) <| ch [11] 1 [] [(53,.pointer (some ⟨dh,1,none⟩))] [] (fun a6 ad=>aw) I aB fun a I=>da 12 rfl (by kernel_rfl) (fun _=>aB) ?_
     refine cX (vs:=[.q YM aae LM]) 7 hm rfl wn rfl Tryz.sizeOf22 rfl rfl rfl rfl (I.g rfl) (I.g rfl) rfl fun w hm=>c5 ?_;clear bh aB;have bh:=hm;have aB:=ba.refl [] w;refine eC.next 13 (ba [] w) (by kernel_rfl) <| fm (by kernel_rfl) ?_ (fun _=>aB);clear bh aB;refine fK _ _ <| wp_seq_k fun K fR=>aY <| bi 3 [0,2] [(55,.q A_ BN pE),(56,.q I9 JV u6)] [dh,2] (av (a2 (hm.e 7 rfl)) aw) I fun a I=>?_;have hm:=hm.freeze 2 5 rfl rfl
     refine gq (cs:=[.q I9 JV u6]) wn (fU (vs:=[(0,.q I9 JV u6)]) Tryz.underlying26 Tryz.sizeOf106 Tryz.zeroValue106 rfl rfl rfl ⟨⟨(I.g rfl),rfl⟩,trivial⟩ (by kernel_rfl)) I hm rfl rfl fun a aJo w _ I hm=>?_;obtain ⟨LN,ayt,h⟩:=J.aH h;refine iH (T:=(aG J.aW)) (ml:=[u6]) 5 0 9 hm rfl rfl rfl Tryz.underlying26 adU rfl rfl ayt rfl rfl ⟨_,_,rfl,(hm.d 0 rfl),rfl⟩ wn rfl (I.g rfl) (I.g rfl) I rfl rfl fun a YN aaf aHk w I hm=>aN 1 [] [(59,.pointer (some ⟨dh,2,none⟩))] I fun a I=>cX (vs:=[.q YN aaf LN]) 6 hm rfl wn rfl Tryz.sizeOf26 rfl rfl rfl rfl (I.g rfl) (I.g rfl) rfl fun w hm=>?_
     refine wpList_nil <| fR _ _ <| wp_seq_k fun K gm=>aY <| bi 3 [0,3] [(61,.q A9 BM pD),(62,.q I_ JW m4.1)] [dh,3] (av (a2 (hm.e 6 rfl)) aw) I fun a I=>?_;have hm:=hm.freeze 0 5 rfl rfl;refine gq (cs:=[.q I_ JW m4.1]) wn (fU (vs:=[(0,.q I_ JW m4.1)]) Tryz.underlying27 Tryz.sizeOf125 Tryz.zeroValue125 rfl rfl rfl ⟨⟨(I.g rfl),rfl⟩,trivial⟩ (by kernel_rfl)) I hm rfl rfl fun a aJp w _ I hm=>?_;obtain ⟨LO,ayu,h⟩:=J.aH h
     refine iH (T:=(aG bE)) (ml:=[m4.1]) 3 0 10 hm rfl rfl rfl Tryz.underlying27 adV rfl rfl ayu rfl rfl ⟨_,_,rfl,(hm.d 0 rfl),rfl⟩ wn rfl (I.g rfl) (I.g rfl) I rfl rfl fun a YO aag aHl w I hm=>aN 1 [] [(65,.pointer (some ⟨dh,3,none⟩))] I fun a I=>cX (vs:=[.q YO aag LO]) 5 hm rfl wn rfl Tryz.sizeOf27 rfl rfl rfl rfl (I.g rfl) (I.g rfl) rfl fun w hm=>wpList_nil <| gm _ _ <| aY <| bi 3 [0,4] [(67,.q A8 BL pC),(68,.q I' JX m4.2)] [dh,4] (av (a2 (hm.e 5 rfl)) aw) I fun a I=>?_
     have hm:=hm.freeze 0 8 rfl rfl;refine gq (cs:=[.q I' JX m4.2]) wn (fU (vs:=[(0,.q I' JX m4.2)]) Tryz.underlying28 Tryz.sizeOf126 Tryz.zeroValue126 rfl rfl rfl ⟨⟨(I.g rfl),rfl⟩,trivial⟩ (by kernel_rfl)) I hm rfl rfl fun a aJq w _ I hm=>?_;obtain ⟨LP,ayv,h⟩:=J.aH h;refine iH (T:=(aG J.bS)) (ml:=[m4.2]) 1 0 11 hm rfl rfl rfl Tryz.underlying28 adW rfl rfl ayv rfl rfl ⟨_,_,rfl,(hm.d 0 rfl),rfl⟩ wn rfl (I.g rfl) (I.g rfl) I rfl rfl fun a YP aah aHm w I hm=>aN 1 [] [(71,.pointer (some ⟨dh,4,none⟩))] I fun a I=>?_
     refine cX (vs:=[.q YP aah LP]) 4 hm rfl wn rfl Tryz.sizeOf28 rfl rfl rfl rfl (I.g rfl) (I.g rfl) rfl fun w hm=>wpList_nil <| dL _ _ <| cg [] [(6,.i (J.ap (kh+ 1)))] I fun a I=>?_;exact dc _ _ ⟨YP,aah,LP,aHm,YO,aag,LO,aHl,YN,aaf,LN,aHk,YM,aae,LM,aHj,J.ap (kh+ 1),I.cut,hm.eA [0,2,4,6,16],h⟩
   refine wp_exit <| bz (bz (cr ?_));exact dq _ _ ⟨A8,BL,pC,IH,A9,BM,pD,II,A_,BN,pE,IJ,A',BO,pF,IK,I.cut,hm,(os h)⟩
 rintro a w ⟨vt,wN,py,N7,vu,wO,pz,N8,vv,wP,pA,N9,vw,wQ,pB,N_,I,hm,bc⟩;subst UX;have h:=Sl;clear Sl;dsimp only [J.dW] at h;refine dl _ _ <| wp_seq_k fun K gK=>aY <| bi 1 [0,0] [(72,.agg #[.q ag ah aJ,.q vw wQ pB,.q vv wP pA,.q vu wO pz,.q vt wN py])] [dh,0] (av (a2 (hm.e 4 rfl)) aw) I fun a I=>cX (vs:=[.q ag ah aJ,.q vw wQ pB,.q vv wP pA,.q vu wO pz,.q vt wN py]) 5 hm rfl wn rfl Tryz.sizeOf30 rfl rfl rfl rfl (I.g rfl) (I.g rfl) rfl fun w hm=>?_
 refine aN 1 [] [(3,.i 0)] I fun a I=>wpList_nil (gK _ _ ?_);refine wp_ret ?_;obtain rfl:=ay h;refine hh (vs:=[.agg #[.q ag ah aJ,.q vw wQ pB,.q vv wP pA,.q vu wO pz,.q vt wN py],.i 0]) Tryz.results84 I ⟨⟨_,_,I.g rfl,.inl ⟨[.q ag ah aJ,.q vw wQ pB,.q vv wP pA,.q vu wO pz,.q vt wN py],Tryz.isAgg30,Tryz.sizeOf30,hK (hm.e 5 rfl) 0 ⟨rfl,rfl,rfl,rfl,rfl,trivial⟩,rfl⟩⟩,I.g rfl,trivial⟩ ?_
 exact ⟨ag,ah,vw,wQ,N_,vv,wP,N9,vu,wO,N8,vt,wN,N7,rfl,hm.aX [3,2,1,0] [4,3,2,1,0]⟩
end Go.Proofs.YtpkhpagplommoaaGreat
namespace J
def q' (x_:df):Nat->(List ((List UInt8) × Int))->Int->Option (Way (Int × df) (List ((List UInt8) × Int)))
 | 0,_,_=>none
 | bu+ 1,jK,kH=>
   cond (decide (kH <(x_.l.length:Int))) ((idx x_.l kH).bind fun kN=>
   cond ((dp jK kN.Name).isSome) (some (.out (6,(⟨x_.l,jK,x_.b3⟩:df)))) (q' x_ bu (hD jK kN.Name kH) (ap (kH+ 1)))) (some (.go jK))
def CO (F:Nat) (x_:df):Option (Int × df):=
 dr (α:=List ((List UInt8) × Int)) (q' x_ F x_.cA 0) fun (pU:List ((List UInt8) × Int))=>
 cond ((!((dp pU [79,98,106,101,99,116]).isSome)) || (!((dp pU [69,114,114,111,114]).isSome))) (some (5,(⟨x_.l,pU,x_.b3⟩:df))) (some (0,(⟨x_.l,pU,x_.b3⟩:df)))
def uP (x_:df):Nat->Int->Option (Way (Int × df) (Unit))
 | 0,_=>none
 | bu+ 1,jO=>
   cond (decide (jO <(x_.l.length:Int))) ((idx x_.l jO).bind fun na=>
   cond (!((decide (na.Name= [79,98,106,101,99,116])) == (decide (na.bZ= [])))) (some (.out (4,(⟨x_.l,x_.cA,x_.b3⟩:df)))) (uP x_ bu (ap (jO+ 1)))) (some (.go ()))
def oM (x_:df):Nat->(List Int)->Int->Option (Way (Int × df) (List Int))
 | 0,_,_=>none
 | c7+ 1,jp,m0=>
   cond (decide (m0 <(x_.l.length:Int))) (dY (α:=List Int) ((idx x_.l m0).bind fun gR=>
   dY (α:=Int) (dY (α:=Int) (cond (decide (gR.bZ= [])) (some (.go (-1))) (cond (!((dp x_.cA gR.bZ).isSome)) (some (.out (5,(⟨x_.l,x_.cA,jp⟩:df)))) (some (.go ((dp x_.cA gR.bZ).getD 0))))) fun (C1:Int)=>
   some (.go C1)) fun (rc:Int)=>
   (ep 8 jp [rc]).bind fun CM=>
   some (.go CM)) fun (q7:List Int)=>
   oM x_ c7 q7 (ap (m0+ 1))) (some (.go jp))
def xW (x_:df) (fj:List Int):Nat->Int->Int->Option (Int)
 | 0,_,_=>none
 | fy+ 1,su,sv=>
   cond (decide (sv <(x_.l.length:Int))) ((idx fj su).bind fun yC=>
   cond (decide (yC < 0)) (some yC) (xW x_ fj fy yC (ap (sv+ 1)))) (some su)
def uQ (F:Nat) (x_:df) (fj:List Int):Nat->Int->Option (Way (Int × df) (Unit))
 | 0,_=>none
 | et+ 1,kD=>
   cond (decide (kD <(x_.l.length:Int))) (dY (α:=Unit) (Option.bind (α:=Int) (Option.bind (α:=Int) (xW x_ fj F kD 0) fun (CY:Int)=>
   some CY) fun (CX:Int)=>
   cond (decide (0 <=CX)) (some (.out (4,(⟨x_.l,x_.cA,fj⟩:df)))) (some (.go ()))) fun (_:Unit)=>
   uQ F x_ fj et (ap (kD+ 1))) (some (.go ()))
def L8 (F:Nat) (x_:df):Option (Int × df):=
 dr (α:=Unit) (uP x_ F 0) fun (_:Unit)=>
 dr (α:=List Int) (oM x_ F x_.b3 0) fun (fj:List Int)=>
 dr (α:=Unit) (uQ F x_ fj F 0) fun (_:Unit)=>
 some (0,(⟨x_.l,x_.cA,fj⟩:df))
def uS (x_:df):Nat->(List Int)->Int->Option (List Int)
 | 0,_,_=>none
 | bu+ 1,pw,mV=>
   cond (decide (0 <=mV)) ((ep 8 pw [mV]).bind fun Hz=>
   (idx x_.b3 mV).bind fun gP=>
   uS x_ bu Hz gP) (some pw)
def uR (F:Nat) (x_:df) (bU:Int):Option (List Int):=
 Option.bind (α:=List Int) (uS x_ F [] bU) fun (uf:List Int)=>
 some uf
def H8 (_:List Int):Option Unit:=some ()
def xY (x_:df):List Int->(List Field)->Option (List Field)
 | [],k5=>some k5
 | yB::ML,k5=>
   (idx x_.l yB).bind fun yH=>
   (ep 40 k5 yH.Fields).bind fun L6=>
   xY x_ ML L6
def xX (F:Nat) (x_:df) (bU:Int):Option (List Field):=
 (uR F (⟨x_.l,x_.cA,x_.b3⟩:df) bU).bind fun rn=>
 (H8 rn).bind fun aFB=>
 Option.bind (α:=List Field) (xY x_ rn.reverse []) fun (k5:List Field)=>
 some k5
def L9 (F:Nat) (x_:df):Option (Int):=
 (xX F (⟨x_.l,x_.cA,x_.b3⟩:df) ((dp x_.cA [69,114,114,111,114]).getD 0)).bind fun dH=>
 (idx x_.l ((dp x_.cA [69,114,114,111,114]).getD 0)).bind fun Dq=>
 cond ((!decide (Dq.bZ= [79,98,106,101,99,116])) || (decide ((dH.length:Int)= 0))) (some 4) ((idx dH 0).bind fun Yb=>
 cond (!decide (Yb.Kind.Kind= 1)) (some 4) (some 0))
def Al (aa:Kind) (q1_:List (List UInt8)):Option (List (List UInt8)):=
 cond (!decide (aa.aM= [])) ((ep 16 q1_ [aa.aM]).bind fun Ws=>
 some Ws) (some q1_)
def uX (cE:aM):Nat->(List (List UInt8))->Int->Option (List (List UInt8))
 | 0,_,_=>none
 | c7+ 1,q8,oX=>
   cond (decide (oX <(cE.Fields.length:Int))) ((idx cE.Fields oX).bind fun o8=>
   (Al (⟨o8.Kind.Kind,o8.Kind.aM⟩:Kind) q8).bind fun Xv=>
   uX cE c7 Xv (ap (oX+ 1))) (some q8)
def uZ (cS:Method):Nat->(List (List UInt8))->Int->Option (List (List UInt8))
 | 0,_,_=>none
 | fy+ 1,q9,oZ=>
   cond (decide (oZ <(cS.bI.length:Int))) ((idx cS.bI oZ).bind fun rC=>
   (Al (⟨rC.Kind,rC.aM⟩:Kind) q9).bind fun Xy=>
   uZ cS fy Xy (ap (oZ+ 1))) (some q9)
def u0 (cS:Method):Nat->(List (List UInt8))->Int->Option (List (List UInt8))
 | 0,_,_=>none
 | hZ+ 1,pQ,o0=>
   cond (decide (o0 <(cS.bK.length:Int))) ((idx cS.bK o0).bind fun nZ=>
   (ep 16 pQ [nZ.aM]).bind fun L0=>
   u0 cS hZ L0 (ap (o0+ 1))) (some pQ)
def uY (F:Nat) (cE:aM):Nat->(List (List UInt8))->Int->Option (List (List UInt8))
 | 0,_,_=>none
 | et+ 1,pP,jN=>
   cond (decide (jN <(cE.aQ.length:Int))) (Option.bind (α:=List (List UInt8)) ((idx cE.aQ jN).bind fun cS=>
   Option.bind (α:=List (List UInt8)) (uZ cS F pP 0) fun (xT:List (List UInt8))=>
   (Al (⟨cS.Returns.Kind,cS.Returns.aM⟩:Kind) xT).bind fun Xz=>
   Option.bind (α:=List (List UInt8)) (u0 cS F Xz 0) fun (uz:List (List UInt8))=>
   some uz) fun (uy:List (List UInt8))=>
   uY F cE et uy (ap (jN+ 1))) (some pP)
def uW (F:Nat) (x_:df):Nat->(List (List UInt8))->Int->Option (List (List UInt8))
 | 0,_,_=>none
 | bu+ 1,pL,hQ=>
   cond (decide (hQ <(x_.l.length:Int))) (Option.bind (α:=List (List UInt8)) ((idx x_.l hQ).bind fun cE=>
   Option.bind (α:=List (List UInt8)) (uX cE F pL 0) fun (uw:List (List UInt8))=>
   Option.bind (α:=List (List UInt8)) (uY F cE F uw 0) fun (ux:List (List UInt8))=>
   some ux) fun (uv:List (List UInt8))=>
   uW F x_ bu uv (ap (hQ+ 1))) (some pL)
def x5 (x_:df) (hN:List (List UInt8)):Nat->Int->Option (Way (Int) (Unit))
 | 0,_=>none
 | jG+ 1,p6=>
   cond (decide (p6 <(hN.length:Int))) ((idx hN p6).bind fun Dz=>
   cond (!((dp x_.cA Dz).isSome)) (some (.out 5)) (x5 x_ hN jG (ap (p6+ 1)))) (some (.go ()))
def HG (F:Nat) (x_:df):Option (Int):=
 Option.bind (α:=List (List UInt8)) (uW F x_ F [] 0) fun (hN:List (List UInt8))=>
 dr (α:=Unit) (x5 x_ hN F 0) fun (_:Unit)=>
 some 0
def x6 (aJ:List (List UInt8)):Nat->(List ((List UInt8) × Bool))->Int->Option (List ((List UInt8) × Bool))
 | 0,_,_=>none
 | bu+ 1,u1,p2=>
   cond (decide (p2 <(aJ.length:Int))) ((idx aJ p2).bind fun Iy=>
   x6 aJ bu (hD u1 Iy true) (ap (p2+ 1))) (some u1)
def CQ (F:Nat) (aJ:List (List UInt8)):Option (Bool):=
 Option.bind (α:=List ((List UInt8) × Bool)) (x6 aJ F [] 0) fun (CR:List ((List UInt8) × Bool))=>
 some (decide ((CR.length:Int) <(aJ.length:Int)))
def uU (ik:List Field):Nat->(List (List UInt8))->Int->Option (List (List UInt8))
 | 0,_,_=>none
 | c7+ 1,pK,p4=>
   cond (decide (p4 <(ik.length:Int))) ((idx ik p4).bind fun qh=>
   (ep 16 pK [qh.Name]).bind fun LY=>
   uU ik c7 LY (ap (p4+ 1))) (some pK)
def uV (e8:aM):Nat->(List (List UInt8))->Int->Option (List (List UInt8))
 | 0,_,_=>none
 | et+ 1,pM,p5=>
   cond (decide (p5 <(e8.aQ.length:Int))) ((idx e8.aQ p5).bind fun hR=>
   (ep 16 pM [hR.Name]).bind fun LZ=>
   uV e8 et LZ (ap (p5+ 1))) (some pM)
def x2 (F:Nat) (x_:df):Nat->Int->Option (Way (Int) (Unit))
 | 0,_=>none
 | bu+ 1,iV=>
   cond (decide (iV <(x_.l.length:Int))) (dY (α:=Unit) ((idx x_.l iV).bind fun e8=>
   (xX F (⟨x_.l,x_.cA,x_.b3⟩:df) iV).bind fun ik=>
   Option.bind (α:=List (List UInt8)) (uU ik F [] 0) fun (kA:List (List UInt8))=>
   Option.bind (α:=List (List UInt8)) (uV e8 F [] 0) fun (sp:List (List UInt8))=>
   (CQ F kA).bind fun ME=>
   cond (ME) (some (.out 6)) ((CQ F sp).bind fun Xo=>
   cond (Xo) (some (.out 6)) (some (.go ())))) fun (_:Unit)=>
   x2 F x_ bu (ap (iV+ 1))) (some (.go ()))
def HE (F:Nat) (x_:df):Option (Int):=
 dr (α:=Unit) (x2 F x_ F 0) fun (_:Unit)=>
 some 0
def AD (b8:List Kind) (cl:List Kind):Nat->Int->Option (Way (Bool) (Unit))
 | 0,_=>none
 | bu+ 1,cd=>
   cond (decide (cd <(b8.length:Int))) ((idx b8 cd).bind fun fa=>
   (idx cl cd).bind fun fl=>
   cond (!decide (fa=fl)) (some (.out false)) (AD b8 cl bu (ap (cd+ 1)))) (some (.go ()))
def Ib (F:Nat) (b8:List Kind) (cl:List Kind):Option (Bool):=
 cond (!decide ((b8.length:Int)=(cl.length:Int))) (some false) (dr (α:=Unit) (AD b8 cl F 0) fun (_:Unit)=>
 some true)
def L7 (F:Nat) (a_:Method) (b_:Method):Option (Bool):=
 cond ((!a_.Static) && (!b_.Static)) ((Ib F a_.bI b_.bI).bind fun c9=>
 cond (c9) (some (decide ((⟨a_.Returns.Kind,a_.Returns.aM⟩:Kind)=(⟨b_.Returns.Kind,b_.Returns.aM⟩:Kind)))) (some false)) (some false)
def uT (F:Nat) (du:Method) (jX:aM):Nat->Int->Option (Way (Int) (Unit))
 | 0,_=>none
 | fy+ 1,mY=>
   cond (decide (mY <(jX.aQ.length:Int))) ((idx jX.aQ mY).bind fun eL=>
   cond (decide (du.Name=eL.Name)) ((L7 F (⟨du.Name,du.Static,du.bI,(⟨du.Returns.Kind,du.Returns.aM⟩:Kind),du.cR,du.cQ,du.Code,du.bK⟩:Method) (⟨eL.Name,eL.Static,eL.bI,(⟨eL.Returns.Kind,eL.Returns.aM⟩:Kind),eL.cR,eL.cQ,eL.Code,eL.bK⟩:Method)).bind fun W4=>
   cond (!W4) (some (.out 4)) (uT F du jX fy (ap (mY+ 1)))) (uT F du jX fy (ap (mY+ 1)))) (some (.go ()))
def x1 (F:Nat) (x_:df) (dm:aM) (o7:Int):Nat->Int->Option (Way (Int) (Unit))
 | 0,_=>none
 | et+ 1,mX=>
   cond (decide (mX <(dm.aQ.length:Int))) (dY (α:=Unit) ((idx dm.aQ mX).bind fun du=>
   (idx x_.l o7).bind fun jX=>
   dY (α:=Unit) (uT F du jX F 0) fun (_:Unit)=>
   some (.go ())) fun (_:Unit)=>
   x1 F x_ dm o7 et (ap (mX+ 1))) (some (.go ()))
def x0 (F:Nat) (x_:df) (dm:aM) (gY:List Int):Nat->Int->Option (Way (Int) (Unit))
 | 0,_=>none
 | c7+ 1,kF=>
   cond (decide (kF <(gY.length:Int))) (dY (α:=Unit) ((idx gY kF).bind fun o7=>
   dY (α:=Unit) (x1 F x_ dm o7 F 0) fun (_:Unit)=>
   some (.go ())) fun (_:Unit)=>
   x0 F x_ dm gY c7 (ap (kF+ 1))) (some (.go ()))
def xZ (F:Nat) (x_:df):Nat->Int->Option (Way (Int) (Unit))
 | 0,_=>none
 | bu+ 1,hO=>
   cond (decide (hO <(x_.l.length:Int))) (dY (α:=Unit) ((idx x_.l hO).bind fun dm=>
   (uR F (⟨x_.l,x_.cA,x_.b3⟩:df) hO).bind fun o2=>
   (cut o2 1 (o2.length:Int)).bind fun gY=>
   dY (α:=Unit) (x0 F x_ dm gY F 0) fun (_:Unit)=>
   some (.go ())) fun (_:Unit)=>
   xZ F x_ bu (ap (hO+ 1))) (some (.go ()))
def HD (F:Nat) (x_:df):Option (Int):=
 dr (α:=Unit) (xZ F x_ F 0) fun (_:Unit)=>
 some 0
end J
namespace Go.Proofs.YtpkhpagplommoaaGreat
open Go Go.RowKit aZ
set_option maxHeartbeats 4000000
set_option maxRecDepth 20000
theorem ai3 {W:World} {X:List Nat} {F:Nat} {x_:J.df} {r:Int × J.df} {a7:Nat} {bd:aP} {bn:Nat} {b9:Nat} {aR:aP} {aU:Nat} {M0:List Nat} (hm:ar W M0 X W [aq.map dn (Value.int .i64) b9 x_.cA] [al.cM a7 [.q bd bn x_.l,.map (some b9),.q aR aU x_.b3],U J.a' bd bn x_.l,U (ak .i64) aR aU x_.b3]) (h:J.CO F x_=some r) :
 Calls Tryz.prog 75 [.aL a7].toArray W (fun e aF=>e= .returned (.i r.1)/\ar W M0 X aF [aq.map dn (Value.int .i64) b9 r.2.cA] []):=by
 refine enter Tryz.func75 rfl Tryz.ntmps75 rfl fun a I=>?_;rw [J.CO] at h;refine bb [] [] I fun a I=>wp_seq_k fun K bN=>wp_seq_k fun K cb=>eE [0,0] [(14,.q bd bn x_.l),(15,.i (x_.l.length:Int)),(16,.i 0)] [a7,0] (av (hm.d 0 rfl).2.2 aw) I fun a I=>cb _ _ ?_;obtain ⟨q4,h,qX⟩:=J.dZ h
 refine ca (fun a w=>∃ (pU:List ((List UInt8) × Int)),Fr ⟨62,[]⟩ [(0,.aL a7)] a/\ar W M0 X w [aq.map dn (Value.int .i64) b9 pU] [al.cM a7 [.q bd bn x_.l,.map (some b9),.q aR aU x_.b3],U J.a' bd bn x_.l,U (ak .i64) aR aU x_.b3]/\q4=(.go pU)) (fun K c3=>?_) ?_
 · refine cw (fun (bu:Nat) a w=>∃ (jK:List ((List UInt8) × Int)) (kH:Int),Fr ⟨62,[]⟩ [(0,.aL a7),(14,.q bd bn x_.l),(15,.i (x_.l.length:Int)),(16,.i kH)] a/\ar W M0 X w [aq.map dn (Value.int .i64) b9 jK] [al.cM a7 [.q bd bn x_.l,.map (some b9),.q aR aU x_.b3],U J.a' bd bn x_.l,U (ak .i64) aR aU x_.b3]/\J.q' x_ bu jK kH=some q4) F ⟨x_.cA,0,I.cut,hm,h⟩ ?_ ?_
   · rintro a w ⟨jK,kH,I,hm,h⟩;exact absurd h (by simp [J.q'])
   rintro bu a w ⟨jK,kH,I,hm,h⟩ K cp;rw [J.q'] at h;refine bb [] [(17,.bool (decide (kH <(x_.l.length:Int))))] I fun a I=>wp_seq_k fun K dl=>bk (I.g rfl) h (fun ard h=>?_) (fun ard h=>?_)
   · refine wp_skip <| dl _ _ <| wp_seq_k fun K cN=>wp_block <| wp_seq_k fun K dq=>aY <| aN 1 [] [(18,.i kH)] I fun a I=>?_;obtain ⟨kN,aD0,h⟩:=J.aH h;obtain ⟨ank,ax',_,⟨nf,pc,l5,mf,rfl,RB,at3⟩,atW⟩:=bX _ (hm.d 1 rfl) aD0;have hm:=hm.more (y:=U J.aW nf pc kN.Fields) RB;have hm:=hm.more (y:=U J.b4 l5 mf kN.aQ) at3;refine bQ wn (bF Tryz.underlying25 Tryz.sizeOf136 rfl (I.g rfl) (I.g rfl) ank ax') I rfl rfl fun a I=>?_
     refine bi 1 [0,0] [(20,.agg #[ao kN.Name,ao kN.bZ,.q nf pc kN.Fields,.q l5 mf kN.aQ])] [bG bd,bH bd+(kH).toNat* 4] (av atW aw) I fun a I=>cD (cs:=[ao [],ao [],.slice none 0 0,.slice none 0 0]) wn (eQ Tryz.zeroValue136 rfl rfl) I hm rfl rfl fun a ace w _ I hm=>aN 1 [] [(3,.i kH)] I fun a I=>cX (vs:=[ao kN.Name,ao kN.bZ,.q nf pc kN.Fields,.q l5 mf kN.aQ]) 0 hm rfl wn rfl Tryz.sizeOf136 rfl rfl rfl rfl (I.g rfl) (I.g rfl) rfl fun w hm=>wpList_nil <| dq _ _ ?_
     refine wp_seq_k fun K dc=>wp_seq_k fun K dC=>hA (by kernel_rfl) (by kernel_rfl) <| dB 6 [0,1,1,0] [(25,.map (some b9)),(27,ao kN.Name)] [ace,0,a7,1] (fun a6 ad=>(av (b2 ad (hm.d 2 rfl).2.2) (av (b2 ad (a2 (hm.e 0 rfl))) aw))) I fun a I=>ek wn (fun a6 ad=>I4 (K:=dn) (ev:=(Value.int .i64)) Tryz.underlying120 Tryz.underlying9 Tryz.zeroValue3 (KJ ad ((hm.e 1 rfl))) rfl (I.g rfl) (I.g rfl)) I rfl rfl fun a I=>dB 5 [] [(6,.bool ((J.dp jK kN.Name).isSome))] [] (fun a6 ad=>aw) I fun a I=>wpQuiet_nil fun w ad=>?_;have hm:=hm.dw ad;clear ad;refine dC _ _ <| wp_seq_k fun K dS=>?_
     refine cg [] [(31,.bool ((J.dp jK kN.Name).isSome))] I fun a I=>dS _ _ <| bk (I.g rfl) h (fun Q7 h=>?_) (fun Q7 h=>?_)
     · refine bt [] [(2,.i 6)] I fun a I=>wp_ret ?_;obtain rfl:=ay h;obtain rfl:=ay qX;refine aj (a8 (aj (aj (a8 (aj (aj ?_))))));refine bq Tryz.results75 I rfl ?_;exact ⟨rfl,hm.aX [1] []⟩
     refine wp_skip <| dc _ _ <| hk (m:=8) 7 (ba []) (by kernel_rfl) rfl fun w ad=>?_;have hm:=hm.dw ad;clear ad;have bh:=hm;have aB:=ba.refl [] w;refine ch [0,1,2,3,4,5,6] 7 [0,1,1,0] [(35,.map (some b9)),(37,ao kN.Name),(38,.i kH)] [ace,0,a7,1] (fun a6 ad=>(av (b2 ad (bh.d 2 rfl).2.2) (av (b2 ad (a2 (bh.e 0 rfl))) aw))) I aB fun a I=>da 7 rfl (by kernel_rfl) (fun _=>aB) <| MZ (K:=dn) (ev:=(Value.int .i64)) 1 hm rfl wn Tryz.underlying120 Tryz.underlying9 (.inl rfl) (I.g rfl) (I.g rfl) (I.g rfl) rfl fun w hm=>c5 ?_;clear bh aB;have bh:=hm;have aB:=ba.refl [] w
     refine eC.next 8 (ba [] w) (by kernel_rfl) <| fm (by kernel_rfl) ?_ (fun _=>aB);clear bh aB;have I:=I.cut (l':=[(0,.aL a7),(14,.q bd bn x_.l),(15,.i (x_.l.length:Int)),(16,.i kH)]);refine cN _ _ <| cg [] [(16,.i (J.ap (kH+ 1)))] I fun a I=>?_;exact cp _ _ ⟨J.hD jK kN.Name kH,J.ap (kH+ 1),I.cut,hm.aX [1] [2,3,4],h⟩
   refine wp_exit <| bz (bz (cr ?_));exact c3 _ _ ⟨jK,I.cut,hm,(os h)⟩
 rintro a w ⟨pU,I,hm,bc⟩;subst q4;have h:=qX;clear qX;dsimp only [J.dW] at h;refine bN _ _ <| wp_seq_k fun K ft=>aY <| bi 4 [0,1] [(44,.map (some b9))] [a7,1] (av (hm.d 0 rfl).2.2 aw) I fun a I=>bQ wn (I4 (K:=dn) (ev:=(Value.int .i64)) Tryz.underlying120 Tryz.underlying9 Tryz.zeroValue3 ((hm.e 0 rfl)) rfl (I.g rfl) (cW _ _)) I rfl rfl fun a I=>aN 5 [] [(8,.bool ((J.dp pU [79,98,106,101,99,116]).isSome))] I fun a I=>wpList_nil (ft _ _ ?_);refine wp_seq_k fun K eX=>aY <| bi 4 [0,1] [(52,.map (some b9))] [a7,1] (av (hm.d 0 rfl).2.2 aw) I fun a I=>?_
 refine bQ wn (I4 (K:=dn) (ev:=(Value.int .i64)) Tryz.underlying120 Tryz.underlying9 Tryz.zeroValue3 ((hm.e 0 rfl)) rfl (I.g rfl) (cW _ _)) I rfl rfl fun a I=>aN 5 [] [(10,.bool ((J.dp pU [69,114,114,111,114]).isSome))] I fun a I=>wpList_nil (eX _ _ ?_);refine wp_seq_k fun K gx=>bt [0,0,0] [(61,.bool ((!((J.dp pU [79,98,106,101,99,116]).isSome)) || (!((J.dp pU [69,114,114,111,114]).isSome))))] I fun a I=>bk (I.g rfl) h (fun Q8 h=>?_) (fun Q8 h=>?_)
 · refine bt [] [(2,.i 5)] I fun a I=>wp_ret ?_;obtain rfl:=ay h;refine aj <| bq Tryz.results75 I rfl ?_;exact ⟨rfl,hm.aX [0] []⟩
 refine wp_skip <| gx _ _ <| bt [] [(2,.i 0)] I fun a I=>wp_ret ?_;obtain rfl:=ay h;refine bq Tryz.results75 I rfl ?_;exact ⟨rfl,hm.aX [0] []⟩
theorem ai0 {W:World} {X:List Nat} {F:Nat} {x_:J.df} {r:Int × J.df} {a7:Nat} {bd:aP} {bn:Nat} {b9:Nat} {aR:aP} {aU:Nat} {qj:List Value} {M0:List Nat} (hm:ar W M0 X W [aq.br a7 122 [.q bd bn x_.l,.map (some b9),.q aR aU x_.b3],aq.row 3 1 (.q aR aU x_.b3) x_.b3 qj] [U J.a' bd bn x_.l,al.map dn (Value.int .i64) b9 x_.cA,al.rows (ak .i64) qj x_.b3]) (h:J.L8 F x_=some r) :
 Calls Tryz.prog 76 [.aL a7].toArray W (fun e aF=>∃ YW:Option Addr,∃ aao:Nat,∃ agx:List Value,e= .returned (.i r.1)/\ar W M0 X aF [aq.br a7 122 [.q bd bn x_.l,.map (some b9),.q YW aao r.2.b3],aq.row 3 1 (.q YW aao r.2.b3) r.2.b3 agx] [al.rows (ak .i64) agx r.2.b3]):=by
 refine enter Tryz.func76 rfl Tryz.ntmps76 rfl fun a I=>?_;rw [J.L8] at h;refine bb [] [] I fun a I=>wp_seq_k fun K bN=>wp_seq_k fun K cb=>eE [0,0] [(14,.q bd bn x_.l),(15,.i (x_.l.length:Int)),(16,.i 0)] [a7,0] (av (a2 (hm.e 0 rfl)) aw) I fun a I=>cb _ _ ?_;obtain ⟨VP,h,Tf⟩:=J.dZ h
 refine ca (fun a w=>Fr ⟨94,[]⟩ [(0,.aL a7)] a/\ar W M0 X w [aq.br a7 122 [.q bd bn x_.l,.map (some b9),.q aR aU x_.b3],aq.row 3 1 (.q aR aU x_.b3) x_.b3 qj] [U J.a' bd bn x_.l,al.map dn (Value.int .i64) b9 x_.cA,al.rows (ak .i64) qj x_.b3]/\VP=(.go ())) (fun K c3=>?_) ?_
 · refine cw (fun (bu:Nat) a w=>∃ (jO:Int),Fr ⟨94,[]⟩ [(0,.aL a7),(14,.q bd bn x_.l),(15,.i (x_.l.length:Int)),(16,.i jO)] a/\ar W M0 X w [aq.br a7 122 [.q bd bn x_.l,.map (some b9),.q aR aU x_.b3],aq.row 3 1 (.q aR aU x_.b3) x_.b3 qj] [U J.a' bd bn x_.l,al.map dn (Value.int .i64) b9 x_.cA,al.rows (ak .i64) qj x_.b3]/\J.uP x_ bu jO=some VP) F ⟨0,I.cut,hm,h⟩ ?_ ?_
   · rintro a w ⟨jO,I,hm,h⟩;exact absurd h (by simp [J.uP])
   rintro bu a w ⟨jO,I,hm,h⟩ K cp;rw [J.uP] at h;refine bb [] [(17,.bool (decide (jO <(x_.l.length:Int))))] I fun a I=>wp_seq_k fun K dl=>bk (I.g rfl) h (fun aq9 h=>?_) (fun aq9 h=>?_)
   · refine wp_skip <| dl _ _ <| wp_seq_k fun K cN=>wp_block <| wp_seq_k fun K dq=>aY ?_;obtain ⟨na,aDY,h⟩:=J.aH h;obtain ⟨ani,ax9,_,⟨vK,w3,Pp,P5,rfl,avq,at1⟩,atU⟩:=bX _ (hm.d 0 rfl) aDY;have hm:=hm.more (y:=U J.aW vK w3 na.Fields) avq;have hm:=hm.more (y:=U J.b4 Pp P5 na.aQ) at1;refine bQ wn (bF Tryz.underlying25 Tryz.sizeOf136 rfl (I.g rfl) (I.g rfl) ani ax9) I rfl rfl fun a I=>?_
     refine bi 1 [0,0] [(19,.agg #[ao na.Name,ao na.bZ,.q vK w3 na.Fields,.q Pp P5 na.aQ])] [bG bd,bH bd+(jO).toNat* 4] (av atU aw) I fun a I=>cD (cs:=[ao [],ao [],.slice none 0 0,.slice none 0 0]) wn (eQ Tryz.zeroValue136 rfl rfl) I hm rfl rfl fun a acd w _ I hm=>cX (vs:=[ao na.Name,ao na.bZ,.q vK w3 na.Fields,.q Pp P5 na.aQ]) 0 hm rfl wn rfl Tryz.sizeOf136 rfl rfl rfl rfl (I.g rfl) (I.g rfl) rfl fun w hm=>wpList_nil <| dq _ _ <| wp_seq_k fun K dc=>?_
     refine eE [0,0,0,1] [(26,.bool (!((decide (na.Name= [79,98,106,101,99,116])) == (decide (na.bZ= [])))))] [acd,1,acd,0] (av (a2 (hm.e 0 rfl)) aw) I fun a I=>dc _ _ <| bk (I.g rfl) h (fun tJ h=>?_) (fun tJ h=>?_)
     · refine bt [] [(2,.i 4)] I fun a I=>wp_ret ?_;obtain rfl:=ay h;obtain rfl:=ay Tf;refine a8 (aj (aj (a8 (aj (aj ?_)))));refine bq Tryz.results76 I rfl ?_;exact ⟨aR,aU,qj,rfl,hm.aX [1,2] [4]⟩
     refine wp_skip <| cN _ _ <| cg [] [(16,.i (J.ap (jO+ 1)))] I fun a I=>?_;exact cp _ _ ⟨J.ap (jO+ 1),I.cut,hm.aX [1,2] [2,3,4],h⟩
   refine wp_exit <| bz (bz (cr ?_));exact c3 _ _ ⟨I.cut,hm,(os h)⟩
 rintro a w ⟨I,hm,bc⟩;subst VP;have h:=Tf;clear Tf;dsimp only [J.dW] at h;refine bN _ _ <| wp_seq_k fun K dS=>wp_seq_k fun K dL=>eE [0,0] [(31,.q bd bn x_.l),(32,.i (x_.l.length:Int)),(33,.i 0)] [a7,0] (av (a2 (hm.e 0 rfl)) aw) I fun a I=>dL _ _ ?_;obtain ⟨Vn,h,SI⟩:=J.dZ h
 refine ca (fun a w=>∃ (jy:aP) (kt:Nat) (fj:fq) (ln:dy),Fr ⟨94,[]⟩ [(0,.aL a7)] a/\ar W M0 X w [aq.br a7 122 [.q bd bn x_.l,.map (some b9),.q jy kt fj],aq.row 3 1 (.q jy kt fj) fj ln] [al.rows (ak .i64) ln fj,U J.a' bd bn x_.l,al.map dn (Value.int .i64) b9 x_.cA]/\Vn=(.go fj)) (fun K ft=>?_) ?_
 · refine cw (fun (c7:Nat) a w=>∃ (qo:aP) (qE:Nat) (jp:fq) (sI:dy) (m0:Int),Fr ⟨94,[]⟩ [(0,.aL a7),(31,.q bd bn x_.l),(32,.i (x_.l.length:Int)),(33,.i m0)] a/\ar W M0 X w [aq.br a7 122 [.q bd bn x_.l,.map (some b9),.q qo qE jp],aq.row 3 1 (.q qo qE jp) jp sI] [al.rows (ak .i64) sI jp,U J.a' bd bn x_.l,al.map dn (Value.int .i64) b9 x_.cA]/\J.oM x_ c7 jp m0=some Vn) F ⟨aR,aU,x_.b3,qj,0,I.cut,hm.eA [2,0,1],h⟩ ?_ ?_
   · rintro a w ⟨qo,qE,jp,sI,m0,I,hm,h⟩;exact absurd h (by simp [J.oM])
   rintro c7 a w ⟨qo,qE,jp,sI,m0,I,hm,h⟩ K eX;rw [J.oM] at h;refine bb [] [(34,.bool (decide (m0 <(x_.l.length:Int))))] I fun a I=>wp_seq_k fun K g9=>bk (I.g rfl) h (fun Rd h=>?_) (fun Rd h=>?_)
   · refine wp_skip <| g9 _ _ <| wp_seq_k fun K fu=>?_;obtain ⟨aen,h,S_⟩:=J.eT h;refine ca (fun a w=>∃ (Ji:aP) (J4:Nat) (q7:fq) (Om:dy),Fr ⟨94,[]⟩ [(0,.aL a7),(31,.q bd bn x_.l),(32,.i (x_.l.length:Int)),(33,.i m0)] a/\ar W M0 X w [aq.br a7 122 [.q bd bn x_.l,.map (some b9),.q Ji J4 q7],aq.row 3 1 (.q Ji J4 q7) q7 Om] [al.rows (ak .i64) Om q7,U J.a' bd bn x_.l,al.map dn (Value.int .i64) b9 x_.cA]/\aen=(.go q7)) (fun K fK=>?_) ?_
     · refine wp_seq_k fun K fR=>aY ?_;obtain ⟨gR,aDa,h⟩:=J.aH h;obtain ⟨amp,axf,_,⟨yO,za,yP,zb,rfl,auX,auY⟩,as1⟩:=bX _ (hm.d 1 rfl) aDa;have hm:=hm.more (y:=U J.aW yO za gR.Fields) auX;have hm:=hm.more (y:=U J.b4 yP zb gR.aQ) auY;refine bQ wn (bF Tryz.underlying25 Tryz.sizeOf136 rfl (I.g rfl) (I.g rfl) amp axf) I rfl rfl fun a I=>bi 1 [0,0] [(36,.agg #[ao gR.Name,ao gR.bZ,.q yO za gR.Fields,.q yP zb gR.aQ])] [bG bd,bH bd+(m0).toNat* 4] (av as1 aw) I fun a I=>?_
       refine cD (cs:=[ao [],ao [],.slice none 0 0,.slice none 0 0]) wn (eQ Tryz.zeroValue136 rfl rfl) I hm rfl rfl fun a KV w _ I hm=>cX (vs:=[ao gR.Name,ao gR.bZ,.q yO za gR.Fields,.q yP zb gR.aQ]) 0 hm rfl wn rfl Tryz.sizeOf136 rfl rfl rfl rfl (I.g rfl) (I.g rfl) rfl fun w hm=>wpList_nil <| fR _ _ <| wp_seq_k fun K gm=>hA (by kernel_rfl) (by kernel_rfl) ?_
       refine dB 6 [0,1,1,1] [(41,.map (some b9)),(43,ao gR.bZ)] [KV,1,a7,1] (fun a6 ad=>(av (b2 ad (a2 (hm.e 1 rfl))) (av (b2 ad (a2 (hm.e 0 rfl))) aw))) I fun a I=>ek wn (fun a6 ad=>I4 (K:=dn) (ev:=(Value.int .i64)) Tryz.underlying120 Tryz.underlying9 Tryz.zeroValue3 (KJ ad ((hm.d 4 rfl).2.2)) rfl (I.g rfl) (I.g rfl)) I rfl rfl fun a I=>dB 5 [] [(7,.i ((J.dp x_.cA gR.bZ).getD 0)),(8,.bool ((J.dp x_.cA gR.bZ).isSome))] [] (fun a6 ad=>aw) I fun a I=>wpQuiet_nil fun w ad=>?_;have hm:=hm.dw ad;clear ad;refine gm _ _ ?_;obtain ⟨aeo,h,Tb⟩:=J.eT h
       refine w9 (fun a w=>∃ (rc:Int),Fr ⟨94,[]⟩ [(0,.aL a7),(7,.i rc),(31,.q bd bn x_.l),(32,.i (x_.l.length:Int)),(33,.i m0)] a/\ar W M0 X w [aq.br KV 136 [ao gR.Name,ao gR.bZ,.q yO za gR.Fields,.q yP zb gR.aQ],aq.br a7 122 [.q bd bn x_.l,.map (some b9),.q qo qE jp],aq.row 3 1 (.q qo qE jp) jp sI] [U J.b4 yP zb gR.aQ,U J.aW yO za gR.Fields,al.rows (ak .i64) sI jp,U J.a' bd bn x_.l,al.map dn (Value.int .i64) b9 x_.cA]/\aeo=(.go rc)) (fun K gK=>?_) ?_
       · obtain ⟨aep,h,Td⟩:=J.eT h
         refine ca (fun a w=>∃ (C1:Int),Fr ⟨94,[]⟩ [(0,.aL a7),(7,.i C1),(31,.q bd bn x_.l),(32,.i (x_.l.length:Int)),(33,.i m0)] a/\ar W M0 X w [aq.br KV 136 [ao gR.Name,ao gR.bZ,.q yO za gR.Fields,.q yP zb gR.aQ],aq.br a7 122 [.q bd bn x_.l,.map (some b9),.q qo qE jp],aq.row 3 1 (.q qo qE jp) jp sI] [U J.b4 yP zb gR.aQ,U J.aW yO za gR.Fields,al.rows (ak .i64) sI jp,U J.a' bd bn x_.l,al.map dn (Value.int .i64) b9 x_.cA]/\aep=(.go C1)) (fun K hB=>?_) ?_
         · refine wp_seq_k fun K hX=>eE [0,1] [(47,.bool (decide (gR.bZ= [])))] [KV,1] (av (a2 (hm.e 0 rfl)) aw) I fun a I=>hX _ _ <| bk (I.g rfl) h (fun aqx h=>?_) (fun aqx h=>?_)
           · refine cg [] [(7,.i (-1))] I fun a I=>?_;exact hB _ _ ⟨(-1),I.cut,hm,(os h)⟩
           refine bb [] [(51,.bool (!((J.dp x_.cA gR.bZ).isSome)))] I fun a I=>bk (I.g rfl) h (fun aqy h=>?_) (fun aqy h=>?_)
           · refine bt [] [(2,.i 5)] I fun a I=>wp_ret ?_;obtain rfl:=ay h;obtain rfl:=ay Td;obtain rfl:=ay Tb;obtain rfl:=ay S_;obtain rfl:=ay SI;refine a8 (aj (aj (a8 (aj (aj (aj (a8 (aj (aj ?_)))))))));refine bq Tryz.results76 I rfl ?_;exact ⟨qo,qE,sI,rfl,hm.aX [1,2] [2]⟩
           refine wp_skip ?_;exact hB _ _ ⟨(J.dp x_.cA gR.bZ).getD 0,I.cut,hm,(os h)⟩
         rintro a w ⟨C1,I,hm,bc⟩;subst aep;have h:=Td;clear Td;dsimp only [J.eN] at h;exact gK _ _ ⟨C1,I.cut,hm,(os h)⟩
       rintro a w ⟨rc,I,hm,bc⟩;subst aeo;have h:=Tb;clear Tb;dsimp only [J.eN] at h;refine aY <| bi 6 [0,2] [(54,.aL a7),(58,.q qo qE jp),(59,.i rc)] [a7,2] (av (a2 (hm.e 1 rfl)) aw) I fun a I=>gq (cs:=[.i rc]) wn (fU (vs:=[(0,.i rc)]) Tryz.underlying22 Tryz.sizeOf3 Tryz.zeroValue3 rfl rfl rfl ⟨⟨(I.g rfl),rfl⟩,trivial⟩ (by kernel_rfl)) I hm rfl rfl fun a aJy w _ I hm=>?_;obtain ⟨CM,ayQ,h⟩:=J.aH h;refine iH (T:=(ak .i64)) (ml:=[rc]) 3 0 2 hm rfl rfl rfl Tryz.underlying22 nD rfl rfl ayQ rfl rfl ⟨_,_,rfl,rfl,rfl⟩ wn rfl (I.g rfl) (I.g rfl) I rfl rfl fun a Zf aaK aHx w I hm=>?_
       refine aN 2 [] [(63,.pointer (some ⟨a7,2,none⟩))] I fun a I=>cX (vs:=[.q Zf aaK CM]) 1 hm rfl wn rfl Tryz.sizeOf22 rfl rfl rfl rfl (I.g rfl) (I.g rfl) rfl fun w hm=>wpList_nil ?_;exact fK _ _ ⟨Zf,aaK,CM,aHx,I.cut,hm.aX [1,2] [0,4,5],(os h)⟩
     rintro a w ⟨Ji,J4,q7,Om,I,hm,bc⟩;subst aen;have h:=S_;clear S_;dsimp only [J.eN] at h;refine fu _ _ <| cg [] [(33,.i (J.ap (m0+ 1)))] I fun a I=>?_;exact eX _ _ ⟨Ji,J4,q7,Om,J.ap (m0+ 1),I.cut,hm,h⟩
   refine wp_exit <| bz (bz (cr ?_));exact ft _ _ ⟨qo,qE,jp,sI,I.cut,hm,(os h)⟩
 rintro a w ⟨jy,kt,fj,ln,I,hm,bc⟩;subst Vn;have h:=SI;clear SI;dsimp only [J.dW] at h;refine dS _ _ <| wp_seq_k fun K hq=>wp_seq_k fun K jC=>eE [0,0] [(69,.i (x_.l.length:Int)),(70,.i 0)] [a7,0] (av (a2 (hm.e 0 rfl)) aw) I fun a I=>jC _ _ ?_;obtain ⟨UQ,h,Sd⟩:=J.dZ h;refine ca (fun a w=>Fr ⟨94,[]⟩ [] a/\ar W M0 X w [aq.br a7 122 [.q bd bn x_.l,.map (some b9),.q jy kt fj],aq.row 3 1 (.q jy kt fj) fj ln] [al.rows (ak .i64) ln fj,U J.a' bd bn x_.l,al.map dn (Value.int .i64) b9 x_.cA]/\UQ=(.go ())) (fun K jl=>?_) ?_
 · refine cw (fun (et:Nat) a w=>∃ (kD:Int),Fr ⟨94,[]⟩ [(0,.aL a7),(69,.i (x_.l.length:Int)),(70,.i kD)] a/\ar W M0 X w [aq.br a7 122 [.q bd bn x_.l,.map (some b9),.q jy kt fj],aq.row 3 1 (.q jy kt fj) fj ln] [al.rows (ak .i64) ln fj,U J.a' bd bn x_.l,al.map dn (Value.int .i64) b9 x_.cA]/\J.uQ F x_ fj et kD=some UQ) F ⟨0,I.cut,hm,h⟩ ?_ ?_
   · rintro a w ⟨kD,I,hm,h⟩;exact absurd h (by simp [J.uQ])
   rintro et a w ⟨kD,I,hm,h⟩ K my;rw [J.uQ] at h;refine bb [] [(71,.bool (decide (kD <(x_.l.length:Int))))] I fun a I=>wp_seq_k fun K jE=>bk (I.g rfl) h (fun aoV h=>?_) (fun aoV h=>?_)
   · refine wp_skip <| jE _ _ <| wp_seq_k fun K j9=>?_;obtain ⟨ad8,h,Sp⟩:=J.eT h;refine ca (fun a w=>Fr ⟨94,[]⟩ [(0,.aL a7),(69,.i (x_.l.length:Int)),(70,.i kD)] a/\ar W M0 X w [aq.br a7 122 [.q bd bn x_.l,.map (some b9),.q jy kt fj],aq.row 3 1 (.q jy kt fj) fj ln] [al.rows (ak .i64) ln fj,U J.a' bd bn x_.l,al.map dn (Value.int .i64) b9 x_.cA]/\ad8=(.go ())) (fun K j_=>?_) ?_
     · refine bb [] [(9,.i kD)] I fun a I=>bb [] [(10,.i kD)] I fun a I=>?_;obtain ⟨ad9,h,Sr⟩:=J.aH h;refine w9 (fun a w=>∃ (CX:Int),Fr ⟨94,[]⟩ [(0,.aL a7),(10,.i CX),(69,.i (x_.l.length:Int)),(70,.i kD)] a/\ar W M0 X w [aq.br a7 122 [.q bd bn x_.l,.map (some b9),.q jy kt fj],aq.row 3 1 (.q jy kt fj) fj ln] [al.rows (ak .i64) ln fj,U J.a' bd bn x_.l,al.map dn (Value.int .i64) b9 x_.cA]/\ad9=CX) (fun K lF=>?_) ?_
       · clear Sr;refine wp_seq_k fun K ou=>eE [0,0] [(78,.i (x_.l.length:Int)),(79,.i 0)] [a7,0] (av (a2 (hm.e 0 rfl)) aw) I fun a I=>ou _ _ ?_;obtain ⟨U5,h,St⟩:=J.aH h;refine ca (fun a w=>∃ (CY:Int),Fr ⟨94,[]⟩ [(0,.aL a7),(10,.i CY),(69,.i (x_.l.length:Int)),(70,.i kD)] a/\ar W M0 X w [aq.br a7 122 [.q bd bn x_.l,.map (some b9),.q jy kt fj],aq.row 3 1 (.q jy kt fj) fj ln] [al.rows (ak .i64) ln fj,U J.a' bd bn x_.l,al.map dn (Value.int .i64) b9 x_.cA]/\U5=CY) (fun K lG=>?_) ?_
         · clear St;refine cw (fun (fy:Nat) a w=>∃ (su:Int) (sv:Int),Fr ⟨94,[]⟩ [(0,.aL a7),(10,.i su),(69,.i (x_.l.length:Int)),(70,.i kD),(78,.i (x_.l.length:Int)),(79,.i sv)] a/\ar W M0 X w [aq.br a7 122 [.q bd bn x_.l,.map (some b9),.q jy kt fj],aq.row 3 1 (.q jy kt fj) fj ln] [al.rows (ak .i64) ln fj,U J.a' bd bn x_.l,al.map dn (Value.int .i64) b9 x_.cA]/\J.xW x_ fj fy su sv=some U5) F ⟨kD,0,I.cut,hm,h⟩ ?_ ?_
           · rintro a w ⟨su,sv,I,hm,h⟩;exact absurd h (by simp [J.xW])
           rintro fy a w ⟨su,sv,I,hm,h⟩ K mz;rw [J.xW] at h;refine bb [] [(80,.bool (decide (sv <(x_.l.length:Int))))] I fun a I=>wp_seq_k fun K zv=>bk (I.g rfl) h (fun apa h=>?_) (fun apa h=>?_)
           · refine wp_skip <| zv _ _ <| wp_seq_k fun K mA=>wp_block <| wp_seq_k fun K tB=>aY <| bi 5 [0,2] [(84,.q jy kt fj),(85,.i su)] [a7,2] (av (a2 (hm.e 0 rfl)) aw) I fun a I=>?_;obtain ⟨yC,aB8,h⟩:=J.aH h;obtain ⟨ali,awa,_,rfl,arU⟩:=gN (hm.e 1 rfl) (hm.d 0 rfl) aB8;refine bQ wn (bF Tryz.underlying22 Tryz.sizeOf3 rfl (I.g rfl) (I.g rfl) ali awa) I rfl rfl fun a I=>bi 2 [0,0] [(10,.i yC)] [bG jy,bH jy+(su).toNat* 1] (av arU aw) I fun a I=>wpList_nil (tB _ _ ?_);refine bb [] [(89,.bool (decide (yC < 0)))] I fun a I=>?_
             refine bk (I.g rfl) h (fun apb h=>?_) (fun apb h=>?_)
             · refine wp_exit <| aHa rfl (bz (bz (cr ?_)));exact lG _ _ ⟨yC,I.cut,hm,(os h)⟩
             refine wp_skip <| mA _ _ <| cg [] [(79,.i (J.ap (sv+ 1)))] I fun a I=>?_;exact mz _ _ ⟨yC,J.ap (sv+ 1),I.cut,hm,h⟩
           refine wp_exit <| bz (bz (cr ?_));exact lG _ _ ⟨su,I.cut,hm,(os h)⟩
         rintro a w ⟨CY,I,hm,bc⟩;subst U5;have h:=St;clear St;exact lF _ _ ⟨CY,I.cut,hm,(os h)⟩
       rintro a w ⟨CX,I,hm,bc⟩;subst ad9;have h:=Sr;clear Sr;refine bb [] [(92,.bool (decide (0 <=CX)))] I fun a I=>bk (I.g rfl) h (fun apc h=>?_) (fun apc h=>?_)
       · refine bt [] [(2,.i 4)] I fun a I=>wp_ret ?_;obtain rfl:=ay h;obtain rfl:=ay Sp;obtain rfl:=ay Sd;refine a8 (aj (aj (aj (a8 (aj (aj ?_))))));refine bq Tryz.results76 I rfl ?_;exact ⟨jy,kt,ln,rfl,hm.aX [0,1] [0]⟩
       refine wp_skip ?_;exact j_ _ _ ⟨I.cut,hm,(os h)⟩
     rintro a w ⟨I,hm,bc⟩;subst ad8;have h:=Sp;clear Sp;dsimp only [J.eN] at h;refine j9 _ _ <| cg [] [(70,.i (J.ap (kD+ 1)))] I fun a I=>?_;exact my _ _ ⟨J.ap (kD+ 1),I.cut,hm,h⟩
   refine wp_exit <| bz (bz (cr ?_));exact jl _ _ ⟨I.cut,hm,(os h)⟩
 rintro a w ⟨I,hm,bc⟩;subst UQ;have h:=Sd;clear Sd;dsimp only [J.dW] at h;refine hq _ _ <| bt [] [(2,.i 0)] I fun a I=>wp_ret ?_;obtain rfl:=ay h;refine bq Tryz.results76 I rfl ?_;exact ⟨jy,kt,ln,rfl,hm.aX [0,1] [0]⟩
theorem Qa {W:World} {X:List Nat} {F:Nat} {x_:J.df} {bU:Int} {r:List Int} {a7:Nat} {bd:aP} {bn:Nat} {b9:Nat} {aR:aP} {aU:Nat} {M0:List Nat} (hm:ar W M0 X W [] [al.cM a7 [.q bd bn x_.l,.map (some b9),.q aR aU x_.b3],U J.a' bd bn x_.l,al.map dn (Value.int .i64) b9 x_.cA,U (ak .i64) aR aU x_.b3]) (h:J.uR F x_ bU=some r) :
 Calls Tryz.prog 105 [.aL a7,.i bU].toArray W (fun e aF=>∃ YJ:Option Addr,∃ aab:Nat,∃ ags:List Value,e= .returned (.q YJ aab r)/\ar W M0 X aF [aq.row 3 1 (.q YJ aab r) r ags] [al.rows (ak .i64) ags r]):=by
 refine enter Tryz.func105 rfl Tryz.ntmps105 rfl fun a I=>?_;rw [J.uR] at h;refine bb [] [] I fun a I=>bb [] [(5,.slice none 0 0)] I fun a I=>wp_seq_k fun K cb=>?_;have hm:=hm.cO (α:=Int) 3 1;have hm:=hm.more (y:=al.rows (ak .i64) [] []) rfl;obtain ⟨UO,h,Sb⟩:=J.aH h
 refine ca (fun a w=>∃ (DR:aP) (EK:Nat) (uf:fq) (N5:dy),Fr ⟨20,[]⟩ [(5,.q DR EK uf)] a/\ar W M0 X w [aq.row 3 1 (.q DR EK uf) uf N5] [al.rows (ak .i64) N5 uf,al.cM a7 [.q bd bn x_.l,.map (some b9),.q aR aU x_.b3],U J.a' bd bn x_.l,al.map dn (Value.int .i64) b9 x_.cA,U (ak .i64) aR aU x_.b3]/\UO=uf) (fun K c3=>?_) ?_
 · clear Sb;refine cw (fun (bu:Nat) a w=>∃ (jf:aP) (jh:Nat) (pw:fq) (IG:dy) (mV:Int),Fr ⟨20,[]⟩ [(0,.aL a7),(1,.i mV),(5,.q jf jh pw)] a/\ar W M0 X w [aq.row 3 1 (.q jf jh pw) pw IG] [al.rows (ak .i64) IG pw,al.cM a7 [.q bd bn x_.l,.map (some b9),.q aR aU x_.b3],U J.a' bd bn x_.l,al.map dn (Value.int .i64) b9 x_.cA,U (ak .i64) aR aU x_.b3]/\J.uS x_ bu pw mV=some UO) F ⟨none,0,[],[],bU,I.cut,hm,h⟩ ?_ ?_
   · rintro a w ⟨jf,jh,pw,IG,mV,I,hm,h⟩;exact absurd h (by simp [J.uS])
   rintro bu a w ⟨jf,jh,pw,IG,mV,I,hm,h⟩ K cp;rw [J.uS] at h;refine wp_seq_k fun K dE=>bb [] [(7,.bool (decide (0 <=mV)))] I fun a I=>bk (I.g rfl) h (fun aoP h=>?_) (fun aoP h=>?_)
   · refine wp_skip <| dE _ _ <| wp_seq_k fun K cN=>wp_block <| aY <| aN 2 [] [(15,.q jf jh pw),(16,.i mV)] I fun a I=>gq (cs:=[.i mV]) wn (fU (vs:=[(0,.i mV)]) Tryz.underlying22 Tryz.sizeOf3 Tryz.zeroValue3 rfl rfl rfl ⟨⟨(I.g rfl),rfl⟩,trivial⟩ (by kernel_rfl)) I hm rfl rfl fun a aJm w _ I hm=>?_;obtain ⟨Hz,ayq,h⟩:=J.aH h;refine iH (T:=(ak .i64)) (ml:=[mV]) 1 0 0 hm rfl rfl rfl Tryz.underlying22 nD rfl rfl ayq rfl rfl ⟨_,_,rfl,rfl,rfl⟩ wn rfl (I.g rfl) (I.g rfl) I rfl rfl fun a YH Z9 aHh w I hm=>?_
     refine aN 1 [] [(5,.q YH Z9 Hz)] I fun a I=>wpList_nil (cN _ _ ?_);refine aY <| bi 5 [0,2] [(11,.q aR aU x_.b3),(12,.i mV)] [a7,2] (av (hm.d 2 rfl).2.2 aw) I fun a I=>?_;obtain ⟨gP,Uu,h⟩:=J.aH h;obtain ⟨QH,RZ,_,rfl,Rp⟩:=bX _ (hm.d 5 rfl) Uu;refine bQ wn (bF Tryz.underlying22 Tryz.sizeOf3 rfl (I.g rfl) (I.g rfl) QH RZ) I rfl rfl fun a I=>bi 2 [0,0] [(1,.i gP)] [bG aR,bH aR+(mV).toNat* 1] (av Rp aw) I fun a I=>wpList_nil ?_;exact cp _ _ ⟨YH,Z9,Hz,aHh,gP,I.cut,hm.eA [0,2,3,4,5],h⟩
   refine wp_exit <| bz (bz (cr ?_));exact c3 _ _ ⟨jf,jh,pw,IG,I.cut,hm,(os h)⟩
 rintro a w ⟨DR,EK,uf,N5,I,hm,bc⟩;subst UO;have h:=Sb;clear Sb;refine cb _ _ <| bt [] [(4,.q DR EK uf)] I fun a I=>wp_ret ?_;obtain rfl:=ay h;refine bq Tryz.results105 I rfl ?_;exact ⟨DR,EK,N5,rfl,hm.aX [0] [0]⟩
theorem abt {W:World} {X:List Nat} {s_:List Int} {r:Unit} {ag:aP} {ah:Nat} {M0:List Nat} (hm:ar W M0 X W [] [U (ak .i64) ag ah s_]) (h:J.H8 s_=some r) :
 Calls Tryz.prog 107 [.q ag ah s_].toArray W (fun e aF=>∃ g:Nat,e= .returned (.func (.func 134) #[] #[.aL g])/\ar W M0 X aF [aq.br g 22 [.q ag ah s_]] []):=by
 refine enter Tryz.func107 rfl Tryz.ntmps107 rfl fun a I=>?_;clear h;refine wp_seq_k fun K c6=>aY <| cD (cs:=[.q ag ah s_]) wn (ei rfl rfl (I.g rfl)) I hm rfl rfl fun a fJ w _ I hm=>aN 1 [] [] I fun a I=>wpList_nil (c6 _ _ ?_);refine bt [] [(2,.func (.func 134) #[] #[.aL fJ])] I fun a I=>wp_ret <| bq Tryz.results107 I rfl ?_;exact ⟨fJ,rfl,hm.aX [0] []⟩
theorem abp:ZF Tryz.prog 134 :=by
 intro lv jJ A c j8 L iI a5 hy bJ
 refine ajZ (vs:=[.func (.yield L) #[] #[],.aL j8]) Tryz.func134 rfl Tryz.ntmps134 rfl (by rintro w ⟨⟨v,h⟩,_⟩;cases h) ?_
 intro a I
 obtain ⟨W,M0,X,E,hm⟩:=a5 _ _ bJ
 have hlen:jJ.length<=maxLen:=by
  obtain ⟨jx,dM,bM,b7,ez,_⟩:=(hm.d 1 rfl:(aG (ak .i64)).rd _ _ _ _)
  omega
 refine m9 ?_
 intro K c6
 refine o6 (by kernel_rfl) ?_
 refine g5 4 [0,1,3] [0,0] (fr':=[(0,.func (.yield L) #[] #[]),(1,.aL j8),(3,.i (J.ap ((jJ.length:Int) - 1)))]) (L:=[j8,0]) nx (av (hm.d 0 rfl).2.2 aw) I (by kernel_rfl) ?_
 intro a I
 rw [af2 hlen] at I
 refine wpList_nil ?_
 refine c6 _ _ ?_
 refine X8 ?_
 refine agb (fun k a w=>∃ (rem:fq),k=rem.length+ 1 /\(∃ pre,jJ=rem.reverse++pre)/\Fr ⟨19,[]⟩ [(0,.func (.yield L) #[] #[]),(1,.aL j8),(3,.i ((rem.length:Int) - 1))] a/\lv rem w) (jJ.length+ 1) ⟨jJ.reverse,by simp,⟨[],by simp⟩,by rw [List.length_reverse];exact I,bJ⟩ (by rintro a w ⟨rem,h,_⟩;omega) ?_
 rintro k a w ⟨rem,bf,⟨pre,Hc⟩,I,zu⟩ K hn
 refine m9 ?_
 intro aIJ bN
 refine m9 ?_
 intro aIK cb
 refine o6 (by kernel_rfl) ?_
 refine g5 2 [0,1,3,8] [] (fr':=[(0,.func (.yield L) #[] #[]),(1,.aL j8),(3,.i ((rem.length:Int) - 1)),(8,.bool (decide (0 <=(rem.length:Int) - 1)))]) (L:=[]) nx aw I (by kernel_rfl) ?_
 intro a I
 refine wpList_nil ?_
 refine cb _ _ ?_
 refine X_ (I.g rfl) (fun a1=>?_) (fun a1=>?_)
 · have a1:=of_decide_eq_true a1
   match rem,a1,Hc,I,zu,bf with
   | x::rem,_,Hc,I,zu,bf=>
   have ai:=aEe Hc
   have e:((x::rem).length:Int) - 1 =(rem.length:Int):=by simp
   rw [e] at I
   refine M' ?_
   refine bN _ _ ?_
   refine m9 ?_
   intro aIL c3
   refine X8 ?_
   refine m9 ?_
   intro aIM cp
   refine aG' fun gn=>?_
   refine aEO 6 (by kernel_rfl) ?_
   obtain ⟨W,M0,X,E,hm⟩:=a5 _ _ zu
   refine g5 4 [0,1,3,11,12,13,14] [0,0] (fr':=[(0,.func (.yield L) #[] #[]),(1,.aL j8),(3,.i (rem.length:Int)),(11,.func (.yield L) #[] #[]),(12,.i (rem.length:Int)),(13,.q A c jJ),(14,.i (rem.length:Int))]) (L:=[j8,0]) nx (av (hm.d 0 rfl).2.2 aw) I (by kernel_rfl) ?_
   intro a I
   obtain ⟨gI,hi,_,rfl,hc⟩:=bX _ (hm.d 1 rfl) ai
   refine bQ wn (bF Tryz.underlying22 Tryz.sizeOf3 rfl (I.g rfl) (I.g rfl) gI hi) I rfl rfl ?_
   intro a I
   refine g5 1 [0,1,3,11,12,16] [0,0] (fr':=[(0,.func (.yield L) #[] #[]),(1,.aL j8),(3,.i (rem.length:Int)),(11,.func (.yield L) #[] #[]),(12,.i (rem.length:Int)),(16,.i x)]) (L:=[bG A,bH A+(rem.length:Int).toNat* 1]) nx (av hc aw) I (by kernel_rfl) ?_
   intro a I
   refine wpList_nil ?_
   refine aIw (vs:=[.i (rem.length:Int),.i x]) wn rfl (I.g rfl) ⟨I.g rfl,I.g rfl,trivial⟩ (hy x rem _ zu) I rfl rfl ?_
   rintro _ w ⟨rfl,zu⟩
   refine ⟨_,rfl,fun a I=>?_⟩
   refine L_ gn (by kernel_rfl) ?_
   refine g5 1 [0,1,3,18] [] (fr':=[(0,.func (.yield L) #[] #[]),(1,.aL j8),(3,.i (rem.length:Int)),(18,.bool false)]) (L:=[]) nx aw I (by kernel_rfl) ?_
   intro a I
   refine wpList_nil ?_
   refine cp _ _ ?_
   refine aG_ (I.g rfl) rfl ?_
   refine M' ?_
   refine c3 _ _ ?_
   refine o6 (by kernel_rfl) ?_
   refine g5 3 [0,1,3] [] (fr':=[(0,.func (.yield L) #[] #[]),(1,.aL j8),(3,.i (J.ap ((rem.length:Int) - 1)))]) (L:=[]) nx aw I (by kernel_rfl) ?_
   intro a I
   have hle:rem.length<=maxLen:=by
    have:=congrArg List.length Hc
    simp at this
    omega
   rw [af2 hle] at I
   refine wpList_nil ?_
   exact hn _ _ ⟨rem,by simpa using bf,⟨x::pre,by rw [Hc];simp⟩,I,zu⟩
 · have a1:=of_decide_eq_false a1
   have bR:rem= []:=by
    cases rem with
    | nil=>rfl
    | cons x r=>exact absurd a1 (by simp)
   subst bR
   refine X' ?_
   refine bz ?_
   refine bz ?_
   refine cr ?_
   refine y9 ?_
   refine AA Tryz.results134 I ?_
   exact ⟨⟨_,rfl⟩,zu⟩
theorem Qb {W:World} {X:List Nat} {F:Nat} {x_:J.df} {bU:Int} {r:List J.Field} {a7:Nat} {bd:aP} {bn:Nat} {b9:Nat} {aR:aP} {aU:Nat} {M0:List Nat} (hm:ar W M0 X W [] [al.cM a7 [.q bd bn x_.l,.map (some b9),.q aR aU x_.b3],U J.a' bd bn x_.l,al.map dn (Value.int .i64) b9 x_.cA,U (ak .i64) aR aU x_.b3]) (h:J.xX F x_ bU=some r) :
 Calls Tryz.prog 82 [.aL a7,.i bU].toArray W (fun e aF=>∃ nf:Option Addr,∃ pc:Nat,∃ agj:List Value,e= .returned (.q nf pc r)/\ar W M0 X aF [aq.row 105 3 (.q nf pc r) r agj] [al.rows J.aW agj r]):=by
 refine abW Tryz.func82 rfl Tryz.ntmps82 rfl fun a I=>?_;rw [J.xX] at h;refine wp_seq_k fun K c6=>aY <| cD (cs:=[.aL a7]) wn (ei rfl rfl (I.g rfl)) I hm rfl rfl fun a dh w _ I hm=>aN 1 [] [] I fun a I=>wpList_nil (c6 _ _ ?_);refine wp_seq_k fun K bN=>aY <| cD (cs:=[.slice none 0 0]) wn (eQ Tryz.zeroValue106 rfl rfl) I hm rfl rfl fun a hL w _ I hm=>wpList_nil <| bN _ _ <| wp_seq_k fun K cb=>wp_seq_k fun K c3=>aY ?_
 refine bi 2 [0,0] [(8,.aL a7),(9,.i bU)] [dh,0] (av (a2 (hm.e 1 rfl)) aw) I fun a I=>?_;obtain ⟨rn,T3,h⟩:=J.aH h;have hc:=hm;refine bP (vs:=[.aL a7,.i bU]) wn rfl Tryz.call105 ⟨(I.g rfl),(I.g rfl),trivial⟩ (Qa ((hc.into 0).pick ⟨⟨0,rfl⟩,⟨1,rfl⟩,⟨2,rfl⟩,⟨3,rfl⟩,trivial⟩) T3) I rfl rfl ?_;rintro _ w ⟨bB,bC,agr,rfl,af⟩;refine ⟨_,rfl,fun a I=>?_⟩;have hm:=hc.back 0 af;clear af hc;obtain ⟨aFB,azv,h⟩:=J.aH h;have hc:=hm;have ax:=hc.freeze 0 0 rfl rfl
 refine bP (vs:=[.q bB bC rn]) wn rfl Tryz.call107 ⟨(I.g rfl),trivial⟩ (abt ((ax.into 0).pick ⟨⟨0,rfl⟩,trivial⟩) azv) I rfl rfl ?_;rintro _ w ⟨cy,rfl,af⟩;refine ⟨_,rfl,fun a I=>?_⟩;have ad:ba [] _ w:=af.ev;have hm:=hc.fP 0 (by exact trivial) af;clear af hc ax;clear ad;refine wpList_nil ?_;have I:=I.cut (l':=[(2,.aL dh),(5,.aL hL),(11,.func (.func 134) #[] #[.aL cy])]);refine c3 _ _ <| wp_block ?_;have hm:=hm.freeze 1 0 rfl rfl;have hm:=hm.lB 0 rfl;have hm:=hm.cO (α:=J.Field) 105 3
 have hm:=hm.more (y:=al.rows J.aW [] []) rfl;obtain ⟨aEw,TL,h⟩:=J.aH h
 refine abe (c:=bC) (A:=bB) (β:=(Option Addr) × (Nat) × (List J.Field) × (List Value)) (l1:=fun _ yB=>[(2,.aL dh),(5,.aL hL),(7,.i yB)]) (fun ((ma,mq,k5,sJ):(Option Addr) × (Nat) × (List J.Field) × (List Value))=>[aq.row 105 3 (.q ma mq k5) k5 sJ,aq.br hL 106 [.q ma mq k5],aq.br dh 118 [.aL a7]]) (fun ((ma,mq,k5,sJ):(Option Addr) × (Nat) × (List J.Field) × (List Value))=>[al.rows J.aW sJ k5,al.cM cy [.q bB bC rn],U (ak .i64) bB bC rn,al.cM a7 [.q bd bn x_.l,.map (some b9),.q aR aU x_.b3],U J.a' bd bn x_.l,al.map dn (Value.int .i64) b9 x_.cA,U (ak .i64) aR aU x_.b3]) (fun (ML:fq) ((ma,mq,k5,sJ):(Option Addr) × (Nat) × (List J.Field) × (List Value))=>J.xY x_ ML k5=some aEw) rn (none,0,[],[]) 1 2 abp Tryz.call134 I rfl rfl rfl (hm.eA [0,1,2,4,5,6,7]) TL (fun b=>by obtain ⟨_,_,_,_⟩:=b;rfl) (fun b=>by obtain ⟨_,_,_,_⟩:=b;rfl) ?_ ?_ ?_
 · clear h TL hm I;intro L aEc yB w a K I hn;refine o6 (by kernel_rfl) <| aN 1 [] [(7,.i yB)] I fun a I=>wpList_nil ?_;exact hn _ I.cut
 · clear h TL hm I;intro L j7 p' kV qa b aEc yB ML w a K h I hm hn;obtain ⟨ma,mq,k5,sJ⟩:=b;dsimp only at h hm;rw [J.xY] at h;refine X8 <| aga (m:=11) 9 (ba []) (by kernel_rfl) rfl (by kernel_rfl) fun w ad=>?_;have hm:=hm.dw ad;clear ad;have bh:=hm;have aB:=ba.refl [] w;refine ch [0,1,2,3,4,5] 6 [0,0,1,0,2,0] [(14,.q ma mq k5),(18,.q bd bn x_.l),(19,.i yB)] [a7,0,dh,0,hL,0] (fun a6 ad=>(av (b2 ad (a2 (bh.e 3 rfl))) (av (b2 ad (a2 (bh.e 4 rfl))) (av (b2 ad (bh.d 3 rfl).2.2) aw)))) I aB fun a I=>?_;obtain ⟨yH,aDL,h⟩:=J.aH h
   obtain ⟨am6,axW,_,⟨sW,tr,Zx,aa7,rfl,K4,ac3⟩,atG⟩:=bX _ (bh.d 4 rfl) aDL;have bh:=bh.more (y:=U J.aW sW tr yH.Fields) K4;have hm:=hm.more (y:=U J.aW sW tr yH.Fields) K4;have bh:=bh.more (y:=U J.b4 Zx aa7 yH.aQ) ac3;have hm:=hm.more (y:=U J.b4 Zx aa7 yH.aQ) ac3;refine eM 6 rfl (by kernel_rfl) wn (fun a6=>bF Tryz.underlying25 Tryz.sizeOf136 rfl (I.g rfl) (I.g rfl) am6 axW) aB I rfl rfl fun a I=>?_
   refine ch [7,8] 2 [0,2] [(22,.q sW tr yH.Fields)] [bG bd,bH bd+(yB).toNat* 4 + 2] (fun a6 ad=>(av (b2 ad atG) aw)) I aB fun a I=>da 9 rfl (by kernel_rfl) (fun _=>aB) ?_;obtain ⟨L6,ay2,h⟩:=J.aH h;refine rr (T:=J.aW) 2 2 1 hm rfl rfl rfl Tryz.underlying106 UF rfl rfl ay2 rfl wn rfl (I.g rfl) (I.g rfl) I rfl rfl fun a vK w3 agP w I hm=>c5 ?_;clear bh aB;have bh:=hm;have aB:=ba.refl [] w;refine eC.next 10 (ba [] w) (by kernel_rfl) <| da 10 rfl (by kernel_rfl) (fun _=>aB) ?_
   refine cX (vs:=[.q vK w3 L6]) 3 hm rfl wn rfl Tryz.sizeOf106 rfl rfl rfl rfl (I.g rfl) (I.g rfl) rfl fun w hm=>c5 ?_;clear bh aB;have bh:=hm;have aB:=ba.refl [] w;refine eC.next 11 (ba [] w) (by kernel_rfl) <| fm (by kernel_rfl) ?_ (fun _=>aB);clear bh aB;have I:=I.cut (l':=[]);exact hn (vK,w3,L6,agP) _ _ h (hm.eA [0,4,5,6,7,8,9])
 clear hm I;intro aJF b a w TM I hm;obtain ⟨ma,mq,k5,sJ⟩:=b;dsimp only at TM hm;rw [J.xY] at TM;obtain rfl:=ay TM;have I:=I.cut (l':=[(5,.aL hL)]);refine cb _ _ <| wp_seq_k fun K cp=>rg [0,0] [(4,.q ma mq k5)] [hL,0] (av (a2 (hm.e 2 rfl)) aw) I fun a I=>cp _ _ <| wp_ret ?_;obtain rfl:=ay h;refine aET 0 Tryz.results82 I hm rfl rfl fun w hm=>?_;exact ⟨ma,mq,sJ,rfl,hm.aX [1] [0]⟩
theorem ai1 {W:World} {X:List Nat} {F:Nat} {x_:J.df} {r:Int} {a7:Nat} {bd:aP} {bn:Nat} {b9:Nat} {aR:aP} {aU:Nat} {M0:List Nat} (hm:ar W M0 X W [] [al.cM a7 [.q bd bn x_.l,.map (some b9),.q aR aU x_.b3],U J.a' bd bn x_.l,al.map dn (Value.int .i64) b9 x_.cA,U (ak .i64) aR aU x_.b3]) (h:J.L9 F x_=some r) :
 Calls Tryz.prog 77 [.aL a7].toArray W (fun e aF=>e= .returned (.i r)/\ar W M0 X aF [] []):=by
 refine enter Tryz.func77 rfl Tryz.ntmps77 rfl fun a I=>?_;rw [J.L9] at h;refine bb [] [] I fun a I=>wp_seq_k fun K bN=>aY <| bi 4 [0,1] [(8,.map (some b9))] [a7,1] (av (hm.d 0 rfl).2.2 aw) I fun a I=>bQ wn (I3 (K:=dn) (ev:=(Value.int .i64)) Tryz.underlying120 Tryz.underlying9 Tryz.zeroValue3 ((hm.d 2 rfl).2.2) rfl (I.g rfl) (cW _ _)) I rfl rfl fun a I=>aN 1 [] [(3,.i ((J.dp x_.cA [69,114,114,111,114]).getD 0))] I fun a I=>wpList_nil (bN _ _ ?_);refine wp_seq_k fun K cb=>aY ?_
 refine aN 2 [] [(10,.aL a7),(11,.i ((J.dp x_.cA [69,114,114,111,114]).getD 0))] I fun a I=>?_;obtain ⟨dH,z6,h⟩:=J.aH h;have hc:=hm;refine bP (vs:=[.aL a7,.i ((J.dp x_.cA [69,114,114,111,114]).getD 0)]) wn rfl Tryz.call82 ⟨(I.g rfl),(I.g rfl),trivial⟩ (Qb ((hc.into 0).pick ⟨⟨0,rfl⟩,⟨1,rfl⟩,⟨2,rfl⟩,⟨3,rfl⟩,trivial⟩) z6) I rfl rfl ?_;rintro _ w ⟨bg,bj,yI,rfl,af⟩;refine ⟨_,rfl,fun a I=>?_⟩;have hm:=hc.back 0 af;clear af hc;refine aN 1 [] [(4,.q bg bj dH)] I fun a I=>wpList_nil (cb _ _ ?_)
 refine wp_seq_k fun K c3=>wp_seq_k fun K cp=>aY <| bi 5 [0,0] [(16,.q bd bn x_.l),(17,.i ((J.dp x_.cA [69,114,114,111,114]).getD 0))] [a7,0] (av (hm.d 1 rfl).2.2 aw) I fun a I=>?_;obtain ⟨Dq,aBI,h⟩:=J.aH h;obtain ⟨akZ,avT,_,⟨e4,ff,dR,ey,rfl,aul,aum⟩,arH⟩:=bX _ (hm.d 2 rfl) aBI;have hm:=hm.more (y:=U J.aW e4 ff Dq.Fields) aul;have hm:=hm.more (y:=U J.b4 dR ey Dq.aQ) aum;refine bQ wn (bF Tryz.underlying25 Tryz.sizeOf136 rfl (I.g rfl) (I.g rfl) akZ avT) I rfl rfl fun a I=>?_
 refine bi 9 [0,1,0,0,0,0] [(27,.bool ((!decide (Dq.bZ= [79,98,106,101,99,116])) || (decide ((dH.length:Int)= 0))))] [bG bd,bH bd+((J.dp x_.cA [69,114,114,111,114]).getD 0).toNat* 4 + 1] (av arH aw) I fun a I=>?_;rcases Bool.eq_false_or_eq_true ((!decide (Dq.bZ= [79,98,106,101,99,116])) || (decide ((dH.length:Int)= 0))) with F4 | F4
 · have h:=J.dj F4 h;have I:=I.b6 27 rfl F4;refine eu 7 [1,1,1,1,1,1,1] [(34,.bool true)] I fun a I=>wpList_nil (cp _ _ ?_);refine eG (I.g rfl) rfl <| bt [] [(2,.i 4)] I fun a I=>wp_ret ?_;obtain rfl:=ay h;refine aj <| bq Tryz.results77 I rfl ?_;exact ⟨rfl,hm.aX [] []⟩
 have h:=J.di F4 h;have I:=I.b6 27 rfl F4;refine aN 1 [1] [(28,.q bg bj dH)] I fun a I=>?_;obtain ⟨Yb,aCk,h⟩:=J.aH h;obtain ⟨alB,awr,_,rfl,asb⟩:=gN (hm.e 0 rfl) (hm.d 2 rfl) aCk;refine bQ (cV I rfl rfl rfl rfl) (bF Tryz.underlying106 Tryz.sizeOf105 rfl (I.g rfl) (cW _ _) alB awr) I rfl rfl fun a I=>jT 5 [1,1,1,0,1,1,1] [(34,.bool (!decide (Yb.Kind.Kind= 1)))] [bG bg,bH bg+(0 :Int).toNat* 3 + 1 + 0] (av asb aw) I fun a I=>wpList_nil (cp _ _ ?_);refine bk (I.g rfl) h (fun zF h=>?_) (fun zF h=>?_)
 · refine bt [] [(2,.i 4)] I fun a I=>wp_ret ?_;obtain rfl:=ay h;refine aj <| bq Tryz.results77 I rfl ?_;exact ⟨rfl,hm.aX [] []⟩
 refine wp_skip <| c3 _ _ <| bt [] [(2,.i 0)] I fun a I=>wp_ret ?_;obtain rfl:=ay h;refine bq Tryz.results77 I rfl ?_;exact ⟨rfl,hm.aX [] []⟩
theorem Qc {W:World} {X:List Nat} {aa:J.Kind} {q1_:List (List UInt8)} {r:List (List UInt8)} {kW:Nat} {aK:aP} {aO:Nat} {Ow:List Value} {M0:List Nat} (hm:ar W M0 X W [aq.br kW 125 [.q aK aO q1_],aq.row 9 1 (.q aK aO q1_) q1_ Ow] [al.rows bE Ow q1_]) (h:J.Al aa q1_=some r) :
 Calls Tryz.prog 103 [.agg #[.i aa.Kind,ao aa.aM],.aL kW].toArray W (fun e aF=>∃ ct:Option Addr,∃ cu:Nat,∃ Oa:List Value,e= .returned (.tuple #[])/\ar W M0 X aF [aq.br kW 125 [.q ct cu r],aq.row 9 1 (.q ct cu r) r Oa] [al.rows bE Oa r]):=by
 refine enter Tryz.func103 rfl Tryz.ntmps103 rfl fun a I=>?_;rw [J.Al] at h;refine wp_seq_k fun K c6=>aY <| cD (cs:=[.i aa.Kind,ao aa.aM]) wn (ei rfl rfl (I.g rfl)) I hm rfl rfl fun a Qy w _ I hm=>wpList_nil <| c6 _ _ <| wp_seq_k fun K bN=>eE [0,1] [(5,.bool (!decide (aa.aM= [])))] [Qy,1] (av (a2 (hm.e 0 rfl)) aw) I fun a I=>bN _ _ <| bk (I.g rfl) h (fun Gx h=>?_) (fun Gx h=>?_)
 · refine aY <| bi 3 [0,0,1,1] [(6,.q aK aO q1_),(8,ao aa.aM)] [Qy,1,kW,0] (av (a2 (hm.e 1 rfl)) (av (a2 (hm.e 0 rfl)) aw)) I fun a I=>gq (cs:=[ao aa.aM]) wn (fU (vs:=[(0,ao aa.aM)]) Tryz.underlying125 Tryz.sizeOf9 Tryz.zeroValue9 rfl rfl rfl ⟨⟨(I.g rfl),rfl⟩,trivial⟩ (by kernel_rfl)) I hm rfl rfl fun a hL w _ I hm=>?_;obtain ⟨Ws,ayi,h⟩:=J.aH h;refine iH (T:=bE) (ml:=[aa.aM]) 3 0 0 hm rfl rfl rfl Tryz.underlying125 xR rfl rfl ayi rfl rfl ⟨_,_,rfl,rfl,rfl⟩ wn rfl (I.g rfl) (I.g rfl) I rfl rfl fun a bB bC agr w I hm=>?_
   refine cX (vs:=[.q bB bC Ws]) 1 hm rfl wn rfl Tryz.sizeOf125 rfl rfl rfl rfl (I.g rfl) (I.g rfl) rfl fun w hm=>wpList_nil ?_;have I:=I.cut (l':=[]);refine y9 ?_;obtain rfl:=ay h;refine AA Tryz.results103 I ?_;exact ⟨bB,bC,agr,rfl,hm.aX [1,2] [0]⟩
 refine wp_skip <| y9 ?_;obtain rfl:=ay h;refine AA Tryz.results103 I ?_;exact ⟨aK,aO,Ow,rfl,hm.aX [1,2] [0]⟩
theorem ai6 {W:World} {X:List Nat} {F:Nat} {x_:J.df} {r:Int} {a7:Nat} {bd:aP} {bn:Nat} {b9:Nat} {aR:aP} {aU:Nat} {M0:List Nat} (hm:ar W M0 X W [] [al.cM a7 [.q bd bn x_.l,.map (some b9),.q aR aU x_.b3],U J.a' bd bn x_.l,al.map dn (Value.int .i64) b9 x_.cA,U (ak .i64) aR aU x_.b3]) (h:J.HG F x_=some r) :
 Calls Tryz.prog 78 [.aL a7].toArray W (fun e aF=>e= .returned (.i r)/\ar W M0 X aF [] []):=by
 refine enter Tryz.func78 rfl Tryz.ntmps78 rfl fun a I=>?_;rw [J.HG] at h;refine bb [] [] I fun a I=>wp_seq_k fun K bN=>aY <| cD (cs:=[.slice none 0 0]) wn (eQ Tryz.zeroValue125 rfl rfl) I hm rfl rfl fun a dh w _ I hm=>wpList_nil <| bN _ _ <| bb [] [(4,.func (.func 103) #[] #[.aL dh])] I fun a I=>wp_seq_k fun K c3=>wp_seq_k fun K cp=>eE [0,0] [(23,.q bd bn x_.l),(24,.i (x_.l.length:Int)),(25,.i 0)] [a7,0] (av (hm.d 0 rfl).2.2 aw) I fun a I=>cp _ _ ?_
 have hm:=hm.cO (α:=List UInt8) 9 1;have hm:=hm.more (y:=al.rows bE [] []) rfl;obtain ⟨VA,h,S0⟩:=J.aH h;refine ca (fun a w=>∃ (qp:aP) (tk:Nat) (hN:List (List UInt8)) (A0:dy),Fr ⟨96,[]⟩ [(0,.aL a7),(3,.aL dh)] a/\ar W M0 X w [aq.row 9 1 (.q qp tk hN) hN A0,aq.br dh 125 [.q qp tk hN]] [al.rows bE A0 hN,al.cM a7 [.q bd bn x_.l,.map (some b9),.q aR aU x_.b3],U J.a' bd bn x_.l,al.map dn (Value.int .i64) b9 x_.cA,U (ak .i64) aR aU x_.b3]/\VA=hN) (fun K dE=>?_) ?_
 · clear S0
   refine cw (fun (bu:Nat) a w=>∃ (Bk:aP) (BZ:Nat) (pL:List (List UInt8)) (DH:dy) (hQ:Int),Fr ⟨96,[]⟩ [(0,.aL a7),(3,.aL dh),(4,.func (.func 103) #[] #[.aL dh]),(23,.q bd bn x_.l),(24,.i (x_.l.length:Int)),(25,.i hQ)] a/\ar W M0 X w [aq.row 9 1 (.q Bk BZ pL) pL DH,aq.br dh 125 [.q Bk BZ pL]] [al.rows bE DH pL,al.cM a7 [.q bd bn x_.l,.map (some b9),.q aR aU x_.b3],U J.a' bd bn x_.l,al.map dn (Value.int .i64) b9 x_.cA,U (ak .i64) aR aU x_.b3]/\J.uW F x_ bu pL hQ=some VA) F ⟨none,0,[],[],0,I.cut,hm,h⟩ ?_ ?_
   · rintro a w ⟨Bk,BZ,pL,DH,hQ,I,hm,h⟩;exact absurd h (by simp [J.uW])
   rintro bu a w ⟨Bk,BZ,pL,DH,hQ,I,hm,h⟩ K dl;rw [J.uW] at h;refine bb [] [(26,.bool (decide (hQ <(x_.l.length:Int))))] I fun a I=>wp_seq_k fun K dq=>bk (I.g rfl) h (fun aqB h=>?_) (fun aqB h=>?_)
   · refine wp_skip <| dq _ _ <| wp_seq_k fun K dc=>?_;obtain ⟨aeq,h,Ti⟩:=J.aH h
     refine ca (fun a w=>∃ (Jj:aP) (J5:Nat) (uv:List (List UInt8)) (Ot:dy),Fr ⟨96,[]⟩ [(0,.aL a7),(3,.aL dh),(4,.func (.func 103) #[] #[.aL dh]),(23,.q bd bn x_.l),(24,.i (x_.l.length:Int)),(25,.i hQ)] a/\ar W M0 X w [aq.row 9 1 (.q Jj J5 uv) uv Ot,aq.br dh 125 [.q Jj J5 uv]] [al.rows bE Ot uv,al.cM a7 [.q bd bn x_.l,.map (some b9),.q aR aU x_.b3],U J.a' bd bn x_.l,al.map dn (Value.int .i64) b9 x_.cA,U (ak .i64) aR aU x_.b3]/\aeq=uv) (fun K dC=>?_) ?_
     · clear Ti;refine wp_seq_k fun K dS=>aY ?_;obtain ⟨cE,aDg,h⟩:=J.aH h;obtain ⟨amx,axm,_,⟨hJ,ic,gw,gW,rfl,au1,au2⟩,as8⟩:=bX _ (hm.d 2 rfl) aDg;have hm:=hm.more (y:=U J.aW hJ ic cE.Fields) au1;have hm:=hm.more (y:=U J.b4 gw gW cE.aQ) au2;refine bQ wn (bF Tryz.underlying25 Tryz.sizeOf136 rfl (I.g rfl) (I.g rfl) amx axm) I rfl rfl fun a I=>?_
       refine bi 1 [0,0] [(28,.agg #[ao cE.Name,ao cE.bZ,.q hJ ic cE.Fields,.q gw gW cE.aQ])] [bG bd,bH bd+(hQ).toNat* 4] (av as8 aw) I fun a I=>cD (cs:=[ao [],ao [],.slice none 0 0,.slice none 0 0]) wn (eQ Tryz.zeroValue136 rfl rfl) I hm rfl rfl fun a nw w _ I hm=>cX (vs:=[ao cE.Name,ao cE.bZ,.q hJ ic cE.Fields,.q gw gW cE.aQ]) 0 hm rfl wn rfl Tryz.sizeOf136 rfl rfl rfl rfl (I.g rfl) (I.g rfl) rfl fun w hm=>wpList_nil <| dS _ _ <| wp_seq_k fun K dL=>?_
       refine wp_seq_k fun K ft=>eE [0,2] [(30,.q hJ ic cE.Fields),(31,.i (cE.Fields.length:Int)),(32,.i 0)] [nw,2] (av (a2 (hm.e 0 rfl)) aw) I fun a I=>ft _ _ ?_;obtain ⟨VS,h,Tj⟩:=J.aH h
       refine ca (fun a w=>∃ (Jk:aP) (J6:Nat) (uw:List (List UInt8)) (Ou:dy),Fr ⟨96,[]⟩ [(0,.aL a7),(3,.aL dh),(4,.func (.func 103) #[] #[.aL dh]),(6,.aL nw),(23,.q bd bn x_.l),(24,.i (x_.l.length:Int)),(25,.i hQ)] a/\ar W M0 X w [aq.br nw 136 [ao cE.Name,ao cE.bZ,.q hJ ic cE.Fields,.q gw gW cE.aQ],aq.row 9 1 (.q Jk J6 uw) uw Ou,aq.br dh 125 [.q Jk J6 uw]] [al.rows bE Ou uw,U J.b4 gw gW cE.aQ,U J.aW hJ ic cE.Fields,al.cM a7 [.q bd bn x_.l,.map (some b9),.q aR aU x_.b3],U J.a' bd bn x_.l,al.map dn (Value.int .i64) b9 x_.cA,U (ak .i64) aR aU x_.b3]/\VS=uw) (fun K eX=>?_) ?_
       · clear Tj
         refine cw (fun (c7:Nat) a w=>∃ (Ed:aP) (E9:Nat) (q8:List (List UInt8)) (IX:dy) (oX:Int),Fr ⟨96,[]⟩ [(0,.aL a7),(3,.aL dh),(4,.func (.func 103) #[] #[.aL dh]),(6,.aL nw),(23,.q bd bn x_.l),(24,.i (x_.l.length:Int)),(25,.i hQ),(30,.q hJ ic cE.Fields),(31,.i (cE.Fields.length:Int)),(32,.i oX)] a/\ar W M0 X w [aq.br nw 136 [ao cE.Name,ao cE.bZ,.q hJ ic cE.Fields,.q gw gW cE.aQ],aq.row 9 1 (.q Ed E9 q8) q8 IX,aq.br dh 125 [.q Ed E9 q8]] [al.rows bE IX q8,U J.b4 gw gW cE.aQ,U J.aW hJ ic cE.Fields,al.cM a7 [.q bd bn x_.l,.map (some b9),.q aR aU x_.b3],U J.a' bd bn x_.l,al.map dn (Value.int .i64) b9 x_.cA,U (ak .i64) aR aU x_.b3]/\J.uX cE c7 q8 oX=some VS) F ⟨Bk,BZ,pL,DH,0,I.cut,hm.eA [2,0,1,3,4,5,6],h⟩ ?_ ?_
         · rintro a w ⟨Ed,E9,q8,IX,oX,I,hm,h⟩;exact absurd h (by simp [J.uX])
         rintro c7 a w ⟨Ed,E9,q8,IX,oX,I,hm,h⟩ K gx;rw [J.uX] at h;refine bb [] [(33,.bool (decide (oX <(cE.Fields.length:Int))))] I fun a I=>wp_seq_k fun K fu=>bk (I.g rfl) h (fun aqF h=>?_) (fun aqF h=>?_)
         · refine wp_skip <| fu _ _ <| wp_seq_k fun K fK=>wp_block <| wp_seq_k fun K fR=>aY ?_;obtain ⟨o8,aDh,h⟩:=J.aH h;obtain ⟨amy,axo,_,rfl,as9⟩:=bX _ (hm.d 2 rfl) aDh;refine bQ wn (bF Tryz.underlying106 Tryz.sizeOf105 rfl (I.g rfl) (I.g rfl) amy axo) I rfl rfl fun a I=>bi 1 [0,0] [(35,.agg #[ao o8.Name,.i o8.Kind.Kind,ao o8.Kind.aM])] [bG hJ,bH hJ+(oX).toNat* 3] (av as9 aw) I fun a I=>cD (cs:=[ao [],.i 0,ao []]) wn (eQ Tryz.zeroValue105 rfl rfl) I hm rfl rfl fun a akA w _ I hm=>?_
           refine cX (vs:=[ao o8.Name,.i o8.Kind.Kind,ao o8.Kind.aM]) 0 hm rfl wn rfl Tryz.sizeOf105 rfl rfl rfl rfl (I.g rfl) (I.g rfl) rfl fun w hm=>wpList_nil <| fR _ _ <| aY <| bi 3 [0,1] [(36,.func (.func 103) #[] #[.aL dh]),(38,.agg #[.i o8.Kind.Kind,ao o8.Kind.aM])] [akA,1] (av (a2 (hm.e 0 rfl)) aw) I fun a I=>?_;obtain ⟨Xv,aAJ,h⟩:=J.aH h;have hc:=hm.kM [3,2,0,1] rfl rfl
           refine lj (f:=103) (vs:=[.agg #[.i o8.Kind.Kind,ao o8.Kind.aM]]) (us:=[]) (cs:=[.aL dh]) wn rfl Tryz.call103 (I.g rfl) ⟨(I.g rfl),trivial⟩ (Qc ((hc.into 2).pick ⟨⟨0,rfl⟩,trivial⟩) aAJ) I rfl rfl ?_;rintro _ w ⟨ahd,ah_,aHy,rfl,af⟩;refine ⟨_,rfl,fun a I=>?_⟩;have hm:=hc.back 2 af;clear af hc;refine wpList_nil ?_
           have I:=I.cut (l':=[(0,.aL a7),(3,.aL dh),(4,.func (.func 103) #[] #[.aL dh]),(6,.aL nw),(23,.q bd bn x_.l),(24,.i (x_.l.length:Int)),(25,.i hQ),(30,.q hJ ic cE.Fields),(31,.i (cE.Fields.length:Int)),(32,.i oX)]);refine fK _ _ <| cg [] [(32,.i (J.ap (oX+ 1)))] I fun a I=>?_;exact gx _ _ ⟨ahd,ah_,Xv,aHy,J.ap (oX+ 1),I.cut,hm.aX [3,1,0] [0,2,3,4,5,6,7],h⟩
         refine wp_exit <| bz (bz (cr ?_));exact eX _ _ ⟨Ed,E9,q8,IX,I.cut,hm,(os h)⟩
       rintro a w ⟨Jk,J6,uw,Ou,I,hm,bc⟩;subst VS;have h:=Tj;clear Tj;refine dL _ _ <| wp_seq_k fun K gm=>eE [0,3] [(42,.q gw gW cE.aQ),(43,.i (cE.aQ.length:Int)),(44,.i 0)] [nw,3] (av (a2 (hm.e 0 rfl)) aw) I fun a I=>gm _ _ ?_;obtain ⟨VU,h,Tm⟩:=J.aH h
       refine ca (fun a w=>∃ (Jl:aP) (J7:Nat) (ux:List (List UInt8)) (Ox:dy),Fr ⟨96,[]⟩ [(0,.aL a7),(3,.aL dh),(4,.func (.func 103) #[] #[.aL dh]),(23,.q bd bn x_.l),(24,.i (x_.l.length:Int)),(25,.i hQ)] a/\ar W M0 X w [aq.br nw 136 [ao cE.Name,ao cE.bZ,.q hJ ic cE.Fields,.q gw gW cE.aQ],aq.row 9 1 (.q Jl J7 ux) ux Ox,aq.br dh 125 [.q Jl J7 ux]] [al.rows bE Ox ux,U J.b4 gw gW cE.aQ,U J.aW hJ ic cE.Fields,al.cM a7 [.q bd bn x_.l,.map (some b9),.q aR aU x_.b3],U J.a' bd bn x_.l,al.map dn (Value.int .i64) b9 x_.cA,U (ak .i64) aR aU x_.b3]/\VU=ux) (fun K gK=>?_) ?_
       · clear Tm
         refine cw (fun (et:Nat) a w=>∃ (Bo:aP) (B3:Nat) (pP:List (List UInt8)) (DK:dy) (jN:Int),Fr ⟨96,[]⟩ [(0,.aL a7),(3,.aL dh),(4,.func (.func 103) #[] #[.aL dh]),(23,.q bd bn x_.l),(24,.i (x_.l.length:Int)),(25,.i hQ),(42,.q gw gW cE.aQ),(43,.i (cE.aQ.length:Int)),(44,.i jN)] a/\ar W M0 X w [aq.br nw 136 [ao cE.Name,ao cE.bZ,.q hJ ic cE.Fields,.q gw gW cE.aQ],aq.row 9 1 (.q Bo B3 pP) pP DK,aq.br dh 125 [.q Bo B3 pP]] [al.rows bE DK pP,U J.b4 gw gW cE.aQ,U J.aW hJ ic cE.Fields,al.cM a7 [.q bd bn x_.l,.map (some b9),.q aR aU x_.b3],U J.a' bd bn x_.l,al.map dn (Value.int .i64) b9 x_.cA,U (ak .i64) aR aU x_.b3]/\J.uY F cE et pP jN=some VU) F ⟨Jk,J6,uw,Ou,0,I.cut,hm,h⟩ ?_ ?_
         · rintro a w ⟨Bo,B3,pP,DK,jN,I,hm,h⟩;exact absurd h (by simp [J.uY])
         rintro et a w ⟨Bo,B3,pP,DK,jN,I,hm,h⟩ K hB;rw [J.uY] at h;refine bb [] [(45,.bool (decide (jN <(cE.aQ.length:Int))))] I fun a I=>wp_seq_k fun K ho=>bk (I.g rfl) h (fun aqK h=>?_) (fun aqK h=>?_)
         · refine wp_skip <| ho _ _ <| wp_seq_k fun K hp=>?_;obtain ⟨aes,h,Tn⟩:=J.aH h
           refine ca (fun a w=>∃ (Jm:aP) (J8:Nat) (uy:List (List UInt8)) (Oy:dy),Fr ⟨96,[]⟩ [(0,.aL a7),(3,.aL dh),(4,.func (.func 103) #[] #[.aL dh]),(23,.q bd bn x_.l),(24,.i (x_.l.length:Int)),(25,.i hQ),(42,.q gw gW cE.aQ),(43,.i (cE.aQ.length:Int)),(44,.i jN)] a/\ar W M0 X w [aq.br nw 136 [ao cE.Name,ao cE.bZ,.q hJ ic cE.Fields,.q gw gW cE.aQ],aq.row 9 1 (.q Jm J8 uy) uy Oy,aq.br dh 125 [.q Jm J8 uy]] [al.rows bE Oy uy,U J.b4 gw gW cE.aQ,U J.aW hJ ic cE.Fields,al.cM a7 [.q bd bn x_.l,.map (some b9),.q aR aU x_.b3],U J.a' bd bn x_.l,al.map dn (Value.int .i64) b9 x_.cA,U (ak .i64) aR aU x_.b3]/\aes=uy) (fun K hq=>?_) ?_
           · clear Tn;refine wp_seq_k fun K jC=>aY ?_;obtain ⟨cS,aDn,h⟩:=J.aH h;obtain ⟨amD,axt,_,⟨lr,nk,ls,nl,rfl,au3,au4⟩,atd⟩:=bX _ (hm.d 1 rfl) aDn;have hm:=hm.more (y:=U J.dt lr nk cS.bI) au3;have hm:=hm.more (y:=U J.eg ls nl cS.bK) au4;refine bQ wn (bF Tryz.underlying134 Tryz.sizeOf133 rfl (I.g rfl) (I.g rfl) amD axt) I rfl rfl fun a I=>?_
             refine bi 1 [0,0] [(47,.agg #[ao cS.Name,.bool cS.Static,.q lr nk cS.bI,.i cS.Returns.Kind,ao cS.Returns.aM,.i cS.cR,.i cS.cQ,ao cS.Code,.q ls nl cS.bK])] [bG gw,bH gw+(jN).toNat* 9] (av atd aw) I fun a I=>cD (cs:=[ao [],.bool false,.slice none 0 0,.i 0,ao [],.i 0,.i 0,ao [],.slice none 0 0]) wn (eQ Tryz.zeroValue133 rfl rfl) I hm rfl rfl fun a qM w _ I hm=>?_
             refine cX (vs:=[ao cS.Name,.bool cS.Static,.q lr nk cS.bI,.i cS.Returns.Kind,ao cS.Returns.aM,.i cS.cR,.i cS.cQ,ao cS.Code,.q ls nl cS.bK]) 0 hm rfl wn rfl Tryz.sizeOf133 rfl rfl rfl rfl (I.g rfl) (I.g rfl) rfl fun w hm=>wpList_nil <| jC _ _ <| wp_seq_k fun K jl=>wp_seq_k fun K my=>eE [0,2] [(49,.q lr nk cS.bI),(50,.i (cS.bI.length:Int)),(51,.i 0)] [qM,2] (av (a2 (hm.e 0 rfl)) aw) I fun a I=>my _ _ ?_;obtain ⟨VV,h,Tp⟩:=J.aH h
             refine ca (fun a w=>∃ (Pg:aP) (PV:Nat) (xT:List (List UInt8)) (Yp:dy),Fr ⟨96,[]⟩ [(0,.aL a7),(3,.aL dh),(4,.func (.func 103) #[] #[.aL dh]),(10,.aL qM),(23,.q bd bn x_.l),(24,.i (x_.l.length:Int)),(25,.i hQ),(42,.q gw gW cE.aQ),(43,.i (cE.aQ.length:Int)),(44,.i jN)] a/\ar W M0 X w [aq.br qM 133 [ao cS.Name,.bool cS.Static,.q lr nk cS.bI,.i cS.Returns.Kind,ao cS.Returns.aM,.i cS.cR,.i cS.cQ,ao cS.Code,.q ls nl cS.bK],aq.br nw 136 [ao cE.Name,ao cE.bZ,.q hJ ic cE.Fields,.q gw gW cE.aQ],aq.row 9 1 (.q Pg PV xT) xT Yp,aq.br dh 125 [.q Pg PV xT]] [al.rows bE Yp xT,U J.eg ls nl cS.bK,U J.dt lr nk cS.bI,U J.b4 gw gW cE.aQ,U J.aW hJ ic cE.Fields,al.cM a7 [.q bd bn x_.l,.map (some b9),.q aR aU x_.b3],U J.a' bd bn x_.l,al.map dn (Value.int .i64) b9 x_.cA,U (ak .i64) aR aU x_.b3]/\VV=xT) (fun K jD=>?_) ?_
             · clear Tp
               refine cw (fun (fy:Nat) a w=>∃ (Ef:aP) (E':Nat) (q9:List (List UInt8)) (IY:dy) (oZ:Int),Fr ⟨96,[]⟩ [(0,.aL a7),(3,.aL dh),(4,.func (.func 103) #[] #[.aL dh]),(10,.aL qM),(23,.q bd bn x_.l),(24,.i (x_.l.length:Int)),(25,.i hQ),(42,.q gw gW cE.aQ),(43,.i (cE.aQ.length:Int)),(44,.i jN),(49,.q lr nk cS.bI),(50,.i (cS.bI.length:Int)),(51,.i oZ)] a/\ar W M0 X w [aq.br qM 133 [ao cS.Name,.bool cS.Static,.q lr nk cS.bI,.i cS.Returns.Kind,ao cS.Returns.aM,.i cS.cR,.i cS.cQ,ao cS.Code,.q ls nl cS.bK],aq.br nw 136 [ao cE.Name,ao cE.bZ,.q hJ ic cE.Fields,.q gw gW cE.aQ],aq.row 9 1 (.q Ef E' q9) q9 IY,aq.br dh 125 [.q Ef E' q9]] [al.rows bE IY q9,U J.eg ls nl cS.bK,U J.dt lr nk cS.bI,U J.b4 gw gW cE.aQ,U J.aW hJ ic cE.Fields,al.cM a7 [.q bd bn x_.l,.map (some b9),.q aR aU x_.b3],U J.a' bd bn x_.l,al.map dn (Value.int .i64) b9 x_.cA,U (ak .i64) aR aU x_.b3]/\J.uZ cS fy q9 oZ=some VV) F ⟨Bo,B3,pP,DK,0,I.cut,hm.eA [2,0,1,3,4,5,6,7,8],h⟩ ?_ ?_
               · rintro a w ⟨Ef,E',q9,IY,oZ,I,hm,h⟩;exact absurd h (by simp [J.uZ])
               rintro fy a w ⟨Ef,E',q9,IY,oZ,I,hm,h⟩ K jE;rw [J.uZ] at h;refine bb [] [(52,.bool (decide (oZ <(cS.bI.length:Int))))] I fun a I=>wp_seq_k fun K j_=>bk (I.g rfl) h (fun aqL h=>?_) (fun aqL h=>?_)
               · refine wp_skip <| j_ _ _ <| wp_seq_k fun K ny=>wp_block <| wp_seq_k fun K ot=>aY ?_;obtain ⟨rC,aDo,h⟩:=J.aH h;obtain ⟨amE,axu,_,rfl,ate⟩:=bX _ (hm.d 2 rfl) aDo;refine bQ wn (bF Tryz.underlying130 Tryz.sizeOf103 rfl (I.g rfl) (I.g rfl) amE axu) I rfl rfl fun a I=>bi 1 [0,0] [(54,.agg #[.i rC.Kind,ao rC.aM])] [bG lr,bH lr+(oZ).toNat* 2] (av ate aw) I fun a I=>cD (cs:=[.i 0,ao []]) wn (eQ Tryz.zeroValue103 rfl rfl) I hm rfl rfl fun a akB w _ I hm=>?_
                 refine cX (vs:=[.i rC.Kind,ao rC.aM]) 0 hm rfl wn rfl Tryz.sizeOf103 rfl rfl rfl rfl (I.g rfl) (I.g rfl) rfl fun w hm=>wpList_nil <| ot _ _ <| aY <| bi 2 [0,0] [(55,.func (.func 103) #[] #[.aL dh]),(56,.agg #[.i rC.Kind,ao rC.aM])] [akB,0] (av (a2 (hm.e 0 rfl)) aw) I fun a I=>?_;obtain ⟨Xy,aAO,h⟩:=J.aH h;have hc:=hm.kM [4,3,0,1,2] rfl rfl
                 refine lj (f:=103) (vs:=[.agg #[.i rC.Kind,ao rC.aM]]) (us:=[]) (cs:=[.aL dh]) wn rfl Tryz.call103 (I.g rfl) ⟨(I.g rfl),trivial⟩ (Qc ((hc.into 2).pick ⟨⟨0,rfl⟩,trivial⟩) aAO) I rfl rfl ?_;rintro _ w ⟨ahe,ah',aHA,rfl,af⟩;refine ⟨_,rfl,fun a I=>?_⟩;have hm:=hc.back 2 af;clear af hc;refine wpList_nil ?_
                 have I:=I.cut (l':=[(0,.aL a7),(3,.aL dh),(4,.func (.func 103) #[] #[.aL dh]),(10,.aL qM),(23,.q bd bn x_.l),(24,.i (x_.l.length:Int)),(25,.i hQ),(42,.q gw gW cE.aQ),(43,.i (cE.aQ.length:Int)),(44,.i jN),(49,.q lr nk cS.bI),(50,.i (cS.bI.length:Int)),(51,.i oZ)]);refine ny _ _ <| cg [] [(51,.i (J.ap (oZ+ 1)))] I fun a I=>?_
                 exact jE _ _ ⟨ahe,ah',Xy,aHA,J.ap (oZ+ 1),I.cut,hm.aX [3,4,1,0] [0,2,3,4,5,6,7,8,9],h⟩
               refine wp_exit <| bz (bz (cr ?_));exact jD _ _ ⟨Ef,E',q9,IY,I.cut,hm,(os h)⟩
             rintro a w ⟨Pg,PV,xT,Yp,I,hm,bc⟩;subst VV;have h:=Tp;clear Tp;refine jl _ _ <| wp_seq_k fun K lF=>aY <| bi 3 [0,3] [(59,.func (.func 103) #[] #[.aL dh]),(61,.agg #[.i cS.Returns.Kind,ao cS.Returns.aM])] [qM,3] (av (a2 (hm.e 0 rfl)) aw) I fun a I=>?_;obtain ⟨Xz,aAP,h⟩:=J.aH h;have hc:=hm.kM [3,2,0,1] rfl rfl;refine lj (f:=103) (vs:=[.agg #[.i cS.Returns.Kind,ao cS.Returns.aM]]) (us:=[]) (cs:=[.aL dh]) wn rfl Tryz.call103 (I.g rfl) ⟨(I.g rfl),trivial⟩ (Qc ((hc.into 2).pick ⟨⟨0,rfl⟩,trivial⟩) aAP) I rfl rfl ?_;rintro _ w ⟨ahf,aia,aHB,rfl,af⟩;refine ⟨_,rfl,?_⟩
             intro a I;have hm:=hc.back 2 af;clear af hc;refine wpList_nil ?_;have I:=I.cut (l':=[(0,.aL a7),(3,.aL dh),(4,.func (.func 103) #[] #[.aL dh]),(10,.aL qM),(23,.q bd bn x_.l),(24,.i (x_.l.length:Int)),(25,.i hQ),(42,.q gw gW cE.aQ),(43,.i (cE.aQ.length:Int)),(44,.i jN)]);refine lF _ _ <| wp_seq_k fun K ou=>?_
             refine eE [0,8] [(64,.q ls nl cS.bK),(65,.i (cS.bK.length:Int)),(66,.i 0)] [qM,8] (av (a2 (hm.e 2 rfl)) aw) I fun a I=>ou _ _ ?_;obtain ⟨VW,h,Tq⟩:=J.aH h
             refine ca (fun a w=>∃ (Jn:aP) (J9:Nat) (uz:List (List UInt8)) (Oz:dy),Fr ⟨96,[]⟩ [(0,.aL a7),(3,.aL dh),(4,.func (.func 103) #[] #[.aL dh]),(23,.q bd bn x_.l),(24,.i (x_.l.length:Int)),(25,.i hQ),(42,.q gw gW cE.aQ),(43,.i (cE.aQ.length:Int)),(44,.i jN)] a/\ar W M0 X w [aq.br dh 125 [.q Jn J9 uz],aq.row 9 1 (.q Jn J9 uz) uz Oz,aq.br qM 133 [ao cS.Name,.bool cS.Static,.q lr nk cS.bI,.i cS.Returns.Kind,ao cS.Returns.aM,.i cS.cR,.i cS.cQ,ao cS.Code,.q ls nl cS.bK],aq.br nw 136 [ao cE.Name,ao cE.bZ,.q hJ ic cE.Fields,.q gw gW cE.aQ]] [al.rows bE Oz uz,U J.eg ls nl cS.bK,U J.dt lr nk cS.bI,U J.b4 gw gW cE.aQ,U J.aW hJ ic cE.Fields,al.cM a7 [.q bd bn x_.l,.map (some b9),.q aR aU x_.b3],U J.a' bd bn x_.l,al.map dn (Value.int .i64) b9 x_.cA,U (ak .i64) aR aU x_.b3]/\VW=uz) (fun K lG=>?_) ?_
             · clear Tq
               refine cw (fun (hZ:Nat) a w=>∃ (Bp:aP) (B4:Nat) (pQ:List (List UInt8)) (IZ:dy) (o0:Int),Fr ⟨96,[]⟩ [(0,.aL a7),(3,.aL dh),(4,.func (.func 103) #[] #[.aL dh]),(23,.q bd bn x_.l),(24,.i (x_.l.length:Int)),(25,.i hQ),(42,.q gw gW cE.aQ),(43,.i (cE.aQ.length:Int)),(44,.i jN),(64,.q ls nl cS.bK),(65,.i (cS.bK.length:Int)),(66,.i o0)] a/\ar W M0 X w [aq.br dh 125 [.q Bp B4 pQ],aq.row 9 1 (.q Bp B4 pQ) pQ IZ,aq.br qM 133 [ao cS.Name,.bool cS.Static,.q lr nk cS.bI,.i cS.Returns.Kind,ao cS.Returns.aM,.i cS.cR,.i cS.cQ,ao cS.Code,.q ls nl cS.bK],aq.br nw 136 [ao cE.Name,ao cE.bZ,.q hJ ic cE.Fields,.q gw gW cE.aQ]] [al.rows bE IZ pQ,U J.eg ls nl cS.bK,U J.dt lr nk cS.bI,U J.b4 gw gW cE.aQ,U J.aW hJ ic cE.Fields,al.cM a7 [.q bd bn x_.l,.map (some b9),.q aR aU x_.b3],U J.a' bd bn x_.l,al.map dn (Value.int .i64) b9 x_.cA,U (ak .i64) aR aU x_.b3]/\J.u0 cS hZ pQ o0=some VW) F ⟨ahf,aia,Xz,aHB,0,I.cut,hm.eA [0,2,3,4,5,6,7,8,9],h⟩ ?_ ?_
               · rintro a w ⟨Bp,B4,pQ,IZ,o0,I,hm,h⟩;exact absurd h (by simp [J.u0])
               rintro hZ a w ⟨Bp,B4,pQ,IZ,o0,I,hm,h⟩ K mz;rw [J.u0] at h;refine bb [] [(67,.bool (decide (o0 <(cS.bK.length:Int))))] I fun a I=>wp_seq_k fun K zv=>bk (I.g rfl) h (fun aqM h=>?_) (fun aqM h=>?_)
               · refine wp_skip <| zv _ _ <| wp_seq_k fun K mA=>wp_block <| wp_seq_k fun K tB=>aY ?_;obtain ⟨nZ,aDp,h⟩:=J.aH h;obtain ⟨amF,axv,_,rfl,atf⟩:=bX _ (hm.d 1 rfl) aDp;refine bQ wn (bF Tryz.underlying131 Tryz.sizeOf150 rfl (I.g rfl) (I.g rfl) amF axv) I rfl rfl fun a I=>bi 1 [0,0] [(69,.agg #[.i nZ.From,.i nZ.To,.i nZ.gT,ao nZ.aM])] [bG ls,bH ls+(o0).toNat* 4] (av atf aw) I fun a I=>cD (cs:=[.i 0,.i 0,.i 0,ao []]) wn (eQ Tryz.zeroValue150 rfl rfl) I hm rfl rfl fun a akC w _ I hm=>?_
                 refine cX (vs:=[.i nZ.From,.i nZ.To,.i nZ.gT,ao nZ.aM]) 0 hm rfl wn rfl Tryz.sizeOf150 rfl rfl rfl rfl (I.g rfl) (I.g rfl) rfl fun w hm=>wpList_nil <| tB _ _ <| aY <| bi 3 [0,0,1,3] [(70,.q Bp B4 pQ),(72,ao nZ.aM)] [akC,3,dh,0] (av (a2 (hm.e 1 rfl)) (av (a2 (hm.e 0 rfl)) aw)) I fun a I=>gq (cs:=[ao nZ.aM]) wn (fU (vs:=[(0,ao nZ.aM)]) Tryz.underlying125 Tryz.sizeOf9 Tryz.zeroValue9 rfl rfl rfl ⟨⟨(I.g rfl),rfl⟩,trivial⟩ (by kernel_rfl)) I hm rfl rfl fun a aJz w _ I hm=>?_
                 obtain ⟨L0,ayR,h⟩:=J.aH h;refine iH (T:=bE) (ml:=[nZ.aM]) 3 0 0 hm rfl rfl rfl Tryz.underlying125 xR rfl rfl ayR rfl rfl ⟨_,_,rfl,rfl,rfl⟩ wn rfl (I.g rfl) (I.g rfl) I rfl rfl fun a Zh aaM aHC w I hm=>cX (vs:=[.q Zh aaM L0]) 1 hm rfl wn rfl Tryz.sizeOf125 rfl rfl rfl rfl (I.g rfl) (I.g rfl) rfl fun w hm=>wpList_nil ?_
                 have I:=I.cut (l':=[(0,.aL a7),(3,.aL dh),(4,.func (.func 103) #[] #[.aL dh]),(23,.q bd bn x_.l),(24,.i (x_.l.length:Int)),(25,.i hQ),(42,.q gw gW cE.aQ),(43,.i (cE.aQ.length:Int)),(44,.i jN),(64,.q ls nl cS.bK),(65,.i (cS.bK.length:Int)),(66,.i o0)]);refine mA _ _ <| cg [] [(66,.i (J.ap (o0+ 1)))] I fun a I=>?_
                 exact mz _ _ ⟨Zh,aaM,L0,aHC,J.ap (o0+ 1),I.cut,hm.aX [1,2,3,4] [0,2,3,4,5,6,7,8,9],h⟩
               refine wp_exit <| bz (bz (cr ?_));exact lG _ _ ⟨Bp,B4,pQ,IZ,I.cut,hm,(os h)⟩
             rintro a w ⟨Jn,J9,uz,Oz,I,hm,bc⟩;subst VW;have h:=Tq;clear Tq;exact hq _ _ ⟨Jn,J9,uz,Oz,I.cut,hm.aX [3,1,0] [0,3,4,5,6,7,8],(os h)⟩
           rintro a w ⟨Jm,J8,uy,Oy,I,hm,bc⟩;subst aes;have h:=Tn;clear Tn;refine hp _ _ <| cg [] [(44,.i (J.ap (jN+ 1)))] I fun a I=>?_;exact hB _ _ ⟨Jm,J8,uy,Oy,J.ap (jN+ 1),I.cut,hm,h⟩
         refine wp_exit <| bz (bz (cr ?_));exact gK _ _ ⟨Bo,B3,pP,DK,I.cut,hm,(os h)⟩
       rintro a w ⟨Jl,J7,ux,Ox,I,hm,bc⟩;subst VU;have h:=Tm;clear Tm;exact dC _ _ ⟨Jl,J7,ux,Ox,I.cut,hm.aX [1,2] [0,3,4,5,6],(os h)⟩
     rintro a w ⟨Jj,J5,uv,Ot,I,hm,bc⟩;subst aeq;have h:=Ti;clear Ti;refine dc _ _ <| cg [] [(25,.i (J.ap (hQ+ 1)))] I fun a I=>?_;exact dl _ _ ⟨Jj,J5,uv,Ot,J.ap (hQ+ 1),I.cut,hm,h⟩
   refine wp_exit <| bz (bz (cr ?_));exact dE _ _ ⟨Bk,BZ,pL,DH,I.cut,hm,(os h)⟩
 rintro a w ⟨qp,tk,hN,A0,I,hm,bc⟩;subst VA;have h:=S0;clear S0;refine c3 _ _ <| wp_seq_k fun K qO=>wp_seq_k fun K ov=>eE [0,0] [(78,.q qp tk hN),(79,.i (hN.length:Int)),(80,.i 0)] [dh,0] (av (a2 (hm.e 1 rfl)) aw) I fun a I=>ov _ _ ?_;obtain ⟨VX,h,Tr⟩:=J.dZ h
 refine ca (fun a w=>Fr ⟨96,[]⟩ [] a/\ar W M0 X w [aq.row 9 1 (.q qp tk hN) hN A0,aq.br dh 125 [.q qp tk hN]] [al.rows bE A0 hN,al.cM a7 [.q bd bn x_.l,.map (some b9),.q aR aU x_.b3],U J.a' bd bn x_.l,al.map dn (Value.int .i64) b9 x_.cA,U (ak .i64) aR aU x_.b3]/\VX=(.go ())) (fun K ow=>?_) ?_
 · refine cw (fun (jG:Nat) a w=>∃ (p6:Int),Fr ⟨96,[]⟩ [(0,.aL a7),(78,.q qp tk hN),(79,.i (hN.length:Int)),(80,.i p6)] a/\ar W M0 X w [aq.row 9 1 (.q qp tk hN) hN A0,aq.br dh 125 [.q qp tk hN]] [al.rows bE A0 hN,al.cM a7 [.q bd bn x_.l,.map (some b9),.q aR aU x_.b3],U J.a' bd bn x_.l,al.map dn (Value.int .i64) b9 x_.cA,U (ak .i64) aR aU x_.b3]/\J.x5 x_ hN jG p6=some VX) F ⟨0,I.cut,hm,h⟩ ?_ ?_
   · rintro a w ⟨p6,I,hm,h⟩;exact absurd h (by simp [J.x5])
   rintro jG a w ⟨p6,I,hm,h⟩ K mB;rw [J.x5] at h;refine bb [] [(81,.bool (decide (p6 <(hN.length:Int))))] I fun a I=>wp_seq_k fun K tC=>bk (I.g rfl) h (fun aqN h=>?_) (fun aqN h=>?_)
   · refine wp_skip <| tC _ _ <| wp_seq_k fun K tD=>wp_block <| wp_seq_k fun K r'=>aY ?_;obtain ⟨Dz,aDq,h⟩:=J.aH h;obtain ⟨amG,axw,_,rfl,atg⟩:=gN (hm.e 0 rfl) (hm.d 0 rfl) aDq;refine bQ wn (bF Tryz.underlying125 Tryz.sizeOf9 rfl (I.g rfl) (I.g rfl) amG axw) I rfl rfl fun a I=>bi 2 [0,0] [(16,ao Dz)] [bG qp,bH qp+(p6).toNat* 1] (av atg aw) I fun a I=>wpList_nil (r' _ _ ?_);refine wp_seq_k fun K tE=>aY <| bi 5 [0,1] [(88,.map (some b9)),(89,ao Dz)] [a7,1] (av (hm.d 1 rfl).2.2 aw) I fun a I=>?_
     refine bQ wn (I4 (K:=dn) (ev:=(Value.int .i64)) Tryz.underlying120 Tryz.underlying9 Tryz.zeroValue3 ((hm.d 3 rfl).2.2) rfl (I.g rfl) (I.g rfl)) I rfl rfl fun a I=>aN 5 [] [(18,.bool ((J.dp x_.cA Dz).isSome))] I fun a I=>wpList_nil (tE _ _ ?_);refine bb [] [(94,.bool (!((J.dp x_.cA Dz).isSome)))] I fun a I=>bk (I.g rfl) h (fun aqO h=>?_) (fun aqO h=>?_)
     · refine bt [] [(2,.i 5)] I fun a I=>wp_ret ?_;obtain rfl:=ay h;obtain rfl:=ay Tr;refine a8 (aj (aj (a8 (aj (aj ?_)))));refine bq Tryz.results78 I rfl ?_;exact ⟨rfl,hm.aX [] []⟩
     refine wp_skip <| tD _ _ <| cg [] [(80,.i (J.ap (p6+ 1)))] I fun a I=>?_;exact mB _ _ ⟨J.ap (p6+ 1),I.cut,hm,h⟩
   refine wp_exit <| bz (bz (cr ?_));exact ow _ _ ⟨I.cut,hm,(os h)⟩
 rintro a w ⟨I,hm,bc⟩;subst VX;have h:=Tr;clear Tr;dsimp only [J.dW] at h;refine qO _ _ <| bt [] [(2,.i 0)] I fun a I=>wp_ret ?_;obtain rfl:=ay h;refine bq Tryz.results78 I rfl ?_;exact ⟨rfl,hm.aX [] []⟩
theorem abr {W:World} {X:List Nat} {F:Nat} {aJ:List (List UInt8)} {r:Bool} {ag:aP} {ah:Nat} {M0:List Nat} (hm:ar W M0 X W [] [U bE ag ah aJ]) (h:J.CQ F aJ=some r) :
 Calls Tryz.prog 104 [.q ag ah aJ].toArray W (fun e aF=>e= .returned (.bool r)/\ar W M0 X aF [] []):=by
 refine enter Tryz.func104 rfl Tryz.ntmps104 rfl fun a I=>?_;rw [J.CQ] at h;refine bb [] [] I fun a I=>wp_seq_k fun K bN=>aY <| Mg (κ:=List UInt8) (β:=Bool) dn Value.bool wn rfl I hm rfl rfl fun a fJ w _ I hm=>aN 1 [] [(3,.map (some fJ))] I fun a I=>wpList_nil (bN _ _ ?_);refine wp_seq_k fun K cb=>bb [] [(7,.q ag ah aJ),(8,.i (aJ.length:Int)),(9,.i 0)] I fun a I=>?_;obtain ⟨Vj,h,SF⟩:=J.aH h
 refine ca (fun a w=>∃ (CR:List ((List UInt8) × Bool)),Fr ⟨21,[]⟩ [(0,.q ag ah aJ),(3,.map (some fJ))] a/\ar W M0 X w [aq.map dn Value.bool fJ CR] [U bE ag ah aJ]/\Vj=CR) (fun K cp=>?_) ?_
 · clear SF;refine cw (fun (bu:Nat) a w=>∃ (u1:List ((List UInt8) × Bool)) (p2:Int),Fr ⟨21,[]⟩ [(0,.q ag ah aJ),(3,.map (some fJ)),(7,.q ag ah aJ),(8,.i (aJ.length:Int)),(9,.i p2)] a/\ar W M0 X w [aq.map dn Value.bool fJ u1] [U bE ag ah aJ]/\J.x6 aJ bu u1 p2=some Vj) F ⟨[],0,I.cut,hm,h⟩ ?_ ?_
   · rintro a w ⟨u1,p2,I,hm,h⟩;exact absurd h (by simp [J.x6])
   rintro bu a w ⟨u1,p2,I,hm,h⟩ K dE;rw [J.x6] at h;refine bb [] [(10,.bool (decide (p2 <(aJ.length:Int))))] I fun a I=>wp_seq_k fun K cN=>bk (I.g rfl) h (fun aqf h=>?_) (fun aqf h=>?_)
   · refine wp_skip <| cN _ _ <| wp_seq_k fun K dq=>wp_block <| wp_seq_k fun K dc=>aY ?_;obtain ⟨Iy,aC8,h⟩:=J.aH h;obtain ⟨amq,axh,_,rfl,as5⟩:=bX _ (hm.d 0 rfl) aC8;refine bQ wn (bF Tryz.underlying125 Tryz.sizeOf9 rfl (I.g rfl) (I.g rfl) amq axh) I rfl rfl fun a I=>bi 2 [0,0] [(5,ao Iy)] [bG ag,bH ag+(p2).toNat* 1] (av as5 aw) I fun a I=>wpList_nil (dc _ _ ?_);refine aY <| aN 2 [] [(13,.map (some fJ)),(14,ao Iy)] I fun a I=>MZ (K:=dn) (ev:=Value.bool) 0 hm rfl wn Tryz.underlying178 Tryz.underlying9 (.inl rfl) (I.g rfl) (I.g rfl) (cW _ _) rfl fun w hm=>wpList_nil ?_
     refine dq _ _ <| cg [] [(9,.i (J.ap (p2+ 1)))] I fun a I=>?_;exact dE _ _ ⟨J.hD u1 Iy true,J.ap (p2+ 1),I.cut,hm,h⟩
   refine wp_exit <| bz (bz (cr ?_));exact cp _ _ ⟨u1,I.cut,hm,(os h)⟩
 rintro a w ⟨CR,I,hm,bc⟩;subst Vj;have h:=SF;clear SF;refine cb _ _ <| wp_seq_k fun K dC=>aY <| aN 1 [] [(16,.map (some fJ))] I fun a I=>bQ wn (Yt (K:=dn) (ev:=Value.bool) Tryz.underlying178 ((hm.e 0 rfl)) rfl (I.g rfl)) I rfl rfl fun a I=>eu 4 [] [(2,.bool (decide ((CR.length:Int) <(aJ.length:Int))))] I fun a I=>wpList_nil (dC _ _ ?_);refine wp_ret ?_;obtain rfl:=ay h;refine bq Tryz.results104 I rfl ?_;exact ⟨rfl,hm.aX [] []⟩
theorem ai4 {W:World} {X:List Nat} {F:Nat} {x_:J.df} {r:Int} {a7:Nat} {bd:aP} {bn:Nat} {b9:Nat} {aR:aP} {aU:Nat} {M0:List Nat} (hm:ar W M0 X W [] [al.cM a7 [.q bd bn x_.l,.map (some b9),.q aR aU x_.b3],U J.a' bd bn x_.l,al.map dn (Value.int .i64) b9 x_.cA,U (ak .i64) aR aU x_.b3]) (h:J.HE F x_=some r) :
 Calls Tryz.prog 79 [.aL a7].toArray W (fun e aF=>e= .returned (.i r)/\ar W M0 X aF [] []):=by
 refine enter Tryz.func79 rfl Tryz.ntmps79 rfl fun a I=>?_;rw [J.HE] at h;refine bb [] [] I fun a I=>wp_seq_k fun K bN=>wp_seq_k fun K cb=>eE [0,0] [(14,.q bd bn x_.l),(15,.i (x_.l.length:Int)),(16,.i 0)] [a7,0] (av (hm.d 0 rfl).2.2 aw) I fun a I=>cb _ _ ?_;obtain ⟨Vf,h,La⟩:=J.dZ h
 refine ca (fun a w=>Fr ⟨55,[]⟩ [] a/\ar W M0 X w [] [al.cM a7 [.q bd bn x_.l,.map (some b9),.q aR aU x_.b3],U J.a' bd bn x_.l,al.map dn (Value.int .i64) b9 x_.cA,U (ak .i64) aR aU x_.b3]/\Vf=(.go ())) (fun K c3=>?_) ?_
 · refine cw (fun (bu:Nat) a w=>∃ (iV:Int),Fr ⟨55,[]⟩ [(0,.aL a7),(14,.q bd bn x_.l),(15,.i (x_.l.length:Int)),(16,.i iV)] a/\ar W M0 X w [] [al.cM a7 [.q bd bn x_.l,.map (some b9),.q aR aU x_.b3],U J.a' bd bn x_.l,al.map dn (Value.int .i64) b9 x_.cA,U (ak .i64) aR aU x_.b3]/\J.x2 F x_ bu iV=some Vf) F ⟨0,I.cut,hm,h⟩ ?_ ?_
   · rintro a w ⟨iV,I,hm,h⟩;exact absurd h (by simp [J.x2])
   rintro bu a w ⟨iV,I,hm,h⟩ K cp;rw [J.x2] at h;refine bb [] [(17,.bool (decide (iV <(x_.l.length:Int))))] I fun a I=>wp_seq_k fun K dl=>bk (I.g rfl) h (fun ap8 h=>?_) (fun ap8 h=>?_)
   · refine wp_skip <| dl _ _ <| wp_seq_k fun K cN=>?_;obtain ⟨ael,h,Lg⟩:=J.eT h;refine ca (fun a w=>Fr ⟨55,[]⟩ [(0,.aL a7),(14,.q bd bn x_.l),(15,.i (x_.l.length:Int)),(16,.i iV)] a/\ar W M0 X w [] [al.cM a7 [.q bd bn x_.l,.map (some b9),.q aR aU x_.b3],U J.a' bd bn x_.l,al.map dn (Value.int .i64) b9 x_.cA,U (ak .i64) aR aU x_.b3]/\ael=(.go ())) (fun K dq=>?_) ?_
     · refine wp_seq_k fun K dc=>aY <| aN 1 [] [(18,.i iV)] I fun a I=>?_;obtain ⟨e8,aC1,h⟩:=J.aH h;obtain ⟨amh,aw9,_,⟨qq,qF,l_,oi,rfl,auM,auN⟩,asT⟩:=bX _ (hm.d 1 rfl) aC1;have hm:=hm.more (y:=U J.aW qq qF e8.Fields) auM;have hm:=hm.more (y:=U J.b4 l_ oi e8.aQ) auN;refine bQ wn (bF Tryz.underlying25 Tryz.sizeOf136 rfl (I.g rfl) (I.g rfl) amh aw9) I rfl rfl fun a I=>?_
       refine bi 1 [0,0] [(20,.agg #[ao e8.Name,ao e8.bZ,.q qq qF e8.Fields,.q l_ oi e8.aQ])] [bG bd,bH bd+(iV).toNat* 4] (av asT aw) I fun a I=>cD (cs:=[ao [],ao [],.slice none 0 0,.slice none 0 0]) wn (eQ Tryz.zeroValue136 rfl rfl) I hm rfl rfl fun a zq w _ I hm=>aN 1 [] [(3,.i iV)] I fun a I=>cX (vs:=[ao e8.Name,ao e8.bZ,.q qq qF e8.Fields,.q l_ oi e8.aQ]) 0 hm rfl wn rfl Tryz.sizeOf136 rfl rfl rfl rfl (I.g rfl) (I.g rfl) rfl fun w hm=>wpList_nil ?_
       refine dc _ _ <| bb [] [(5,.slice none 0 0),(6,.slice none 0 0)] I fun a I=>wp_seq_k fun K dS=>wp_seq_k fun K dL=>aY <| aN 2 [] [(21,.aL a7),(22,.i iV)] I fun a I=>?_;obtain ⟨ik,aAq,h⟩:=J.aH h;have hc:=hm;refine bP (vs:=[.aL a7,.i iV]) wn rfl Tryz.call82 ⟨(I.g rfl),(I.g rfl),trivial⟩ (Qb ((hc.into 0).pick ⟨⟨2,rfl⟩,⟨3,rfl⟩,⟨4,rfl⟩,⟨5,rfl⟩,trivial⟩) aAq) I rfl rfl ?_;rintro _ w ⟨yN,E1,yJ,rfl,af⟩;refine ⟨_,rfl,fun a I=>?_⟩;have ad:ba [] _ w:=af.ev;have hm:=hc.back 0 af
       clear af hc;clear ad;refine aN 2 [] [(24,.i (ik.length:Int)),(25,.i 0)] I fun a I=>wpList_nil (dL _ _ ?_);have hm:=hm.cO (α:=List UInt8) 9 1;have hm:=hm.more (y:=al.rows bE [] []) rfl;obtain ⟨VF,h,S6⟩:=J.aH h
       refine ca (fun a w=>∃ (sR:aP) (tl:Nat) (kA:List (List UInt8)) (A1:dy),Fr ⟨55,[]⟩ [(0,.aL a7),(4,.aL zq),(5,.q sR tl kA),(6,.slice none 0 0),(14,.q bd bn x_.l),(15,.i (x_.l.length:Int)),(16,.i iV)] a/\ar W M0 X w [aq.row 9 1 (.q sR tl kA) kA A1,aq.row 105 3 (.q yN E1 ik) ik yJ,aq.br zq 136 [ao e8.Name,ao e8.bZ,.q qq qF e8.Fields,.q l_ oi e8.aQ]] [al.rows bE A1 kA,al.rows J.aW yJ ik,U J.b4 l_ oi e8.aQ,U J.aW qq qF e8.Fields,al.cM a7 [.q bd bn x_.l,.map (some b9),.q aR aU x_.b3],U J.a' bd bn x_.l,al.map dn (Value.int .i64) b9 x_.cA,U (ak .i64) aR aU x_.b3]/\VF=kA) (fun K ft=>?_) ?_
       · clear S6
         refine cw (fun (c7:Nat) a w=>∃ (Bj:aP) (BX:Nat) (pK:List (List UInt8)) (IV:dy) (p4:Int),Fr ⟨55,[]⟩ [(0,.aL a7),(4,.aL zq),(5,.q Bj BX pK),(6,.slice none 0 0),(14,.q bd bn x_.l),(15,.i (x_.l.length:Int)),(16,.i iV),(23,.q yN E1 ik),(24,.i (ik.length:Int)),(25,.i p4)] a/\ar W M0 X w [aq.row 9 1 (.q Bj BX pK) pK IV,aq.row 105 3 (.q yN E1 ik) ik yJ,aq.br zq 136 [ao e8.Name,ao e8.bZ,.q qq qF e8.Fields,.q l_ oi e8.aQ]] [al.rows bE IV pK,al.rows J.aW yJ ik,U J.b4 l_ oi e8.aQ,U J.aW qq qF e8.Fields,al.cM a7 [.q bd bn x_.l,.map (some b9),.q aR aU x_.b3],U J.a' bd bn x_.l,al.map dn (Value.int .i64) b9 x_.cA,U (ak .i64) aR aU x_.b3]/\J.uU ik c7 pK p4=some VF) F ⟨none,0,[],[],0,I.cut,hm,h⟩ ?_ ?_
         · rintro a w ⟨Bj,BX,pK,IV,p4,I,hm,h⟩;exact absurd h (by simp [J.uU])
         rintro c7 a w ⟨Bj,BX,pK,IV,p4,I,hm,h⟩ K eX;rw [J.uU] at h;refine bb [] [(26,.bool (decide (p4 <(ik.length:Int))))] I fun a I=>wp_seq_k fun K g9=>bk (I.g rfl) h (fun aqe h=>?_) (fun aqe h=>?_)
         · refine wp_skip <| g9 _ _ <| wp_seq_k fun K fu=>wp_block <| wp_seq_k fun K fK=>aY ?_;obtain ⟨qh,aC3,h⟩:=J.aH h;obtain ⟨ami,aw_,_,rfl,asU⟩:=gN (hm.e 1 rfl) (hm.d 1 rfl) aC3;refine bQ wn (bF Tryz.underlying106 Tryz.sizeOf105 rfl (I.g rfl) (I.g rfl) ami aw_) I rfl rfl fun a I=>bi 1 [0,0] [(28,.agg #[ao qh.Name,.i qh.Kind.Kind,ao qh.Kind.aM])] [bG yN,bH yN+(p4).toNat* 3] (av asU aw) I fun a I=>cD (cs:=[ao [],.i 0,ao []]) wn (eQ Tryz.zeroValue105 rfl rfl) I hm rfl rfl fun a akx w _ I hm=>?_
           refine cX (vs:=[ao qh.Name,.i qh.Kind.Kind,ao qh.Kind.aM]) 0 hm rfl wn rfl Tryz.sizeOf105 rfl rfl rfl rfl (I.g rfl) (I.g rfl) rfl fun w hm=>wpList_nil <| fK _ _ <| aY <| bi 3 [0,0] [(29,.q Bj BX pK),(31,ao qh.Name)] [akx,0] (av (a2 (hm.e 0 rfl)) aw) I fun a I=>gq (cs:=[ao qh.Name]) wn (fU (vs:=[(0,ao qh.Name)]) Tryz.underlying125 Tryz.sizeOf9 Tryz.zeroValue9 rfl rfl rfl ⟨⟨(I.g rfl),rfl⟩,trivial⟩ (by kernel_rfl)) I hm rfl rfl fun a aJw w _ I hm=>?_;obtain ⟨LY,ayN,h⟩:=J.aH h
           refine iH (T:=bE) (ml:=[qh.Name]) 2 0 0 hm rfl rfl rfl Tryz.underlying125 xR rfl rfl ayN rfl rfl ⟨_,_,rfl,rfl,rfl⟩ wn rfl (I.g rfl) (I.g rfl) I rfl rfl fun a Y' aaF aHv w I hm=>aN 1 [] [(5,.q Y' aaF LY)] I fun a I=>wpList_nil (fu _ _ ?_);refine cg [] [(25,.i (J.ap (p4+ 1)))] I fun a I=>?_;exact eX _ _ ⟨Y',aaF,LY,aHv,J.ap (p4+ 1),I.cut,hm.aX [1,2,3] [0,2,3,4,5,6,7,8],h⟩
         refine wp_exit <| bz (bz (cr ?_));exact ft _ _ ⟨Bj,BX,pK,IV,I.cut,hm,(os h)⟩
       rintro a w ⟨sR,tl,kA,A1,I,hm,bc⟩;subst VF;have h:=S6;clear S6;refine dS _ _ <| wp_seq_k fun K fR=>wp_seq_k fun K gm=>eE [0,3] [(36,.q l_ oi e8.aQ),(37,.i (e8.aQ.length:Int)),(38,.i 0)] [zq,3] (av (a2 (hm.e 2 rfl)) aw) I fun a I=>gm _ _ ?_;have hm:=hm.cO (α:=List UInt8) 9 1;have hm:=hm.more (y:=al.rows bE [] []) rfl;obtain ⟨VH,h,S8⟩:=J.aH h
       refine ca (fun a w=>∃ (D_:aP) (E3:Nat) (sp:List (List UInt8)) (Yo:dy),Fr ⟨55,[]⟩ [(0,.aL a7),(5,.q sR tl kA),(6,.q D_ E3 sp),(14,.q bd bn x_.l),(15,.i (x_.l.length:Int)),(16,.i iV)] a/\ar W M0 X w [aq.row 9 1 (.q D_ E3 sp) sp Yo,aq.row 9 1 (.q sR tl kA) kA A1,aq.row 105 3 (.q yN E1 ik) ik yJ,aq.br zq 136 [ao e8.Name,ao e8.bZ,.q qq qF e8.Fields,.q l_ oi e8.aQ]] [al.rows bE Yo sp,al.rows bE A1 kA,al.rows J.aW yJ ik,U J.b4 l_ oi e8.aQ,U J.aW qq qF e8.Fields,al.cM a7 [.q bd bn x_.l,.map (some b9),.q aR aU x_.b3],U J.a' bd bn x_.l,al.map dn (Value.int .i64) b9 x_.cA,U (ak .i64) aR aU x_.b3]/\VH=sp) (fun K gK=>?_) ?_
       · clear S8
         refine cw (fun (et:Nat) a w=>∃ (Bl:aP) (B0:Nat) (pM:List (List UInt8)) (IW:dy) (p5:Int),Fr ⟨55,[]⟩ [(0,.aL a7),(5,.q sR tl kA),(6,.q Bl B0 pM),(14,.q bd bn x_.l),(15,.i (x_.l.length:Int)),(16,.i iV),(36,.q l_ oi e8.aQ),(37,.i (e8.aQ.length:Int)),(38,.i p5)] a/\ar W M0 X w [aq.row 9 1 (.q Bl B0 pM) pM IW,aq.row 9 1 (.q sR tl kA) kA A1,aq.row 105 3 (.q yN E1 ik) ik yJ,aq.br zq 136 [ao e8.Name,ao e8.bZ,.q qq qF e8.Fields,.q l_ oi e8.aQ]] [al.rows bE IW pM,al.rows bE A1 kA,al.rows J.aW yJ ik,U J.b4 l_ oi e8.aQ,U J.aW qq qF e8.Fields,al.cM a7 [.q bd bn x_.l,.map (some b9),.q aR aU x_.b3],U J.a' bd bn x_.l,al.map dn (Value.int .i64) b9 x_.cA,U (ak .i64) aR aU x_.b3]/\J.uV e8 et pM p5=some VH) F ⟨none,0,[],[],0,I.cut,hm,h⟩ ?_ ?_
         · rintro a w ⟨Bl,B0,pM,IW,p5,I,hm,h⟩;exact absurd h (by simp [J.uV])
         rintro et a w ⟨Bl,B0,pM,IW,p5,I,hm,h⟩ K hB;rw [J.uV] at h;refine bb [] [(39,.bool (decide (p5 <(e8.aQ.length:Int))))] I fun a I=>wp_seq_k fun K ho=>bk (I.g rfl) h (fun aqj h=>?_) (fun aqj h=>?_)
         · refine wp_skip <| ho _ _ <| wp_seq_k fun K hp=>wp_block <| wp_seq_k fun K hq=>aY ?_;obtain ⟨hR,aC9,h⟩:=J.aH h;obtain ⟨amm,axc,_,⟨O_,PP,O',PQ,rfl,auT,auU⟩,asY⟩:=bX _ (hm.d 3 rfl) aC9;have hm:=hm.more (y:=U J.dt O_ PP hR.bI) auT;have hm:=hm.more (y:=U J.eg O' PQ hR.bK) auU;refine bQ wn (bF Tryz.underlying134 Tryz.sizeOf133 rfl (I.g rfl) (I.g rfl) amm axc) I rfl rfl fun a I=>?_
           refine bi 1 [0,0] [(41,.agg #[ao hR.Name,.bool hR.Static,.q O_ PP hR.bI,.i hR.Returns.Kind,ao hR.Returns.aM,.i hR.cR,.i hR.cQ,ao hR.Code,.q O' PQ hR.bK])] [bG l_,bH l_+(p5).toNat* 9] (av asY aw) I fun a I=>cD (cs:=[ao [],.bool false,.slice none 0 0,.i 0,ao [],.i 0,.i 0,ao [],.slice none 0 0]) wn (eQ Tryz.zeroValue133 rfl rfl) I hm rfl rfl fun a akz w _ I hm=>?_
           refine cX (vs:=[ao hR.Name,.bool hR.Static,.q O_ PP hR.bI,.i hR.Returns.Kind,ao hR.Returns.aM,.i hR.cR,.i hR.cQ,ao hR.Code,.q O' PQ hR.bK]) 0 hm rfl wn rfl Tryz.sizeOf133 rfl rfl rfl rfl (I.g rfl) (I.g rfl) rfl fun w hm=>wpList_nil <| hq _ _ <| aY <| bi 3 [0,0] [(42,.q Bl B0 pM),(44,ao hR.Name)] [akz,0] (av (a2 (hm.e 0 rfl)) aw) I fun a I=>?_
           refine gq (cs:=[ao hR.Name]) wn (fU (vs:=[(0,ao hR.Name)]) Tryz.underlying125 Tryz.sizeOf9 Tryz.zeroValue9 rfl rfl rfl ⟨⟨(I.g rfl),rfl⟩,trivial⟩ (by kernel_rfl)) I hm rfl rfl fun a aJx w _ I hm=>?_;obtain ⟨LZ,ayO,h⟩:=J.aH h;refine iH (T:=bE) (ml:=[hR.Name]) 2 0 2 hm rfl rfl rfl Tryz.underlying125 xR rfl rfl ayO rfl rfl ⟨_,_,rfl,rfl,rfl⟩ wn rfl (I.g rfl) (I.g rfl) I rfl rfl fun a Zc aaH aHw w I hm=>aN 1 [] [(6,.q Zc aaH LZ)] I fun a I=>wpList_nil (hp _ _ ?_);refine cg [] [(38,.i (J.ap (p5+ 1)))] I fun a I=>?_
           exact hB _ _ ⟨Zc,aaH,LZ,aHw,J.ap (p5+ 1),I.cut,hm.aX [1,2,3,4] [0,4,5,6,7,8,9,10,11],h⟩
         refine wp_exit <| bz (bz (cr ?_));exact gK _ _ ⟨Bl,B0,pM,IW,I.cut,hm,(os h)⟩
       rintro a w ⟨D_,E3,sp,Yo,I,hm,bc⟩;subst VH;have h:=S8;clear S8;refine fR _ _ <| wp_seq_k fun K jC=>aY <| aN 1 [] [(48,.q sR tl kA)] I fun a I=>?_;obtain ⟨ME,aAy,h⟩:=J.aH h;have hc:=hm;have ax:=hc.freeze 1 1 rfl rfl;refine bP (vs:=[.q sR tl kA]) wn rfl Tryz.call104 ⟨(I.g rfl),trivial⟩ (abr ((ax.into 0).pick ⟨⟨0,rfl⟩,trivial⟩) aAy) I rfl rfl ?_;rintro _ w ⟨rfl,af⟩;refine ⟨_,rfl,fun a I=>?_⟩;have ad:ba [] _ w:=af.ev;have hm:=hc.fP 0 (by exact trivial) af;clear af hc ax;clear ad
       refine aN 1 [] [(50,.bool ME)] I fun a I=>?_;rcases Bool.eq_false_or_eq_true ME with Gt | Gt
       · have h:=J.dj Gt h;have I:=I.b6 50 rfl Gt;refine aN 3 [1,1,1] [(53,.bool true)] I fun a I=>wpList_nil (jC _ _ ?_);refine eG (I.g rfl) rfl <| bt [] [(2,.i 6)] I fun a I=>wp_ret ?_;obtain rfl:=ay h;obtain rfl:=ay Lg;obtain rfl:=ay La;refine a8 (aj (aj (aj (a8 (aj (aj ?_))))));refine bq Tryz.results79 I rfl ?_;exact ⟨rfl,hm.aX [] []⟩
       have h:=J.di Gt h;have I:=I.b6 50 rfl Gt;refine aN 1 [1] [(51,.q D_ E3 sp)] I fun a I=>?_;obtain ⟨Xo,aAz,h⟩:=J.aH h;have hc:=hm;have ax:=hc.freeze 0 0 rfl rfl;refine bP (vs:=[.q D_ E3 sp]) (cV I rfl rfl rfl rfl) rfl Tryz.call104 ⟨(I.g rfl),trivial⟩ (abr ((ax.into 0).pick ⟨⟨0,rfl⟩,trivial⟩) aAz) I rfl rfl ?_;rintro _ w ⟨rfl,af⟩;refine ⟨_,rfl,fun a I=>?_⟩;have ad:ba [] _ w:=af.ev;have hm:=hc.fP 0 (by exact trivial) af;clear af hc ax;clear ad;refine aN 1 [1] [(53,.bool Xo)] I fun a I=>wpList_nil (jC _ _ ?_)
       refine bk (I.g rfl) h (fun aqm h=>?_) (fun aqm h=>?_)
       · refine bt [] [(2,.i 6)] I fun a I=>wp_ret ?_;obtain rfl:=ay h;obtain rfl:=ay Lg;obtain rfl:=ay La;refine a8 (aj (aj (aj (a8 (aj (aj ?_))))));refine bq Tryz.results79 I rfl ?_;exact ⟨rfl,hm.aX [] []⟩
       refine wp_skip ?_;exact dq _ _ ⟨I.cut,hm.aX [] [5,6,7,8],(os h)⟩
     rintro a w ⟨I,hm,bc⟩;subst ael;have h:=Lg;clear Lg;dsimp only [J.eN] at h;refine cN _ _ <| cg [] [(16,.i (J.ap (iV+ 1)))] I fun a I=>?_;exact cp _ _ ⟨J.ap (iV+ 1),I.cut,hm,h⟩
   refine wp_exit <| bz (bz (cr ?_));exact c3 _ _ ⟨I.cut,hm,(os h)⟩
 rintro a w ⟨I,hm,bc⟩;subst Vf;have h:=La;clear La;dsimp only [J.dW] at h;refine bN _ _ <| bt [] [(2,.i 0)] I fun a I=>wp_ret ?_;obtain rfl:=ay h;refine bq Tryz.results79 I rfl ?_;exact ⟨rfl,hm.aX [] []⟩
theorem ajh {W:World} {X:List Nat} {F:Nat} {b8:List J.Kind} {cl:List J.Kind} {r:Bool} {ag:aP} {ah:Nat} {aK:aP} {aO:Nat} {M0:List Nat} (hm:ar W M0 X W [] [U J.dt ag ah b8,U J.dt aK aO cl]) (h:J.Ib F b8 cl=some r) :
 Calls Tryz.prog 133 [.q ag ah b8,.q aK aO cl].toArray W (fun e aF=>e= .returned (.bool r)/\ar W M0 X aF [] []):=by
 refine enter Tryz.func133 rfl Tryz.ntmps133 rfl fun a I=>?_;rw [J.Ib] at h;refine bb [] [] I fun a I=>wp_seq_k fun K bN=>bb [] [(10,.bool (!decide ((b8.length:Int)=(cl.length:Int))))] I fun a I=>bk (I.g rfl) h (fun hY h=>?_) (fun hY h=>?_)
 · refine bt [] [(4,.bool false)] I fun a I=>wp_ret ?_;obtain rfl:=ay h;refine aj <| bq Tryz.results133 I rfl ?_;exact ⟨rfl,hm.aX [] []⟩
 refine wp_skip <| bN _ _ <| wp_seq_k fun K cp=>bb [] [(12,.i (b8.length:Int)),(13,.i 0)] I fun a I=>?_;obtain ⟨gp,h,f_⟩:=J.dZ h;refine ca (fun a w=>Fr ⟨26,[]⟩ [] a/\ar W M0 X w [] [U J.dt ag ah b8,U J.dt aK aO cl]/\gp=(.go ())) (fun K dl=>?_) ?_
 · refine cw (fun (bu:Nat) a w=>∃ (cd:Int),Fr ⟨26,[]⟩ [(0,.q ag ah b8),(1,.q aK aO cl),(12,.i (b8.length:Int)),(13,.i cd)] a/\ar W M0 X w [] [U J.dt ag ah b8,U J.dt aK aO cl]/\J.AD b8 cl bu cd=some gp) F ⟨0,I.cut,hm,h⟩ ?_ ?_
   · rintro a w ⟨cd,I,hm,h⟩;exact absurd h (by simp [J.AD])
   rintro bu a w ⟨cd,I,hm,h⟩ K cN;rw [J.AD] at h;refine bb [] [(14,.bool (decide (cd <(b8.length:Int))))] I fun a I=>wp_seq_k fun K dc=>bk (I.g rfl) h (fun mD h=>?_) (fun mD h=>?_)
   · refine wp_skip <| dc _ _ <| wp_seq_k fun K dC=>wp_block <| bb [] [(5,.i cd)] I fun a I=>wp_seq_k fun K dL=>hA (by kernel_rfl) (by kernel_rfl) <| dB 2 [] [(16,.q ag ah b8),(17,.i cd)] [] (fun a6 ad=>aw) I fun a I=>?_;obtain ⟨fa,mM,h⟩:=J.aH h;obtain ⟨mw,mJ,_,rfl,mE⟩:=bX _ (hm.d 0 rfl) mM;refine ek wn (fun a6 ad=>bF Tryz.underlying130 Tryz.sizeOf103 rfl (I.g rfl) (I.g rfl) mw mJ) I rfl rfl fun a I=>?_
     refine dB 3 [0,0] [(19,.agg #[.i fa.Kind,ao fa.aM]),(20,.q aK aO cl),(21,.i cd)] [bG ag,bH ag+(cd).toNat* 2] (fun a6 ad=>(av (b2 ad mE) aw)) I fun a I=>?_;obtain ⟨fl,mN,h⟩:=J.aH h;obtain ⟨mx,mK,_,rfl,mF⟩:=bX _ (hm.d 1 rfl) mN;refine ek wn (fun a6 ad=>bF Tryz.underlying130 Tryz.sizeOf103 rfl (I.g rfl) (I.g rfl) mx mK) I rfl rfl fun a I=>dB 1 [0,0] [(23,.agg #[.i fl.Kind,ao fl.aM])] [bG aK,bH aK+(cd).toNat* 2] (fun a6 ad=>(av (b2 ad mF) aw)) I fun a I=>ek wn (fun a6 ad=>Fv (X:=fa) (Y:=fl) rfl (I.g rfl) (I.g rfl)) I rfl rfl fun a I=>wpQuiet_nil fun w ad=>?_
     have hm:=hm.dw ad;clear ad;refine dL _ _ <| bk (I.g rfl) h (fun k0 h=>?_) (fun k0 h=>?_)
     · refine bt [] [(4,.bool false)] I fun a I=>wp_ret ?_;obtain rfl:=ay h;obtain rfl:=ay f_;refine a8 (aj (aj (a8 (aj (aj ?_)))));refine bq Tryz.results133 I rfl ?_;exact ⟨rfl,hm.aX [] []⟩
     refine wp_skip <| dC _ _ <| cg [] [(13,.i (J.ap (cd+ 1)))] I fun a I=>?_;exact cN _ _ ⟨J.ap (cd+ 1),I.cut,hm,h⟩
   refine wp_exit <| bz (bz (cr ?_));exact dl _ _ ⟨I.cut,hm,(os h)⟩
 rintro a w ⟨I,hm,bc⟩;subst gp;have h:=f_;clear f_;dsimp only [J.dW] at h;refine cp _ _ <| bt [] [(4,.bool true)] I fun a I=>wp_ret ?_;obtain rfl:=ay h;refine bq Tryz.results133 I rfl ?_;exact ⟨rfl,hm.aX [] []⟩
theorem aiZ {W:World} {X:List Nat} {F:Nat} {a_:J.Method} {b_:J.Method} {r:Bool} {ag:aP} {ah:Nat} {aK:aP} {aO:Nat} {aR:aP} {aU:Nat} {bl:aP} {bp:Nat} {M0:List Nat} (hm:ar W M0 X W [] [U J.dt ag ah a_.bI,U J.eg aK aO a_.bK,U J.dt aR aU b_.bI,U J.eg bl bp b_.bK]) (h:J.L7 F a_ b_=some r) :
 Calls Tryz.prog 106 [.agg #[ao a_.Name,.bool a_.Static,.q ag ah a_.bI,.i a_.Returns.Kind,ao a_.Returns.aM,.i a_.cR,.i a_.cQ,ao a_.Code,.q aK aO a_.bK],.agg #[ao b_.Name,.bool b_.Static,.q aR aU b_.bI,.i b_.Returns.Kind,ao b_.Returns.aM,.i b_.cR,.i b_.cQ,ao b_.Code,.q bl bp b_.bK]].toArray W (fun e aF=>e= .returned (.bool r)/\ar W M0 X aF [] []):=by
 refine enter Tryz.func106 rfl Tryz.ntmps106 rfl fun a I=>?_;rw [J.L7] at h;refine wp_seq_k fun K c6=>aY <| cD (cs:=[ao a_.Name,.bool a_.Static,.q ag ah a_.bI,.i a_.Returns.Kind,ao a_.Returns.aM,.i a_.cR,.i a_.cQ,ao a_.Code,.q aK aO a_.bK]) wn (ei rfl rfl (I.g rfl)) I hm rfl rfl fun a iO w _ I hm=>cD (cs:=[ao b_.Name,.bool b_.Static,.q aR aU b_.bI,.i b_.Returns.Kind,ao b_.Returns.aM,.i b_.cR,.i b_.cQ,ao b_.Code,.q bl bp b_.bK]) wn (ei rfl rfl (I.g rfl)) I hm rfl rfl fun a Fy w _ I hm=>?_
 refine aN 1 [] [] I fun a I=>wpList_nil (c6 _ _ ?_);refine wp_seq_k fun K bN=>aY <| bi 9 [0,1,0,0,1,1,0,0] [(13,.bool ((!a_.Static) && (!b_.Static)))] [Fy,1,iO,1] (av (a2 (hm.e 1 rfl)) (av (a2 (hm.e 0 rfl)) aw)) I fun a I=>?_;rcases Bool.eq_false_or_eq_true ((!a_.Static) && (!b_.Static)) with zB | zB
 · have h:=J.dj zB h;have I:=I.b6 13 rfl zB;refine bi 4 [1,1,0,2,1,1,1,2] [(15,.q ag ah a_.bI),(17,.q aR aU b_.bI)] [Fy,2,iO,2] (av (a2 (hm.e 1 rfl)) (av (a2 (hm.e 0 rfl)) aw)) I fun a I=>?_;obtain ⟨c9,oE,h⟩:=J.aH h;have hc:=hm;refine bP (vs:=[.q ag ah a_.bI,.q aR aU b_.bI]) (cV I rfl rfl rfl rfl) rfl Tryz.call133 ⟨(I.g rfl),(I.g rfl),trivial⟩ (ajh ((hc.into 0).pick ⟨⟨0,rfl⟩,⟨2,rfl⟩,trivial⟩) oE) I rfl rfl ?_;rintro _ w ⟨rfl,af⟩;refine ⟨_,rfl,fun a I=>?_⟩;have hm:=hc.back 0 af;clear af hc
   refine aN 2 [1] [(20,.bool c9)] I fun a I=>?_;rcases Bool.eq_false_or_eq_true c9 with ka | ka
   · have h:=J.dj ka h;have I:=I.b6 20 rfl ka;refine bi 4 [1,1,0,3,1,1,1,3] [(22,.agg #[.i a_.Returns.Kind,ao a_.Returns.aM]),(24,.agg #[.i b_.Returns.Kind,ao b_.Returns.aM])] [Fy,3,iO,3] (av (a2 (hm.e 1 rfl)) (av (a2 (hm.e 0 rfl)) aw)) I fun a I=>bQ (cV I rfl rfl rfl rfl) (aj9 (X:=a_.Returns) (Y:=b_.Returns) rfl (I.g rfl) (I.g rfl)) I rfl rfl fun a I=>eu 2 [1] [(4,.bool (decide (a_.Returns=b_.Returns)))] I fun a I=>wpList_nil (bN _ _ ?_);refine wp_ret ?_;obtain rfl:=ay h;refine bq Tryz.results106 I rfl ?_
     exact ⟨rfl,hm.aX [] []⟩
   have h:=J.di ka h;have I:=I.b6 20 rfl ka;refine eu 7 [1,1,1,1,1,1] [(4,.bool false)] I fun a I=>wpList_nil (bN _ _ ?_);refine wp_ret ?_;obtain rfl:=ay h;refine bq Tryz.results106 I rfl ?_;exact ⟨rfl,hm.aX [] []⟩
 have h:=J.di zB h;have I:=I.b6 13 rfl zB;refine eu 14 [1,1,1,1,1,1,1,1,1,1,1,1] [(4,.bool false)] I fun a I=>wpList_nil (bN _ _ ?_);refine wp_ret ?_;obtain rfl:=ay h;refine bq Tryz.results106 I rfl ?_;exact ⟨rfl,hm.aX [] []⟩
theorem ai2 {W:World} {X:List Nat} {F:Nat} {x_:J.df} {r:Int} {a7:Nat} {bd:aP} {bn:Nat} {b9:Nat} {aR:aP} {aU:Nat} {M0:List Nat} (hm:ar W M0 X W [] [al.cM a7 [.q bd bn x_.l,.map (some b9),.q aR aU x_.b3],U J.a' bd bn x_.l,al.map dn (Value.int .i64) b9 x_.cA,U (ak .i64) aR aU x_.b3]) (h:J.HD F x_=some r) :
 Calls Tryz.prog 80 [.aL a7].toArray W (fun e aF=>e= .returned (.i r)/\ar W M0 X aF [] []):=by
 refine enter Tryz.func80 rfl Tryz.ntmps80 rfl fun a I=>?_;rw [J.HD] at h;refine bb [] [] I fun a I=>wp_seq_k fun K bN=>wp_seq_k fun K cb=>eE [0,0] [(14,.q bd bn x_.l),(15,.i (x_.l.length:Int)),(16,.i 0)] [a7,0] (av (hm.d 0 rfl).2.2 aw) I fun a I=>cb _ _ ?_;obtain ⟨UN,h,Sa⟩:=J.dZ h
 refine ca (fun a w=>Fr ⟨65,[]⟩ [] a/\ar W M0 X w [] [al.cM a7 [.q bd bn x_.l,.map (some b9),.q aR aU x_.b3],U J.a' bd bn x_.l,al.map dn (Value.int .i64) b9 x_.cA,U (ak .i64) aR aU x_.b3]/\UN=(.go ())) (fun K c3=>?_) ?_
 · refine cw (fun (bu:Nat) a w=>∃ (hO:Int),Fr ⟨65,[]⟩ [(0,.aL a7),(14,.q bd bn x_.l),(15,.i (x_.l.length:Int)),(16,.i hO)] a/\ar W M0 X w [] [al.cM a7 [.q bd bn x_.l,.map (some b9),.q aR aU x_.b3],U J.a' bd bn x_.l,al.map dn (Value.int .i64) b9 x_.cA,U (ak .i64) aR aU x_.b3]/\J.xZ F x_ bu hO=some UN) F ⟨0,I.cut,hm,h⟩ ?_ ?_
   · rintro a w ⟨hO,I,hm,h⟩;exact absurd h (by simp [J.xZ])
   rintro bu a w ⟨hO,I,hm,h⟩ K cp;rw [J.xZ] at h;refine bb [] [(17,.bool (decide (hO <(x_.l.length:Int))))] I fun a I=>wp_seq_k fun K dl=>bk (I.g rfl) h (fun apf h=>?_) (fun apf h=>?_)
   · refine wp_skip <| dl _ _ <| wp_seq_k fun K cN=>?_;obtain ⟨ad_,h,Sv⟩:=J.eT h;refine ca (fun a w=>Fr ⟨65,[]⟩ [(0,.aL a7),(14,.q bd bn x_.l),(15,.i (x_.l.length:Int)),(16,.i hO)] a/\ar W M0 X w [] [al.cM a7 [.q bd bn x_.l,.map (some b9),.q aR aU x_.b3],U J.a' bd bn x_.l,al.map dn (Value.int .i64) b9 x_.cA,U (ak .i64) aR aU x_.b3]/\ad_=(.go ())) (fun K dq=>?_) ?_
     · refine wp_seq_k fun K dc=>aY <| aN 1 [] [(18,.i hO)] I fun a I=>?_;obtain ⟨dm,aB_,h⟩:=J.aH h;obtain ⟨aln,awd,_,⟨jZ,j3,hI,ib,rfl,auj,auk⟩,arX⟩:=bX _ (hm.d 1 rfl) aB_;have hm:=hm.more (y:=U J.aW jZ j3 dm.Fields) auj;have hm:=hm.more (y:=U J.b4 hI ib dm.aQ) auk;refine bQ wn (bF Tryz.underlying25 Tryz.sizeOf136 rfl (I.g rfl) (I.g rfl) aln awd) I rfl rfl fun a I=>?_
       refine bi 1 [0,0] [(20,.agg #[ao dm.Name,ao dm.bZ,.q jZ j3 dm.Fields,.q hI ib dm.aQ])] [bG bd,bH bd+(hO).toNat* 4] (av arX aw) I fun a I=>cD (cs:=[ao [],ao [],.slice none 0 0,.slice none 0 0]) wn (eQ Tryz.zeroValue136 rfl rfl) I hm rfl rfl fun a lD w _ I hm=>aN 1 [] [(3,.i hO)] I fun a I=>cX (vs:=[ao dm.Name,ao dm.bZ,.q jZ j3 dm.Fields,.q hI ib dm.aQ]) 0 hm rfl wn rfl Tryz.sizeOf136 rfl rfl rfl rfl (I.g rfl) (I.g rfl) rfl fun w hm=>?_
       refine wpList_nil <| dc _ _ <| wp_seq_k fun K dC=>aY <| aN 2 [] [(21,.aL a7),(22,.i hO)] I fun a I=>?_;obtain ⟨o2,azW,h⟩:=J.aH h;have hc:=hm;refine bP (vs:=[.aL a7,.i hO]) wn rfl Tryz.call105 ⟨(I.g rfl),(I.g rfl),trivial⟩ (Qa ((hc.into 0).pick ⟨⟨2,rfl⟩,⟨3,rfl⟩,⟨4,rfl⟩,⟨5,rfl⟩,trivial⟩) azW) I rfl rfl ?_;rintro _ w ⟨vy,wT,aKd,rfl,af⟩;refine ⟨_,rfl,fun a I=>?_⟩;have ad:ba [] _ w:=af.ev;have hm:=hc.back 0 af;clear af hc
       clear ad;obtain ⟨gY,ayy,h⟩:=J.aH h;have hm:=hm.freeze 0 0 rfl rfl;refine afD (T:=(ak .i64)) (i:=1) (j:=(o2.length:Int)) 0 hm rfl Tryz.underlying22 Tryz.sizeOf3 ayy wn rfl (I.g rfl) (.inr ⟨_,rfl,(cW _ _)⟩) (.inl ⟨rfl,rfl⟩) I rfl rfl fun a kQ mi I hm=>aN 2 [] [(25,.i (gY.length:Int)),(26,.i 0)] I fun a I=>wpList_nil (dC _ _ ?_);obtain ⟨U9,h,Sx⟩:=J.eT h
       refine ca (fun a w=>Fr ⟨65,[]⟩ [(0,.aL a7),(14,.q bd bn x_.l),(15,.i (x_.l.length:Int)),(16,.i hO)] a/\ar W M0 X w [aq.br lD 136 [ao dm.Name,ao dm.bZ,.q jZ j3 dm.Fields,.q hI ib dm.aQ]] [U (ak .i64) kQ mi gY,U (ak .i64) vy wT o2,U J.b4 hI ib dm.aQ,U J.aW jZ j3 dm.Fields,al.cM a7 [.q bd bn x_.l,.map (some b9),.q aR aU x_.b3],U J.a' bd bn x_.l,al.map dn (Value.int .i64) b9 x_.cA,U (ak .i64) aR aU x_.b3]/\U9=(.go ())) (fun K dS=>?_) ?_
       · refine cw (fun (c7:Nat) a w=>∃ (kF:Int),Fr ⟨65,[]⟩ [(0,.aL a7),(4,.aL lD),(14,.q bd bn x_.l),(15,.i (x_.l.length:Int)),(16,.i hO),(24,.q kQ mi gY),(25,.i (gY.length:Int)),(26,.i kF)] a/\ar W M0 X w [aq.br lD 136 [ao dm.Name,ao dm.bZ,.q jZ j3 dm.Fields,.q hI ib dm.aQ]] [U (ak .i64) kQ mi gY,U (ak .i64) vy wT o2,U J.b4 hI ib dm.aQ,U J.aW jZ j3 dm.Fields,al.cM a7 [.q bd bn x_.l,.map (some b9),.q aR aU x_.b3],U J.a' bd bn x_.l,al.map dn (Value.int .i64) b9 x_.cA,U (ak .i64) aR aU x_.b3]/\J.x0 F x_ dm gY c7 kF=some U9) F ⟨0,I.cut,hm.eA [0,1,3,4,5,6,7,8],h⟩ ?_ ?_
         · rintro a w ⟨kF,I,hm,h⟩;exact absurd h (by simp [J.x0])
         rintro c7 a w ⟨kF,I,hm,h⟩ K dL;rw [J.x0] at h;refine bb [] [(27,.bool (decide (kF <(gY.length:Int))))] I fun a I=>wp_seq_k fun K eX=>bk (I.g rfl) h (fun apl h=>?_) (fun apl h=>?_)
         · refine wp_skip <| eX _ _ <| wp_seq_k fun K gx=>?_;obtain ⟨ad',h,Sy⟩:=J.eT h
           refine ca (fun a w=>Fr ⟨65,[]⟩ [(0,.aL a7),(4,.aL lD),(14,.q bd bn x_.l),(15,.i (x_.l.length:Int)),(16,.i hO),(24,.q kQ mi gY),(25,.i (gY.length:Int)),(26,.i kF)] a/\ar W M0 X w [aq.br lD 136 [ao dm.Name,ao dm.bZ,.q jZ j3 dm.Fields,.q hI ib dm.aQ]] [U (ak .i64) kQ mi gY,U (ak .i64) vy wT o2,U J.b4 hI ib dm.aQ,U J.aW jZ j3 dm.Fields,al.cM a7 [.q bd bn x_.l,.map (some b9),.q aR aU x_.b3],U J.a' bd bn x_.l,al.map dn (Value.int .i64) b9 x_.cA,U (ak .i64) aR aU x_.b3]/\ad'=(.go ())) (fun K g9=>?_) ?_
           · refine wp_seq_k fun K fu=>aY ?_;obtain ⟨o7,aB',h⟩:=J.aH h;obtain ⟨alo,awf,_,rfl,ar0⟩:=bX _ (hm.d 0 rfl) aB';refine bQ wn (bF Tryz.underlying22 Tryz.sizeOf3 rfl (I.g rfl) (I.g rfl) alo awf) I rfl rfl fun a I=>bi 2 [0,0] [(6,.i o7)] [bG kQ,bH kQ+(kF).toNat* 1] (av ar0 aw) I fun a I=>wpList_nil (fu _ _ ?_);refine wp_seq_k fun K fK=>eE [0,3] [(31,.q hI ib dm.aQ),(32,.i (dm.aQ.length:Int)),(33,.i 0)] [lD,3] (av (a2 (hm.e 0 rfl)) aw) I fun a I=>fK _ _ ?_;obtain ⟨U',h,Sz⟩:=J.eT h
             refine ca (fun a w=>Fr ⟨65,[]⟩ [(0,.aL a7),(4,.aL lD),(14,.q bd bn x_.l),(15,.i (x_.l.length:Int)),(16,.i hO),(24,.q kQ mi gY),(25,.i (gY.length:Int)),(26,.i kF)] a/\ar W M0 X w [aq.br lD 136 [ao dm.Name,ao dm.bZ,.q jZ j3 dm.Fields,.q hI ib dm.aQ]] [U (ak .i64) kQ mi gY,U (ak .i64) vy wT o2,U J.b4 hI ib dm.aQ,U J.aW jZ j3 dm.Fields,al.cM a7 [.q bd bn x_.l,.map (some b9),.q aR aU x_.b3],U J.a' bd bn x_.l,al.map dn (Value.int .i64) b9 x_.cA,U (ak .i64) aR aU x_.b3]/\U'=(.go ())) (fun K fR=>?_) ?_
             · refine cw (fun (et:Nat) a w=>∃ (mX:Int),Fr ⟨65,[]⟩ [(0,.aL a7),(4,.aL lD),(6,.i o7),(14,.q bd bn x_.l),(15,.i (x_.l.length:Int)),(16,.i hO),(24,.q kQ mi gY),(25,.i (gY.length:Int)),(26,.i kF),(31,.q hI ib dm.aQ),(32,.i (dm.aQ.length:Int)),(33,.i mX)] a/\ar W M0 X w [aq.br lD 136 [ao dm.Name,ao dm.bZ,.q jZ j3 dm.Fields,.q hI ib dm.aQ]] [U (ak .i64) kQ mi gY,U (ak .i64) vy wT o2,U J.b4 hI ib dm.aQ,U J.aW jZ j3 dm.Fields,al.cM a7 [.q bd bn x_.l,.map (some b9),.q aR aU x_.b3],U J.a' bd bn x_.l,al.map dn (Value.int .i64) b9 x_.cA,U (ak .i64) aR aU x_.b3]/\J.x1 F x_ dm o7 et mX=some U') F ⟨0,I.cut,hm,h⟩ ?_ ?_
               · rintro a w ⟨mX,I,hm,h⟩;exact absurd h (by simp [J.x1])
               rintro et a w ⟨mX,I,hm,h⟩ K gm;rw [J.x1] at h;refine bb [] [(34,.bool (decide (mX <(dm.aQ.length:Int))))] I fun a I=>wp_seq_k fun K hB=>bk (I.g rfl) h (fun apn h=>?_) (fun apn h=>?_)
               · refine wp_skip <| hB _ _ <| wp_seq_k fun K hX=>?_;obtain ⟨aea,h,SA⟩:=J.eT h
                 refine ca (fun a w=>Fr ⟨65,[]⟩ [(0,.aL a7),(4,.aL lD),(6,.i o7),(14,.q bd bn x_.l),(15,.i (x_.l.length:Int)),(16,.i hO),(24,.q kQ mi gY),(25,.i (gY.length:Int)),(26,.i kF),(31,.q hI ib dm.aQ),(32,.i (dm.aQ.length:Int)),(33,.i mX)] a/\ar W M0 X w [aq.br lD 136 [ao dm.Name,ao dm.bZ,.q jZ j3 dm.Fields,.q hI ib dm.aQ]] [U (ak .i64) kQ mi gY,U (ak .i64) vy wT o2,U J.b4 hI ib dm.aQ,U J.aW jZ j3 dm.Fields,al.cM a7 [.q bd bn x_.l,.map (some b9),.q aR aU x_.b3],U J.a' bd bn x_.l,al.map dn (Value.int .i64) b9 x_.cA,U (ak .i64) aR aU x_.b3]/\aea=(.go ())) (fun K ho=>?_) ?_
                 · refine wp_seq_k fun K hp=>aY ?_;obtain ⟨du,aCa,h⟩:=J.aH h;obtain ⟨alp,awg,_,⟨sP,ti,sQ,tj,rfl,aun,auo⟩,ar1⟩:=bX _ (hm.d 2 rfl) aCa;have hm:=hm.more (y:=U J.dt sP ti du.bI) aun;have hm:=hm.more (y:=U J.eg sQ tj du.bK) auo;refine bQ wn (bF Tryz.underlying134 Tryz.sizeOf133 rfl (I.g rfl) (I.g rfl) alp awg) I rfl rfl fun a I=>?_
                   refine bi 1 [0,0] [(36,.agg #[ao du.Name,.bool du.Static,.q sP ti du.bI,.i du.Returns.Kind,ao du.Returns.aM,.i du.cR,.i du.cQ,ao du.Code,.q sQ tj du.bK])] [bG hI,bH hI+(mX).toNat* 9] (av ar1 aw) I fun a I=>cD (cs:=[ao [],.bool false,.slice none 0 0,.i 0,ao [],.i 0,.i 0,ao [],.slice none 0 0]) wn (eQ Tryz.zeroValue133 rfl rfl) I hm rfl rfl fun a Fz w _ I hm=>?_
                   refine cX (vs:=[ao du.Name,.bool du.Static,.q sP ti du.bI,.i du.Returns.Kind,ao du.Returns.aM,.i du.cR,.i du.cQ,ao du.Code,.q sQ tj du.bK]) 0 hm rfl wn rfl Tryz.sizeOf133 rfl rfl rfl rfl (I.g rfl) (I.g rfl) rfl fun w hm=>wpList_nil <| hp _ _ <| wp_seq_k fun K hq=>aY <| bi 5 [0,0] [(40,.q bd bn x_.l),(41,.i o7)] [a7,0] (av (hm.d 6 rfl).2.2 aw) I fun a I=>?_;obtain ⟨jX,aCb,h⟩:=J.aH h
                   obtain ⟨alq,awh,_,⟨O5,PJ,yM,ET,rfl,aup,auq⟩,ar2⟩:=bX _ (hm.d 7 rfl) aCb;have hm:=hm.more (y:=U J.aW O5 PJ jX.Fields) aup;have hm:=hm.more (y:=U J.b4 yM ET jX.aQ) auq;refine bQ wn (bF Tryz.underlying25 Tryz.sizeOf136 rfl (I.g rfl) (I.g rfl) alq awh) I rfl rfl fun a I=>bi 4 [0,3] [(44,.q yM ET jX.aQ),(45,.i (jX.aQ.length:Int)),(46,.i 0)] [bG bd,bH bd+(o7).toNat* 4 + 3] (av ar2 aw) I fun a I=>wpList_nil (hq _ _ ?_);obtain ⟨Va,h,SB⟩:=J.eT h
                   refine ca (fun a w=>Fr ⟨65,[]⟩ [(0,.aL a7),(4,.aL lD),(6,.i o7),(14,.q bd bn x_.l),(15,.i (x_.l.length:Int)),(16,.i hO),(24,.q kQ mi gY),(25,.i (gY.length:Int)),(26,.i kF),(31,.q hI ib dm.aQ),(32,.i (dm.aQ.length:Int)),(33,.i mX)] a/\ar W M0 X w [aq.br Fz 133 [ao du.Name,.bool du.Static,.q sP ti du.bI,.i du.Returns.Kind,ao du.Returns.aM,.i du.cR,.i du.cQ,ao du.Code,.q sQ tj du.bK],aq.br lD 136 [ao dm.Name,ao dm.bZ,.q jZ j3 dm.Fields,.q hI ib dm.aQ]] [U J.b4 yM ET jX.aQ,U J.aW O5 PJ jX.Fields,U J.eg sQ tj du.bK,U J.dt sP ti du.bI,U (ak .i64) kQ mi gY,U (ak .i64) vy wT o2,U J.b4 hI ib dm.aQ,U J.aW jZ j3 dm.Fields,al.cM a7 [.q bd bn x_.l,.map (some b9),.q aR aU x_.b3],U J.a' bd bn x_.l,al.map dn (Value.int .i64) b9 x_.cA,U (ak .i64) aR aU x_.b3]/\Va=(.go ())) (fun K jC=>?_) ?_
                   · refine cw (fun (fy:Nat) a w=>∃ (mY:Int),Fr ⟨65,[]⟩ [(0,.aL a7),(4,.aL lD),(6,.i o7),(8,.aL Fz),(14,.q bd bn x_.l),(15,.i (x_.l.length:Int)),(16,.i hO),(24,.q kQ mi gY),(25,.i (gY.length:Int)),(26,.i kF),(31,.q hI ib dm.aQ),(32,.i (dm.aQ.length:Int)),(33,.i mX),(44,.q yM ET jX.aQ),(45,.i (jX.aQ.length:Int)),(46,.i mY)] a/\ar W M0 X w [aq.br Fz 133 [ao du.Name,.bool du.Static,.q sP ti du.bI,.i du.Returns.Kind,ao du.Returns.aM,.i du.cR,.i du.cQ,ao du.Code,.q sQ tj du.bK],aq.br lD 136 [ao dm.Name,ao dm.bZ,.q jZ j3 dm.Fields,.q hI ib dm.aQ]] [U J.b4 yM ET jX.aQ,U J.aW O5 PJ jX.Fields,U J.eg sQ tj du.bK,U J.dt sP ti du.bI,U (ak .i64) kQ mi gY,U (ak .i64) vy wT o2,U J.b4 hI ib dm.aQ,U J.aW jZ j3 dm.Fields,al.cM a7 [.q bd bn x_.l,.map (some b9),.q aR aU x_.b3],U J.a' bd bn x_.l,al.map dn (Value.int .i64) b9 x_.cA,U (ak .i64) aR aU x_.b3]/\J.uT F du jX fy mY=some Va) F ⟨0,I.cut,hm,h⟩ ?_ ?_
                     · rintro a w ⟨mY,I,hm,h⟩;exact absurd h (by simp [J.uT])
                     rintro fy a w ⟨mY,I,hm,h⟩ K jl;rw [J.uT] at h;refine bb [] [(47,.bool (decide (mY <(jX.aQ.length:Int))))] I fun a I=>wp_seq_k fun K jD=>bk (I.g rfl) h (fun apo h=>?_) (fun apo h=>?_)
                     · refine wp_skip <| jD _ _ <| wp_seq_k fun K jE=>wp_block <| wp_seq_k fun K j9=>aY ?_;obtain ⟨eL,aCc,h⟩:=J.aH h;obtain ⟨alr,awi,_,⟨D1,EU,D2,EV,rfl,aur,aus⟩,ar3⟩:=bX _ (hm.d 0 rfl) aCc;have hm:=hm.more (y:=U J.dt D1 EU eL.bI) aur;have hm:=hm.more (y:=U J.eg D2 EV eL.bK) aus;refine bQ wn (bF Tryz.underlying134 Tryz.sizeOf133 rfl (I.g rfl) (I.g rfl) alr awi) I rfl rfl fun a I=>?_
                       refine bi 1 [0,0] [(49,.agg #[ao eL.Name,.bool eL.Static,.q D1 EU eL.bI,.i eL.Returns.Kind,ao eL.Returns.aM,.i eL.cR,.i eL.cQ,ao eL.Code,.q D2 EV eL.bK])] [bG yM,bH yM+(mY).toNat* 9] (av ar3 aw) I fun a I=>cD (cs:=[ao [],.bool false,.slice none 0 0,.i 0,ao [],.i 0,.i 0,ao [],.slice none 0 0]) wn (eQ Tryz.zeroValue133 rfl rfl) I hm rfl rfl fun a acg w _ I hm=>?_
                       refine cX (vs:=[ao eL.Name,.bool eL.Static,.q D1 EU eL.bI,.i eL.Returns.Kind,ao eL.Returns.aM,.i eL.cR,.i eL.cQ,ao eL.Code,.q D2 EV eL.bK]) 0 hm rfl wn rfl Tryz.sizeOf133 rfl rfl rfl rfl (I.g rfl) (I.g rfl) rfl fun w hm=>wpList_nil <| j9 _ _ <| wp_seq_k fun K j_=>aY <| bi 6 [0,0,1,0] [(55,.bool (decide (du.Name=eL.Name)))] [acg,0,Fz,0] (av (a2 (hm.e 1 rfl)) (av (a2 (hm.e 0 rfl)) aw)) I fun a I=>?_
                       rcases Bool.eq_false_or_eq_true (decide (du.Name=eL.Name)) with F3 | F3
                       · have h:=J.dj F3 h;have I:=I.b6 55 rfl F3;refine bi 2 [1,0,0,1,1,0] [(56,.agg #[ao du.Name,.bool du.Static,.q sP ti du.bI,.i du.Returns.Kind,ao du.Returns.aM,.i du.cR,.i du.cQ,ao du.Code,.q sQ tj du.bK]),(57,.agg #[ao eL.Name,.bool eL.Static,.q D1 EU eL.bI,.i eL.Returns.Kind,ao eL.Returns.aM,.i eL.cR,.i eL.cQ,ao eL.Code,.q D2 EV eL.bK])] [acg,0,Fz,0] (av (a2 (hm.e 1 rfl)) (av (a2 (hm.e 0 rfl)) aw)) I fun a I=>?_;obtain ⟨W4,azX,h⟩:=J.aH h;have hc:=hm
                         refine bP (vs:=[.agg #[ao du.Name,.bool du.Static,.q sP ti du.bI,.i du.Returns.Kind,ao du.Returns.aM,.i du.cR,.i du.cQ,ao du.Code,.q sQ tj du.bK],.agg #[ao eL.Name,.bool eL.Static,.q D1 EU eL.bI,.i eL.Returns.Kind,ao eL.Returns.aM,.i eL.cR,.i eL.cQ,ao eL.Code,.q D2 EV eL.bK]]) (cV I rfl rfl rfl rfl) rfl Tryz.call106 ⟨(I.g rfl),(I.g rfl),trivial⟩ (aiZ (a_:=du) (b_:=eL) ((hc.into 0).pick ⟨⟨5,rfl⟩,⟨4,rfl⟩,⟨1,rfl⟩,⟨0,rfl⟩,trivial⟩) azX) I rfl rfl ?_
                         rintro _ w ⟨rfl,af⟩;refine ⟨_,rfl,fun a I=>?_⟩;have hm:=hc.back 0 af;clear af hc;refine aN 2 [1,1] [(60,.bool (!W4))] I fun a I=>wpList_nil (j_ _ _ ?_);refine bk (I.g rfl) h (fun app h=>?_) (fun app h=>?_)
                         · refine bt [] [(2,.i 4)] I fun a I=>wp_ret ?_;obtain rfl:=ay h;obtain rfl:=ay SB;obtain rfl:=ay SA;obtain rfl:=ay Sz;obtain rfl:=ay Sy;obtain rfl:=ay Sx;obtain rfl:=ay Sv;obtain rfl:=ay Sa
                           refine a8 (aj (aj (a8 (aj (a8 (aj (aj (aj (a8 (aj (a8 (aj (aj (aj (a8 (aj (a8 (aj (aj (aj (a8 (aj (aj ?_)))))))))))))))))))))));refine bq Tryz.results80 I rfl ?_;exact ⟨rfl,hm.aX [] []⟩
                         refine wp_skip <| jE _ _ <| cg [] [(46,.i (J.ap (mY+ 1)))] I fun a I=>?_;exact jl _ _ ⟨J.ap (mY+ 1),I.cut,hm.aX [1,2] [2,3,4,5,6,7,8,9,10,11,12,13],h⟩
                       have h:=J.di F3 h;have I:=I.b6 55 rfl F3;refine aN 5 [1,1,1,1,1] [(60,.bool false)] I fun a I=>wpList_nil (j_ _ _ ?_);refine hW (I.g rfl) rfl <| wp_skip <| jE _ _ <| cg [] [(46,.i (J.ap (mY+ 1)))] I fun a I=>?_;exact jl _ _ ⟨J.ap (mY+ 1),I.cut,hm.aX [1,2] [2,3,4,5,6,7,8,9,10,11,12,13],h⟩
                     refine wp_exit <| bz (bz (cr ?_));exact jC _ _ ⟨I.cut,hm,(os h)⟩
                   rintro a w ⟨I,hm,bc⟩;subst Va;have h:=SB;clear SB;dsimp only [J.eN] at h;exact ho _ _ ⟨I.cut,hm.aX [1] [4,5,6,7,8,9,10,11],(os h)⟩
                 rintro a w ⟨I,hm,bc⟩;subst aea;have h:=SA;clear SA;dsimp only [J.eN] at h;refine hX _ _ <| cg [] [(33,.i (J.ap (mX+ 1)))] I fun a I=>?_;exact gm _ _ ⟨J.ap (mX+ 1),I.cut,hm,h⟩
               refine wp_exit <| bz (bz (cr ?_));exact fR _ _ ⟨I.cut,hm,(os h)⟩
             rintro a w ⟨I,hm,bc⟩;subst U';have h:=Sz;clear Sz;dsimp only [J.eN] at h;exact g9 _ _ ⟨I.cut,hm,(os h)⟩
           rintro a w ⟨I,hm,bc⟩;subst ad';have h:=Sy;clear Sy;dsimp only [J.eN] at h;refine gx _ _ <| cg [] [(26,.i (J.ap (kF+ 1)))] I fun a I=>?_;exact dL _ _ ⟨J.ap (kF+ 1),I.cut,hm,h⟩
         refine wp_exit <| bz (bz (cr ?_));exact dS _ _ ⟨I.cut,hm,(os h)⟩
       rintro a w ⟨I,hm,bc⟩;subst U9;have h:=Sx;clear Sx;dsimp only [J.eN] at h;exact dq _ _ ⟨I.cut,hm.aX [] [4,5,6,7],(os h)⟩
     rintro a w ⟨I,hm,bc⟩;subst ad_;have h:=Sv;clear Sv;dsimp only [J.eN] at h;refine cN _ _ <| cg [] [(16,.i (J.ap (hO+ 1)))] I fun a I=>?_;exact cp _ _ ⟨J.ap (hO+ 1),I.cut,hm,h⟩
   refine wp_exit <| bz (bz (cr ?_));exact c3 _ _ ⟨I.cut,hm,(os h)⟩
 rintro a w ⟨I,hm,bc⟩;subst UN;have h:=Sa;clear Sa;dsimp only [J.dW] at h;refine bN _ _ <| bt [] [(2,.i 0)] I fun a I=>wp_ret ?_;obtain rfl:=ay h;refine bq Tryz.results80 I rfl ?_;exact ⟨rfl,hm.aX [] []⟩
end Go.Proofs.YtpkhpagplommoaaGreat
namespace J
def MR (s_:List Field):Option (List Field):=
 (ep 40 ([]:List Field) s_).bind fun kd=>
 some kd
def MU (s_:List Method):Option (List Method):=
 (ep 128 ([]:List Method) s_).bind fun kd=>
 some kd
def MT (s_:List Kind):Option (List Kind):=
 (ep 24 ([]:List Kind) s_).bind fun kd=>
 some kd
def MS (s_:List Handler):Option (List Handler):=
 (ep 40 ([]:List Handler) s_).bind fun kd=>
 some kd
def rb:Nat->(List Method)->Int->Int->Option (List Method)
 | 0,_,_,_=>none
 | c7+ 1,kB,u3,iZ=>
   cond (decide (iZ <u3)) ((idx kB iZ).bind fun hF=>
   (MT hF.bI).bind fun MG=>
   (MS hF.bK).bind fun MH=>
   (idx kB iZ).bind fun hG=>
   (some (kB.set (iZ).toNat (⟨hG.Name,hG.Static,MG,(⟨hG.Returns.Kind,hG.Returns.aM⟩:Kind),hG.cR,hG.cQ,hG.Code,hG.bK⟩:Method))).bind fun Wp=>
   (idx Wp iZ).bind fun hH=>
   (some (Wp.set (iZ).toNat (⟨hH.Name,hH.Static,hH.bI,(⟨hH.Returns.Kind,hH.Returns.aM⟩:Kind),hH.cR,hH.cQ,hH.Code,MH⟩:Method))).bind fun Wq=>
   rb c7 Wq u3 (ap (iZ+ 1))) (some kB)
def ra (F:Nat) (aJ:List aM):Nat->(List aM)->Int->Option (List aM)
 | 0,_,_=>none
 | bu+ 1,jI,m2=>
   cond (decide (m2 <(aJ.length:Int))) (Option.bind (α:=List aM) ((idx aJ m2).bind fun gd=>
   (MR gd.Fields).bind fun m6=>
   (MU gd.aQ).bind fun yj=>
   Option.bind (α:=List Method) (rb F yj (yj.length:Int) 0) fun (pR:List Method)=>
   (ep 80 jI [(⟨gd.Name,gd.bZ,m6,pR⟩:aM)]).bind fun L4=>
   some L4) fun (uG:List aM)=>
   ra F aJ bu uG (ap (m2+ 1))) (some jI)
def HH (F:Nat) (aJ:List aM):Option (List aM):=
 Option.bind (α:=List aM) (ra F aJ F [] 0) fun (uu:List aM)=>
 some uu
def yv (s_:List (List UInt8)) (v_:List UInt8):Nat->Int->Option (Way (Int) (Unit))
 | 0,_=>none
 | bu+ 1,g3=>
   cond (decide (g3 <(s_.length:Int))) ((idx s_ g3).bind fun AR=>
   cond (decide (v_=AR)) (some (.out g3)) (yv s_ v_ bu (ap (g3+ 1)))) (some (.go ()))
def Ii (F:Nat) (s_:List (List UInt8)) (v_:List UInt8):Option (Int):=
 dr (α:=Unit) (yv s_ v_ F 0) fun (_:Unit)=>
 some (-1)
def x4 (F:Nat) (fx:Int) (gE:aM):Nat->(List (List UInt8))->(List Target)->Int->Option ((List (List UInt8)) × (List Target))
 | 0,_,_,_=>none
 | c7+ 1,kf,mS,fG=>
   cond (decide (fG <(gE.aQ.length:Int))) (Option.bind (α:=(List (List UInt8)) × (List Target)) ((idx gE.aQ fG).bind fun gF=>
   (Ii F kf gF.Name).bind fun Ay=>
   cond (decide (0 <=Ay)) ((idx mS Ay).bind fun Yj=>
   (some (mS.set (Ay).toNat (⟨fx,fG⟩:Target))).bind fun Wr=>
   some (kf,Wr)) ((ep 16 kf [gF.Name]).bind fun L5=>
   (ep 16 mS [(⟨fx,fG⟩:Target)]).bind fun ss=>
   some (L5,ss))) fun ((uL,uM):(List (List UInt8)) × (List Target))=>
   x4 F fx gE c7 uL uM (ap (fG+ 1))) (some (kf,mS))
def x3 (F:Nat) (x_:df):List Int->(List (List UInt8))->(List Target)->Option ((List (List UInt8)) × (List Target))
 | [],k6,k7=>some (k6,k7)
 | fx::MN,k6,k7=>
   Option.bind (α:=(List (List UInt8)) × (List Target)) ((idx x_.l fx).bind fun gE=>
   Option.bind (α:=(List (List UInt8)) × (List Target)) (x4 F fx gE F k6 k7 0) fun ((uJ,uK):(List (List UInt8)) × (List Target))=>
   some (uJ,uK)) fun ((uH,uI):(List (List UInt8)) × (List Target))=>
   x3 F x_ MN uH uI
def HF (F:Nat) (x_:df) (bU:Int):Option ((List (List UInt8)) × (List Target)):=
 (uR F (⟨x_.l,x_.cA,x_.b3⟩:df) bU).bind fun hf=>
 (H8 hf).bind fun gr=>
 Option.bind (α:=(List (List UInt8)) × (List Target)) (x3 F x_ hf.reverse [] []) fun ((k6,k7):(List (List UInt8)) × (List Target))=>
 some (k6,k7)
def pS (F:Nat) (dH:List aM) (gr:Int × df) (dk:Int × df):Nat->(List (List Target))->(List (List (List UInt8)))->(List (List Field))->Int->Option (Way (bs × Int) ((List (List Target)) × (List (List (List UInt8))) × (List (List Field))))
 | 0,_,_,_,_=>none
 | bu+ 1,pt,pu,pv,jq=>
   cond (decide (jq <(dH.length:Int))) ((HF F (⟨dH,gr.2.cA,dk.2.b3⟩:df) jq).bind fun lZ=>
   (xX F (⟨dH,gr.2.cA,dk.2.b3⟩:df) jq).bind fun HV=>
   (ep 24 pv [HV]).bind fun CL=>
   (ep 24 pu [lZ.1]).bind fun LK=>
   (ep 24 pt [lZ.2]).bind fun LL=>
   (idx CL jq).bind fun Nd=>
   cond ((decide (12 <(Nd.length:Int))) || (decide (16 <(lZ.1.length:Int)))) (some (.out ((⟨[],[],[],[],[]⟩:bs),2))) (pS F dH gr dk bu LL LK CL (ap (jq+ 1)))) (some (.go (pt,pu,pv)))
def xV (F:Nat) (aJ:List aM):Option (bs × Int):=
 (Ht F aJ).bind fun h6=>
 cond (!decide (h6= 0)) (some ((⟨[],[],[],[],[]⟩:bs),h6)) ((HH F aJ).bind fun dH=>
 (CO F (⟨dH,[],[]⟩:df)).bind fun gr=>
 cond (!decide (gr.1 = 0)) (some ((⟨[],[],[],[],[]⟩:bs),gr.1)) ((L8 F (⟨dH,gr.2.cA,[]⟩:df)).bind fun dk=>
 cond (!decide (dk.1 = 0)) (some ((⟨[],[],[],[],[]⟩:bs),dk.1)) ((L9 F (⟨dH,gr.2.cA,dk.2.b3⟩:df)).bind fun eH=>
 cond (!decide (eH= 0)) (some ((⟨[],[],[],[],[]⟩:bs),eH)) ((HG F (⟨dH,gr.2.cA,dk.2.b3⟩:df)).bind fun gb=>
 cond (!decide (gb= 0)) (some ((⟨[],[],[],[],[]⟩:bs),gb)) ((HE F (⟨dH,gr.2.cA,dk.2.b3⟩:df)).bind fun cm=>
 cond (!decide (cm= 0)) (some ((⟨[],[],[],[],[]⟩:bs),cm)) ((HD F (⟨dH,gr.2.cA,dk.2.b3⟩:df)).bind fun yf=>
 cond (!decide (yf= 0)) (some ((⟨[],[],[],[],[]⟩:bs),yf)) (dr (α:=(List (List Target)) × (List (List (List UInt8))) × (List (List Field))) (pS F dH gr dk F [] [] [] 0) fun ((nF,nG,nH):(List (List Target)) × (List (List (List UInt8))) × (List (List Field)))=>
 some ((⟨dH,dk.2.b3,nH,nG,nF⟩:bs),0))))))))
def yq (b8:List Int) (cl:List Int):Nat->Int->Option (Way (Bool) (Unit))
 | 0,_=>none
 | bu+ 1,cd=>
   cond (decide (cd <(b8.length:Int))) ((idx b8 cd).bind fun fa=>
   (idx cl cd).bind fun fl=>
   cond (!decide (fa=fl)) (some (.out false)) (yq b8 cl bu (ap (cd+ 1)))) (some (.go ()))
def If (F:Nat) (b8:List Int) (cl:List Int):Option (Bool):=
 cond (!decide ((b8.length:Int)=(cl.length:Int))) (some false) (dr (α:=Unit) (yq b8 cl F 0) fun (_:Unit)=>
 some true)
def yo (b8:List Field) (cl:List Field):Nat->Int->Option (Way (Bool) (Unit))
 | 0,_=>none
 | bu+ 1,cd=>
   cond (decide (cd <(b8.length:Int))) ((idx b8 cd).bind fun fa=>
   (idx cl cd).bind fun fl=>
   cond (!decide (fa=fl)) (some (.out false)) (yo b8 cl bu (ap (cd+ 1)))) (some (.go ()))
def Ia (F:Nat) (b8:List Field) (cl:List Field):Option (Bool):=
 cond (!decide ((b8.length:Int)=(cl.length:Int))) (some false) (dr (α:=Unit) (yo b8 cl F 0) fun (_:Unit)=>
 some true)
def yl (F:Nat) (b8:List (List Field)) (cl:List (List Field)):Nat->Int->Option (Way (Bool) (Unit))
 | 0,_=>none
 | bu+ 1,eK=>
   cond (decide (eK <(b8.length:Int))) ((idx b8 eK).bind fun jW=>
   (idx cl eK).bind fun h8=>
   (Ia F jW h8).bind fun rj=>
   cond (!rj) (some (.out false)) (yl F b8 cl bu (ap (eK+ 1)))) (some (.go ()))
def H9 (F:Nat) (b8:List (List Field)) (cl:List (List Field)):Option (Bool):=
 cond (!decide ((b8.length:Int)=(cl.length:Int))) (some false) (dr (α:=Unit) (yl F b8 cl F 0) fun (_:Unit)=>
 some true)
def yr (b8:List (List UInt8)) (cl:List (List UInt8)):Nat->Int->Option (Way (Bool) (Unit))
 | 0,_=>none
 | bu+ 1,cd=>
   cond (decide (cd <(b8.length:Int))) ((idx b8 cd).bind fun fa=>
   (idx cl cd).bind fun fl=>
   cond (!decide (fa=fl)) (some (.out false)) (yr b8 cl bu (ap (cd+ 1)))) (some (.go ()))
def Ig (F:Nat) (b8:List (List UInt8)) (cl:List (List UInt8)):Option (Bool):=
 cond (!decide ((b8.length:Int)=(cl.length:Int))) (some false) (dr (α:=Unit) (yr b8 cl F 0) fun (_:Unit)=>
 some true)
def yn (F:Nat) (b8:List (List (List UInt8))) (cl:List (List (List UInt8))):Nat->Int->Option (Way (Bool) (Unit))
 | 0,_=>none
 | bu+ 1,eK=>
   cond (decide (eK <(b8.length:Int))) ((idx b8 eK).bind fun jW=>
   (idx cl eK).bind fun h8=>
   (Ig F jW h8).bind fun rj=>
   cond (!rj) (some (.out false)) (yn F b8 cl bu (ap (eK+ 1)))) (some (.go ()))
def H' (F:Nat) (b8:List (List (List UInt8))) (cl:List (List (List UInt8))):Option (Bool):=
 cond (!decide ((b8.length:Int)=(cl.length:Int))) (some false) (dr (α:=Unit) (yn F b8 cl F 0) fun (_:Unit)=>
 some true)
def yp (b8:List Target) (cl:List Target):Nat->Int->Option (Way (Bool) (Unit))
 | 0,_=>none
 | bu+ 1,cd=>
   cond (decide (cd <(b8.length:Int))) ((idx b8 cd).bind fun fa=>
   (idx cl cd).bind fun fl=>
   cond (!decide (fa=fl)) (some (.out false)) (yp b8 cl bu (ap (cd+ 1)))) (some (.go ()))
def Ic (F:Nat) (b8:List Target) (cl:List Target):Option (Bool):=
 cond (!decide ((b8.length:Int)=(cl.length:Int))) (some false) (dr (α:=Unit) (yp b8 cl F 0) fun (_:Unit)=>
 some true)
def ym (F:Nat) (b8:List (List Target)) (cl:List (List Target)):Nat->Int->Option (Way (Bool) (Unit))
 | 0,_=>none
 | bu+ 1,eK=>
   cond (decide (eK <(b8.length:Int))) ((idx b8 eK).bind fun jW=>
   (idx cl eK).bind fun h8=>
   (Ic F jW h8).bind fun rj=>
   cond (!rj) (some (.out false)) (ym F b8 cl bu (ap (eK+ 1)))) (some (.go ()))
def H_ (F:Nat) (b8:List (List Target)) (cl:List (List Target)):Option (Bool):=
 cond (!decide ((b8.length:Int)=(cl.length:Int))) (some false) (dr (α:=Unit) (ym F b8 cl F 0) fun (_:Unit)=>
 some true)
def CP (F:Nat) (a_:bs) (b_:bs):Option (Bool):=
 (If F a_.aA b_.aA).bind fun yb=>
 cond (yb) ((H9 F a_.Fields b_.Fields).bind fun nO=>
 cond (nO) ((H' F a_.Names b_.Names).bind fun yd=>
 cond (yd) ((H_ F a_.az b_.az).bind fun eI=>
 some eI) (some false)) (some false)) (some false)
def oL (F:Nat) (aa:bs):Option (Int):=
 (xV F aa.aD).bind fun c9=>
 cond (!decide (c9.2 = 0)) (some 4) ((CP F (⟨aa.aD,aa.aA,aa.Fields,aa.Names,aa.az⟩:bs) (⟨c9.1.aD,c9.1.aA,c9.1.Fields,c9.1.Names,c9.1.az⟩:bs)).bind fun Xa=>
 cond (!Xa) (some 4) (some 0))
def Ps:Option (List aM):=
 some [(⟨[79,98,106,101,99,116],[],[],[(⟨[109,97,105,110],true,[],(⟨0,[]⟩:Kind),2,0,[1,0,7,31,27],[]⟩:Method)]⟩:aM),(⟨[69,114,114,111,114],[79,98,106,101,99,116],[(⟨[99,111,100,101],(⟨1,[]⟩:Kind)⟩:Field)],[]⟩:aM)]
end J
