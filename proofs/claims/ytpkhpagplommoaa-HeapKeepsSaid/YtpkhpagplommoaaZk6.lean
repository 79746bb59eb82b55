/- Part 6 of the proof that is ended in the last text: small logic, what the functions compute, walks, plain laws. -/
import Derived.Test.YtpkhpagplommoaaZk5
namespace Go.Proofs.Ytpkhpagplommoaa
open Go Go.RowKit Gg
set_option maxHeartbeats 4000000
set_option maxRecDepth 20000
theorem Ht {W:World} {X:List Nat} {F:Nat} {h_:Cin.bd} {ah:Cin.bb} {r:(Option Cin.bU) × Int} {aj:Option Addr} {ar:Nat} {aJ:Option Addr} {aO:Nat} {a8:Option Addr} {ba:Nat} {b0:Option Addr} {b1:Nat} {bP:Option Addr} {bR:Nat} {cA:Option Addr} {cB:Nat} {cw:Option Addr} {cx:Nat} (hm:aD W (aT []) X W [] [aa (ax .i64) aj ar h_.Words,aa (ax .i64) aJ aO h_.al,aa Cin.bL a8 ba ah.aK,aa (ax .i64) b0 b1 ah.aI,aa (aU Cin.bJ) bP bR ah.Fields,aa (aU bZ) cA cB ah.Names,aa (aU Cin.cz) cw cx ah.aH]) (h:Cin.kj F h_ ah=some r) :
 Calls Try.prog 22 [.agg #[.slice aj h_.Words.length ar,.i h_.ai,.i h_.ak,.i h_.aB,.i h_.aA,.slice aJ h_.al.length aO,.i h_.Next],.agg #[.slice a8 ah.aK.length ba,.slice b0 ah.aI.length b1,.slice bP ah.Fields.length bR,.slice cA ah.Names.length cB,.slice cw ah.aH.length cx]].toArray W (fun e az=>∃ PZ:Nat,∃ Nv:Option Addr,∃ Ou:Nat,∃ Nw:Option Addr,∃ Ov:Nat,∃ Nx:Option Addr,∃ Ow:Nat,∃ Ny:Option Addr,∃ Ox:Nat,∃ Nz:Option Addr,∃ Oy:Nat,∃ NA:Option Addr,∃ Oz:Nat,∃ uA:Option Addr,∃ uX:Nat,∃ p2:Option Addr,∃ qd:Nat,∃ NB:Option Addr,∃ OA:Nat,∃ z':Nat,e= .returned (.tuple #[.pointer (eO r.1 PZ),.i r.2])/\aD W (aT []) X az [] [ap.dA r.1 (fun bB=>ap.cF PZ [.slice Nv bB.H.Words.length Ou,.i bB.H.ai,.i bB.H.ak,.i bB.H.aB,.i bB.H.aA,.slice Nw bB.H.al.length Ov,.i bB.H.Next,.slice Nx bB.S.K.aK.length Ow,.slice Ny bB.S.K.aI.length Ox,.slice Nz bB.S.K.Fields.length Oy,.slice NA bB.S.K.Names.length Oz,.slice uA bB.S.K.aH.length uX,.slice p2 bB.ai.length qd,.slice NB bB.ak.length OA,.map (some z')]),ap.dA r.1 (fun bB=>aa (ax .i64) Nv Ou bB.H.Words),ap.dA r.1 (fun bB=>aa (ax .i64) Nw Ov bB.H.al),ap.dA r.1 (fun bB=>aa Cin.bL Nx Ow bB.S.K.aK),ap.dA r.1 (fun bB=>aa (ax .i64) Ny Ox bB.S.K.aI),ap.dA r.1 (fun bB=>aa (aU Cin.bJ) Nz Oy bB.S.K.Fields),ap.dA r.1 (fun bB=>aa (aU bZ) NA Oz bB.S.K.Names),ap.dA r.1 (fun bB=>aa (aU Cin.cz) uA uX bB.S.K.aH),ap.dA r.1 (fun bB=>aa (ax .i64) p2 qd bB.ai),ap.dA r.1 (fun bB=>aa (ax .i64) NB OA bB.ak),ap.dA r.1 (fun bB=>ap.map ek Value.bool z' bB.cj)]):=by
 generalize bK:aT []=aR at hm ⊢;clear bK;refine enter Try.func22 rfl Try.ntmps22 rfl ?_;intro a I;rw [Cin.kj] at h;refine wp_seq_k fun K dx=>?_;refine a5 ?_;refine c5 (cs:=[.slice aj h_.Words.length ar,.i h_.ai,.i h_.ak,.i h_.aB,.i h_.aA,.slice aJ h_.al.length aO,.i h_.Next]) (av rfl) (eY rfl rfl (I.g rfl)) I hm rfl rfl ?_;intro a bN w U I hm;clear U;refine c5 (cs:=[.slice a8 ah.aK.length ba,.slice b0 ah.aI.length b1,.slice bP ah.Fields.length bR,.slice cA ah.Names.length cB,.slice cw ah.aH.length cx]) (av rfl) (eY rfl rfl (I.g rfl)) I hm rfl rfl ?_;intro a c2 w U I hm;clear U
 refine aN 2 [] [(2,.J bN),(3,.J c2)] I fun a I=>wpList_nil (dx _ _ ?_);refine wp_seq_k fun K bS=>?_;refine wp_seq_k fun K cn=>?_;refine a5 ?_;refine bj 1 [0,0] [(2,.J bN),(3,.J c2),(7,.agg #[.slice a8 ah.aK.length ba,.slice b0 ah.aI.length b1,.slice bP ah.Fields.length bR,.slice cA ah.Names.length cB,.slice cw ah.aH.length cx])] [c2,0] (aQ (bh (hm.e 0 rfl)) aS) I fun a I=>?_;obtain ⟨cG,mB,h⟩:=Cin.aV h;have hc:=hm
 refine b4 (vs:=[.agg #[.slice a8 ah.aK.length ba,.slice b0 ah.aI.length b1,.slice bP ah.Fields.length bR,.slice cA ah.Names.length cB,.slice cw ah.aH.length cx]]) (av rfl) rfl Try.call40 ⟨(I.g rfl),trivial⟩ (Ux ((hc.into 0).pick ⟨⟨2,rfl⟩,⟨3,rfl⟩,⟨4,rfl⟩,⟨5,rfl⟩,⟨6,rfl⟩,trivial⟩) mB) I rfl rfl ?_;rintro _ w ⟨rfl,ad⟩;refine ⟨_,rfl,?_⟩;intro a I;have U:aX [] _ w:=ad.ev;have hm:=hc.back 0 ad;dsimp only [List.drop,List.cons_append,List.nil_append,HAppend.hAppend,Append.append,List.append] at hm;clear ad hc;clear U;refine aN 1 [] [(2,.J bN),(3,.J c2),(6,.i cG)] I fun a I=>wpList_nil (cn _ _ ?_);refine wp_seq_k fun K dc=>?_
 refine c6 [] [(2,.J bN),(3,.J c2),(6,.i cG),(10,.bool (!decide (cG= 0)))] I fun a I=>dc _ _ ?_;refine bH (I.g rfl) h (fun H9 h=>?_) (fun H9 h=>?_)
 · refine aP [] [(4,.pointer none),(5,.i cG)] I fun a I=>?_;refine wp_ret ?_;obtain rfl:=Option.some.inj h;refine aW ?_;refine gM Try.results22 I rfl rfl ?_;have hm:=hm.more (y:=ap.wm) trivial;exact ⟨0,none,0,none,0,none,0,none,0,none,0,none,0,none,0,none,0,none,0,0,rfl,(hm.a7 [] rfl rfl).pick ⟨⟨0,rfl⟩,⟨0,rfl⟩,⟨0,rfl⟩,⟨0,rfl⟩,⟨0,rfl⟩,⟨0,rfl⟩,⟨0,rfl⟩,⟨0,rfl⟩,⟨0,rfl⟩,⟨0,rfl⟩,⟨0,rfl⟩,trivial⟩⟩
 refine wp_skip ?_;refine bS _ _ ?_;refine wp_seq_k fun K eR=>?_;refine a5 ?_;refine bj 2 [0,0,1,0] [(12,.agg #[.slice aj h_.Words.length ar,.i h_.ai,.i h_.ak,.i h_.aB,.i h_.aA,.slice aJ h_.al.length aO,.i h_.Next]),(13,.agg #[.slice a8 ah.aK.length ba,.slice b0 ah.aI.length b1,.slice bP ah.Fields.length bR,.slice cA ah.Names.length cB,.slice cw ah.aH.length cx])] [c2,0,bN,0] (aQ (bh (hm.e 1 rfl)) (aQ (bh (hm.e 0 rfl)) aS)) I fun a I=>?_;obtain ⟨B4,Eg,h⟩:=Cin.aV h;have hc:=hm
 refine b4 (vs:=[.agg #[.slice aj h_.Words.length ar,.i h_.ai,.i h_.ak,.i h_.aB,.i h_.aA,.slice aJ h_.al.length aO,.i h_.Next],.agg #[.slice a8 ah.aK.length ba,.slice b0 ah.aI.length b1,.slice bP ah.Fields.length bR,.slice cA ah.Names.length cB,.slice cw ah.aH.length cx]]) (av rfl) rfl Try.call41 ⟨(I.g rfl),(I.g rfl),trivial⟩ (Ur ((hc.into 0).pick ⟨⟨0,rfl⟩,⟨1,rfl⟩,⟨2,rfl⟩,⟨3,rfl⟩,⟨4,rfl⟩,⟨5,rfl⟩,⟨6,rfl⟩,trivial⟩) Eg) I rfl rfl ?_;rintro _ w ⟨jM,fY,gv,l8,mm,j8,kb,iF,iK,l9,mn,l_,mo,Gw,Hd,Gx,Hf,Gy,Hg,V3,rfl,ad⟩;refine ⟨_,rfl,?_⟩;intro a I;have U:aX [] _ w:=ad.ev;have hm:=hc.back 0 ad
 dsimp only [List.drop,List.cons_append,List.nil_append,HAppend.hAppend,Append.append,List.append] at hm;clear ad hc;clear U;refine aN 4 [] [(4,.pointer (eO B4.1 jM)),(5,.i B4.2)] I fun a I=>wpList_nil (eR _ _ ?_);refine wp_ret ?_;obtain rfl:=Option.some.inj h;refine gM Try.results22 I rfl rfl ?_;exact ⟨jM,fY,gv,l8,mm,j8,kb,iF,iK,l9,mn,l_,mo,Gw,Hd,Gx,Hf,Gy,Hg,V3,rfl,(hm.a7 [] rfl rfl).pick ⟨⟨0,rfl⟩,⟨1,rfl⟩,⟨2,rfl⟩,⟨3,rfl⟩,⟨4,rfl⟩,⟨5,rfl⟩,⟨6,rfl⟩,⟨7,rfl⟩,⟨8,rfl⟩,⟨9,rfl⟩,⟨10,rfl⟩,trivial⟩⟩
theorem OV {W:World} {X:List Nat} {F:Nat} {h_:Cin.bd} {ah:Cin.bb} {r:Int} {aj:Option Addr} {ar:Nat} {aJ:Option Addr} {aO:Nat} {a8:Option Addr} {ba:Nat} {b0:Option Addr} {b1:Nat} {bP:Option Addr} {bR:Nat} {cA:Option Addr} {cB:Nat} {cw:Option Addr} {cx:Nat} (hm:aD W (aT []) X W [] [aa (ax .i64) aj ar h_.Words,aa (ax .i64) aJ aO h_.al,aa Cin.bL a8 ba ah.aK,aa (ax .i64) b0 b1 ah.aI,aa (aU Cin.bJ) bP bR ah.Fields,aa (aU bZ) cA cB ah.Names,aa (aU Cin.cz) cw cx ah.aH]) (h:Cin.qF F h_ ah=some r) :
 Calls Try.prog 10 [.agg #[.slice aj h_.Words.length ar,.i h_.ai,.i h_.ak,.i h_.aB,.i h_.aA,.slice aJ h_.al.length aO,.i h_.Next],.agg #[.slice a8 ah.aK.length ba,.slice b0 ah.aI.length b1,.slice bP ah.Fields.length bR,.slice cA ah.Names.length cB,.slice cw ah.aH.length cx]].toArray W (fun e az=>e= .returned (.i r)/\aD W (aT []) X az [] []):=by
 generalize bK:aT []=aR at hm ⊢;clear bK;refine enter Try.func10 rfl Try.ntmps10 rfl ?_;intro a I;rw [Cin.qF] at h;refine wp_seq_k fun K dx=>?_;refine a5 ?_;refine c5 (cs:=[.slice aj h_.Words.length ar,.i h_.ai,.i h_.ak,.i h_.aB,.i h_.aA,.slice aJ h_.al.length aO,.i h_.Next]) (av rfl) (eY rfl rfl (I.g rfl)) I hm rfl rfl ?_;intro a bN w U I hm;clear U;refine c5 (cs:=[.slice a8 ah.aK.length ba,.slice b0 ah.aI.length b1,.slice bP ah.Fields.length bR,.slice cA ah.Names.length cB,.slice cw ah.aH.length cx]) (av rfl) (eY rfl rfl (I.g rfl)) I hm rfl rfl ?_;intro a c2 w U I hm;clear U
 refine aN 1 [] [(2,.J bN),(3,.J c2)] I fun a I=>wpList_nil (dx _ _ ?_);refine wp_seq_k fun K bS=>?_;refine a5 ?_;refine bj 2 [0,0,1,0] [(8,.agg #[.slice aj h_.Words.length ar,.i h_.ai,.i h_.ak,.i h_.aB,.i h_.aA,.slice aJ h_.al.length aO,.i h_.Next]),(9,.agg #[.slice a8 ah.aK.length ba,.slice b0 ah.aI.length b1,.slice bP ah.Fields.length bR,.slice cA ah.Names.length cB,.slice cw ah.aH.length cx])] [c2,0,bN,0] (aQ (bh (hm.e 1 rfl)) (aQ (bh (hm.e 0 rfl)) aS)) I fun a I=>?_;obtain ⟨cG,mB,h⟩:=Cin.aV h;have hc:=hm
 refine b4 (vs:=[.agg #[.slice aj h_.Words.length ar,.i h_.ai,.i h_.ak,.i h_.aB,.i h_.aA,.slice aJ h_.al.length aO,.i h_.Next],.agg #[.slice a8 ah.aK.length ba,.slice b0 ah.aI.length b1,.slice bP ah.Fields.length bR,.slice cA ah.Names.length cB,.slice cw ah.aH.length cx]]) (av rfl) rfl Try.call22 ⟨(I.g rfl),(I.g rfl),trivial⟩ (Ht ((hc.into 0).pick ⟨⟨0,rfl⟩,⟨1,rfl⟩,⟨2,rfl⟩,⟨3,rfl⟩,⟨4,rfl⟩,⟨5,rfl⟩,⟨6,rfl⟩,trivial⟩) mB) I rfl rfl ?_;rintro _ w ⟨fN,eP,eQ,g_,hb,dY,ej,fT,fU,kK,kP,oZ,o',o0,pa,kL,kQ,kM,kR,pi,rfl,ad⟩;refine ⟨_,rfl,?_⟩;intro a I;have U:aX [] _ w:=ad.ev;have hm:=hc.back 0 ad
 dsimp only [List.drop,List.cons_append,List.nil_append,HAppend.hAppend,Append.append,List.append] at hm;clear ad hc;clear U;refine aN 5 [] [(6,.i cG.2)] I fun a I=>wpList_nil (bS _ _ ?_);refine aP [] [(4,.i cG.2)] I fun a I=>?_;refine wp_ret ?_;obtain rfl:=Option.some.inj h;refine bE Try.results10 I rfl ?_;exact ⟨rfl,(hm.a7 [] rfl rfl).pick trivial⟩
theorem HA {W:World} {X:List Nat} {s_:List Int} {r:List Int} {aj:Option Addr} {ar:Nat} (hm:aD W (aT []) X W [] [aa (ax .i64) aj ar s_]) (h:Cin.wj s_=some r) :
 Calls Try.prog 26 [.slice aj s_.length ar].toArray W (fun e az=>∃ A:Option Addr,∃ c:Nat,∃ xs:List Value,e= .returned (.slice A r.length c)/\aD W (aT []) X az [aw.row 3 1 (.slice A r.length c) r xs] [ap.rows (ax .i64) xs r]):=by
 generalize bK:aT []=aR at hm ⊢;clear bK;refine enter Try.func26 rfl Try.ntmps26 rfl ?_;intro a I;rw [Cin.wj] at h;rcases aj with _ | ht
 · obtain ⟨rfl,_,rfl⟩:=BR (hm.d 0 rfl);obtain rfl:=zX h;have h:some ([]:List Int)=some []:=rfl;refine aP [] [(0,.slice none 0 0)] I fun a I=>?_;refine wp_seq_k fun K bS=>?_;refine wp_seq_k fun K cn=>?_;refine a5 ?_;refine aN 1 [] [(0,.slice none 0 0),(3,.slice none 0 0)] I fun a I=>?_;refine bW (av rfl) (pW Try.underlying22 rfl (I.g rfl) (dg _ _)) I rfl rfl fun a I=>?_;refine wpList_nil ?_;refine cn _ _ ?_;refine ft (I.g rfl) rfl ?_;refine aP [] [(2,.slice none 0 0)] I fun a I=>?_;refine wp_ret ?_;clear h;refine aW ?_;refine bE Try.results26 I rfl ?_;have hm:=hm.c7 (α:=Int) 3 1
   have hm:=hm.more (y:=ap.rows (ax .i64) [] []) rfl;exact ⟨none,0,[],rfl,(hm.a7 [0] rfl rfl).pick ⟨⟨0,rfl⟩,trivial⟩⟩
 refine aP [] [(0,.slice (some ht) s_.length ar)] I fun a I=>?_;refine wp_seq_k fun K bS=>?_;refine wp_seq_k fun K cn=>?_;refine a5 ?_;refine aN 1 [] [(0,.slice (some ht) s_.length ar),(3,.slice (some ht) s_.length ar)] I fun a I=>?_;refine bW (av rfl) (pW Try.underlying22 rfl (I.g rfl) (dg _ _)) I rfl rfl fun a I=>?_;refine wpList_nil ?_;refine cn _ _ ?_;refine jK (I.g rfl) rfl ?_;refine wp_skip ?_;refine bS _ _ ?_;refine wp_seq_k fun K dc=>?_;refine a5 ?_;refine gm (cs:=[]) (av rfl) (CM Try.underlying22 Try.sizeOf3 rfl) I hm rfl rfl ?_;intro a ca w U I hm;clear U;refine aN 1 [] [(5,.slice (some ⟨ca,0,none⟩) 0 0),(6,.slice (some ht) s_.length ar)] I fun a I=>?_
 obtain ⟨jl,qN,h⟩:=Cin.aV h;have hm:=hm.pI (sz:=1) 0 ([]:List Int) rfl rfl rfl rfl;dsimp only [List.set] at hm;have hm:=hm.more (y:=ap.rows (ax .i64) [] []) rfl;refine wi (T:=(ax .i64)) 0 0 1 hm rfl rfl rfl Try.underlying22 ts rfl rfl qN rfl (av rfl) rfl (I.g rfl) (I.g rfl) I rfl rfl ?_;intro a cP cQ r1 w I hm;dsimp only [List.set,List.eraseIdx] at hm;refine aN 1 [] [(2,.slice cP jl.length cQ)] I fun a I=>wpList_nil (dc _ _ ?_);refine wp_ret ?_;obtain rfl:=Option.some.inj h;refine bE Try.results26 I rfl ?_;exact ⟨cP,cQ,r1,rfl,(hm.a7 [0] rfl rfl).pick ⟨⟨0,rfl⟩,trivial⟩⟩
theorem DJ {W:World} {X:List Nat} {h_:Cin.bd} {r:Cin.bd} {aj:Option Addr} {ar:Nat} {aJ:Option Addr} {aO:Nat} (hm:aD W (aT []) X W [] [aa (ax .i64) aj ar h_.Words,aa (ax .i64) aJ aO h_.al]) (h:Cin.pr h_=some r) :
 Calls Try.prog 20 [.agg #[.slice aj h_.Words.length ar,.i h_.ai,.i h_.ak,.i h_.aB,.i h_.aA,.slice aJ h_.al.length aO,.i h_.Next]].toArray W (fun e az=>∃ oV:Option Addr,∃ o8:Nat,∃ M2:List Value,∃ kI:Option Addr,∃ mi:Nat,∃ rY:List Value,e= .returned (.agg #[.slice oV r.Words.length o8,.i r.ai,.i r.ak,.i r.aB,.i r.aA,.slice kI r.al.length mi,.i r.Next])/\aD W (aT []) X az [aw.row 3 1 (.slice oV r.Words.length o8) r.Words M2,aw.row 3 1 (.slice kI r.al.length mi) r.al rY] [ap.rows (ax .i64) M2 r.Words,ap.rows (ax .i64) rY r.al]):=by
 generalize bK:aT []=aR at hm ⊢;clear bK;refine enter Try.func20 rfl Try.ntmps20 rfl ?_;intro a I;rw [Cin.pr] at h;refine wp_seq_k fun K dx=>?_;refine a5 ?_;refine c5 (cs:=[.slice aj h_.Words.length ar,.i h_.ai,.i h_.ak,.i h_.aB,.i h_.aA,.slice aJ h_.al.length aO,.i h_.Next]) (av rfl) (eY rfl rfl (I.g rfl)) I hm rfl rfl ?_;intro a b2 w U I hm;clear U;refine c5 (cs:=[.slice none 0 0,.i 0,.i 0,.i 0,.i 0,.slice none 0 0,.i 0]) (av rfl) (e3 Try.zeroValue24 rfl rfl) I hm rfl rfl ?_;intro a sU w U I hm;clear U;refine wpList_nil ?_;refine dx _ _ ?_;refine wp_seq_k fun K bS=>?_;refine kV (m:=10) 7 (aX []) (by kernel_rfl) rfl ?_;intro w U;have hm:=hm.eD U;clear U;have bM:=hm
 have a1:=aX.refl [] w;refine eK [0,1,3,4] 4 [1,2,4,7] [0,0,0,5] (fr':=[(1,.J b2),(2,.J sU),(4,.slice aj h_.Words.length ar),(7,.slice aJ h_.al.length aO)]) (L:=[b2,5,b2,0]) d_ (fun bV U=>(aQ (dZ U (bh (bM.e 1 rfl))) aS)) I rfl (by kernel_rfl) rfl (by kernel_rfl) (by kernel_rfl) a1 fun a I=>?_;refine ed 2 rfl (by kernel_rfl) (fun _=>a1) ?_;obtain ⟨cV,vF,h⟩:=Cin.aV h;have hc:=hm;refine b4 (vs:=[.slice aj h_.Words.length ar]) (av rfl) rfl Try.call26 ⟨(I.g rfl),trivial⟩ (HA ((hc.into 0).pick ⟨⟨0,rfl⟩,trivial⟩) vF) I rfl rfl ?_;rintro _ w ⟨bP,bR,um,rfl,ad⟩;refine ⟨_,rfl,?_⟩;intro a I;have U:aX [] _ w:=ad.ev;have hm:=hc.back 0 ad
 dsimp only [List.drop,List.cons_append,List.nil_append,HAppend.hAppend,Append.append,List.append] at hm;clear ad hc;have a1:=jw a1 U;clear U;refine dK ?_;refine eK [6] 1 [1,2,5,7,9] [] (fr':=[(1,.J b2),(2,.J sU),(5,.slice bP cV.length bR),(7,.slice aJ h_.al.length aO),(9,.J b2)]) (L:=[]) d_ (fun bV U=>aS) I rfl (by kernel_rfl) rfl (by kernel_rfl) (by kernel_rfl) a1 fun a I=>?_;refine ed 5 rfl (by kernel_rfl) (fun _=>a1) ?_;obtain ⟨dB,qR,h⟩:=Cin.aV h;have hc:=hm;refine b4 (vs:=[.slice aJ h_.al.length aO]) (av rfl) rfl Try.call26 ⟨(I.g rfl),trivial⟩ (HA ((hc.into 0).pick ⟨⟨2,rfl⟩,trivial⟩) qR) I rfl rfl ?_;rintro _ w ⟨cl,cm,FU,rfl,ad⟩;refine ⟨_,rfl,?_⟩;intro a I
 have U:aX [] _ w:=ad.ev;have hm:=hc.back 0 ad;dsimp only [List.drop,List.cons_append,List.nil_append,HAppend.hAppend,Append.append,List.append] at hm;clear ad hc;have a1:=jw a1 U;clear U;refine dK ?_;refine ed 7 rfl (by kernel_rfl) (fun _=>a1) ?_;refine c1 (vs:=[.slice bP cV.length bR]) 3 hm rfl (av rfl) rfl Try.sizeOf22 rfl rfl rfl rfl (I.g rfl) (I.g rfl) rfl ?_;intro w hm;simp only [List.set,lay,List.drop,List.length,List.cons_append,List.nil_append] at hm;refine dK ?_;clear bM a1;have bM:=hm;have a1:=aX.refl [] w;refine eH.next 9 (aX [] w) (by kernel_rfl) ?_
 refine eK [8] 1 [1,2,8,10] [] (fr':=[(1,.J b2),(2,.J sU),(8,.slice cl dB.length cm),(10,.pointer (some ⟨b2,5,none⟩))]) (L:=[]) d_ (fun bV U=>aS) I rfl (by kernel_rfl) rfl (by kernel_rfl) (by kernel_rfl) a1 fun a I=>?_;refine ed 9 rfl (by kernel_rfl) (fun _=>a1) ?_;refine c1 (vs:=[.slice cl dB.length cm]) 3 hm rfl (av rfl) rfl Try.sizeOf22 rfl rfl rfl rfl (I.g rfl) (I.g rfl) rfl ?_;intro w hm;simp only [List.set,lay,List.drop,List.length,List.cons_append,List.nil_append] at hm;refine dK ?_;clear bM a1;have bM:=hm;have a1:=aX.refl [] w;refine eH.next 10 (aX [] w) (by kernel_rfl) ?_;refine ih (by kernel_rfl) ?_ (fun _=>a1);clear bM a1;refine bS _ _ ?_;refine wp_seq_k fun K cn=>?_;refine a5 ?_
 refine bj 1 [0,0] [(2,.J sU),(11,.agg #[.slice bP cV.length bR,.i h_.ai,.i h_.ak,.i h_.aB,.i h_.aA,.slice cl dB.length cm,.i h_.Next])] [b2,0] (aQ (bh (hm.e 3 rfl)) aS) I fun a I=>?_;refine c1 (vs:=[.slice bP cV.length bR,.i h_.ai,.i h_.ak,.i h_.aB,.i h_.aA,.slice cl dB.length cm,.i h_.Next]) 2 hm rfl (av rfl) rfl Try.sizeOf24 rfl rfl rfl rfl (I.g rfl) (I.g rfl) rfl ?_;intro w hm;simp only [List.set,lay,List.drop,List.length,List.cons_append,List.nil_append] at hm;refine wpList_nil ?_;refine cn _ _ ?_;refine wp_ret ?_;obtain rfl:=Option.some.inj h
 refine hU (vs:=[.agg #[.slice bP cV.length bR,.i h_.ai,.i h_.ak,.i h_.aB,.i h_.aA,.slice cl dB.length cm,.i h_.Next]]) Try.results20 I ⟨⟨_,_,I.g rfl,.inl ⟨[.slice bP cV.length bR,.i h_.ai,.i h_.ak,.i h_.aB,.i h_.aA,.slice cl dB.length cm,.i h_.Next],Try.isAgg24,Try.sizeOf24,hH (hm.e 2 rfl) 0 ⟨rfl,rfl,rfl,rfl,rfl,rfl,rfl,trivial⟩,rfl⟩⟩,trivial⟩ ?_;exact ⟨bP,bR,um,cl,cm,FU,rfl,(hm.a7 [1,0] rfl rfl).pick ⟨⟨1,rfl⟩,⟨0,rfl⟩,trivial⟩⟩
theorem Ui {W:World} {X:List Nat} {h_:Cin.bd} {cC:Int} {dl:Int} {eG:Bool} {r:Int × Bool × Cin.bd} {ao:Nat} {aF:Option Addr} {aL:Nat} {bz:Option Addr} {bF:Nat} {hX:List Value} (hm:aD W (aT [aw.br ao 24 [.slice aF h_.Words.length aL,.i h_.ai,.i h_.ak,.i h_.aB,.i h_.aA,.slice bz h_.al.length bF,.i h_.Next],aw.row 3 1 (.slice aF h_.Words.length aL) h_.Words hX]) X W [aw.br ao 24 [.slice aF h_.Words.length aL,.i h_.ai,.i h_.ak,.i h_.aB,.i h_.aA,.slice bz h_.al.length bF,.i h_.Next],aw.row 3 1 (.slice aF h_.Words.length aL) h_.Words hX] [ap.rows (ax .i64) hX h_.Words,aa (ax .i64) bz bF h_.al]) (h:Cin.xn h_ cC dl eG=some r) :
 Calls Try.prog 24 [.J ao,.i cC,.i dl,.bool eG].toArray W (fun e az=>∃ yL:Option Addr,∃ zT:Nat,∃ Tp:List Value,e= .returned (.tuple #[.i r.1,.bool r.2.1])/\aD W (aT [aw.br ao 24 [.slice aF h_.Words.length aL,.i h_.ai,.i h_.ak,.i h_.aB,.i h_.aA,.slice bz h_.al.length bF,.i h_.Next],aw.row 3 1 (.slice aF h_.Words.length aL) h_.Words hX]) X az [aw.br ao 24 [.slice yL r.2.2.Words.length zT,.i h_.ai,.i h_.ak,.i r.2.2.aB,.i r.2.2.aA,.slice bz h_.al.length bF,.i r.2.2.Next],aw.row 3 1 (.slice yL r.2.2.Words.length zT) r.2.2.Words Tp] [ap.rows (ax .i64) Tp r.2.2.Words]):=by
 generalize bK:aT [aw.br ao 24 [.slice aF h_.Words.length aL,.i h_.ai,.i h_.ak,.i h_.aB,.i h_.aA,.slice bz h_.al.length bF,.i h_.Next],aw.row 3 1 (.slice aF h_.Words.length aL) h_.Words hX]=aR at hm ⊢;clear bK;refine enter Try.func24 rfl Try.ntmps24 rfl ?_;intro a I;rw [Cin.xn] at h;refine aP [] [(0,.J ao),(1,.i cC),(2,.i dl),(3,.bool eG)] I fun a I=>?_;refine wp_seq_k fun K bS=>?_;refine lG (by kernel_rfl) (by kernel_rfl) ?_
 refine fH 10 [0,1] [(0,.J ao),(1,.i cC),(2,.i dl),(3,.bool eG),(10,.pointer (some ⟨ao,3,none⟩)),(11,.i (Cin.ay (h_.ai+ 1)))] [ao,1] (fun bV U=>(aQ (dZ U (bh (hm.e 0 rfl))) aS)) I fun a I=>?_;refine wpQuiet_nil ?_;intro w U;have hm:=hm.eD U;clear U;refine bS _ _ ?_;refine wp_seq_k fun K cn=>?_;refine aP [] [(0,.J ao),(1,.i cC),(2,.i dl),(10,.pointer (some ⟨ao,3,none⟩)),(11,.i (Cin.ay (h_.ai+ 1))),(22,.bool eG)] I fun a I=>?_;refine bH (I.g rfl) h (fun AN h=>?_) (fun AN h=>?_)
 · refine lG (by kernel_rfl) (by kernel_rfl) ?_;refine fH 15 [0,1,0,2] [(0,.J ao),(1,.i cC),(2,.i dl),(10,.pointer (some ⟨ao,4,none⟩)),(11,.i (Cin.ay ((Cin.ay (h_.ai+h_.ak))+ 1)))] [ao,2,ao,1] (fun bV U=>(aQ (dZ U (bh (hm.e 0 rfl))) aS)) I fun a I=>?_;refine wpQuiet_nil ?_;intro w U;have hm:=hm.eD U;clear U;refine cn _ _ ?_;refine aP [] [(0,.J ao),(1,.i cC),(2,.i dl),(10,.pointer (some ⟨ao,4,none⟩)),(11,.i (Cin.ay ((Cin.ay (h_.ai+h_.ak))+ 1))),(12,.i (Cin.ay (3 +dl)))] I fun a I=>?_;refine wp_seq_k fun K eR=>?_;refine wp_seq_k fun K dN=>?_
   refine rg [0,4] [(0,.J ao),(1,.i cC),(2,.i dl),(10,.pointer (some ⟨ao,4,none⟩)),(12,.i (Cin.ay (3 +dl))),(44,.bool (decide ((Cin.ay ((Cin.ay ((Cin.ay (h_.ai+h_.ak))+ 1)) - h_.aA)) <(Cin.ay (3 +dl)))))] [ao,4] (aQ (bh (hm.e 0 rfl)) aS) I fun a I=>dN _ _ ?_;refine bH (I.g rfl) h (fun k5 h=>?_) (fun k5 h=>?_)
   · refine aP [] [(8,.i 0),(9,.bool false)] I fun a I=>?_;refine wp_ret ?_;obtain rfl:=Option.some.inj h;refine aW ?_;refine gM Try.results24 I rfl rfl ?_;exact ⟨aF,aL,hX,rfl,(hm.a7 [0,1] rfl rfl).pick ⟨⟨0,rfl⟩,trivial⟩⟩
   refine wp_skip ?_;refine eR _ _ ?_;refine wp_seq_k fun K eV=>?_;refine rg [0,4] [(0,.J ao),(1,.i cC),(2,.i dl),(10,.pointer (some ⟨ao,4,none⟩)),(12,.i (Cin.ay (3 +dl))),(13,.i h_.aA)] [ao,4] (aQ (bh (hm.e 0 rfl)) aS) I fun a I=>eV _ _ ?_;refine wp_seq_k fun K dk=>?_;refine a5 ?_;refine bj 6 [0,4] [(0,.J ao),(1,.i cC),(2,.i dl),(13,.i h_.aA),(52,.i (Cin.ay (h_.aA+(Cin.ay (3 +dl))))),(53,.pointer (some ⟨ao,4,none⟩))] [ao,4] (aQ (bh (hm.e 0 rfl)) aS) I fun a I=>?_
   refine c1 (vs:=[.i (Cin.ay (h_.aA+(Cin.ay (3 +dl))))]) 0 hm rfl (av rfl) rfl Try.sizeOf3 rfl rfl rfl rfl (I.g rfl) (I.g rfl) rfl ?_;intro w hm;simp only [List.set,lay,List.drop,List.length,List.cons_append,List.nil_append] at hm;refine wpList_nil ?_;refine dk _ _ ?_;refine wp_seq_k fun K dR=>?_;refine kV (m:=29) 24 (aX []) (by kernel_rfl) rfl ?_;intro w U;have hm:=hm.eD U;clear U;have bM:=hm;have a1:=aX.refl [] w
   refine eK [0,1,2,3,4,5,6,7,8,9,10,11,12,13,14,15,16,17,18,19,20,21,22] 23 [0,13,57,58,62,64,68,70,71,72,76] [0,0,0,0,0,0,0,6] (fr':=[(0,.J ao),(13,.i h_.aA),(57,.slice aF h_.Words.length aL),(58,.i h_.aA),(62,.slice aF h_.Words.length aL),(64,.i (Cin.ay (h_.aA+ 1))),(68,.slice aF h_.Words.length aL),(70,.i (Cin.ay (h_.aA+ 2))),(71,.i cC),(72,.i dl),(76,.i h_.Next)]) (L:=[ao,6,ao,0,ao,0,ao,0]) d_ (fun bV U=>(aQ (dZ U (bh (bM.e 0 rfl))) aS)) I rfl (by kernel_rfl) rfl (by kernel_rfl) (by kernel_rfl) a1 fun a I=>?_;obtain ⟨S8,QJ,h⟩:=Cin.aV h;obtain ⟨Wn,abL,_,rfl,ZG⟩:=h' (bM.e 1 rfl) (bM.d 0 rfl) QJ
   refine jr 23 rfl (by kernel_rfl) (av rfl) (fun bV=>cv Try.underlying22 Try.sizeOf3 rfl (I.g rfl) (I.g rfl) Wn abL) a1 I rfl rfl fun a I=>?_;refine ed 24 rfl (by kernel_rfl) (fun _=>a1) ?_;obtain ⟨K6,ac8,h⟩:=Cin.aV h;refine pP (T:=(ax .i64)) (d':=cC) (vs:=[.i cC]) (cs0:=[.i S8]) (kk:=0) 1 0 ac8 hm rfl rfl QJ rfl ZG (av rfl) rfl Try.sizeOf3 rfl rfl rfl rfl rfl (I.g rfl) (I.g rfl) rfl ?_;intro M0 w hlen U hm;dsimp only [List.set] at hm;rw [hlen] at hm;try rw [hlen] at I;clear hlen;clear U;refine dK ?_;clear bM a1;have bM:=hm;have a1:=aX.refl [] w;refine eH.next 26 (aX [] w) (by kernel_rfl) ?_;obtain ⟨ef,QK,h⟩:=Cin.aV h;obtain ⟨WC,abZ,_,rfl,ZU⟩:=h' (bM.e 1 rfl) (bM.d 0 rfl) QK
   refine jr 25 rfl (by kernel_rfl) (av rfl) (fun bV=>cv Try.underlying22 Try.sizeOf3 rfl (I.g rfl) (I.g rfl) WC abZ) a1 I rfl rfl fun a I=>?_;refine ed 26 rfl (by kernel_rfl) (fun _=>a1) ?_;obtain ⟨K7,ac',h⟩:=Cin.aV h;refine pP (T:=(ax .i64)) (d':=dl) (vs:=[.i dl]) (cs0:=[.i ef]) (kk:=0) 1 0 ac' hm rfl rfl QK rfl ZU (av rfl) rfl Try.sizeOf3 rfl rfl rfl rfl rfl (I.g rfl) (I.g rfl) rfl ?_;intro rZ w hlen U hm;dsimp only [List.set] at hm;rw [hlen] at hm;try rw [hlen] at I;clear hlen;clear U;refine dK ?_;clear bM a1;have bM:=hm;have a1:=aX.refl [] w;refine eH.next 28 (aX [] w) (by kernel_rfl) ?_;obtain ⟨S2,QM,h⟩:=Cin.aV h;obtain ⟨WT,acd,_,rfl,Z8⟩:=h' (bM.e 1 rfl) (bM.d 0 rfl) QM
   refine jr 27 rfl (by kernel_rfl) (av rfl) (fun bV=>cv Try.underlying22 Try.sizeOf3 rfl (I.g rfl) (I.g rfl) WT acd) a1 I rfl rfl fun a I=>?_;refine ed 28 rfl (by kernel_rfl) (fun _=>a1) ?_;obtain ⟨Rs,adg,h⟩:=Cin.aV h;refine pP (T:=(ax .i64)) (d':=h_.Next) (vs:=[.i h_.Next]) (cs0:=[.i S2]) (kk:=0) 1 0 adg hm rfl rfl QM rfl Z8 (av rfl) rfl Try.sizeOf3 rfl rfl rfl rfl rfl (I.g rfl) (I.g rfl) rfl ?_;intro alI w hlen U hm;dsimp only [List.set] at hm;rw [hlen] at hm;try rw [hlen] at I;clear hlen;clear U;refine dK ?_;clear bM a1;have bM:=hm;have a1:=aX.refl [] w;refine eH.next 29 (aX [] w) (by kernel_rfl) ?_;refine ih (by kernel_rfl) ?_ (fun _=>a1);clear bM a1
   have I:=I.sub (l':=[(0,.J ao),(13,.i h_.aA)]) ⟨rfl,rfl,trivial⟩;refine dR _ _ ?_;refine wp_seq_k fun K ey=>?_;refine a5 ?_;refine bj 7 [0,6] [(13,.i h_.aA),(84,.i (Cin.ay (h_.Next+ 1))),(86,.pointer (some ⟨ao,6,none⟩))] [ao,6] (aQ (bh (hm.e 0 rfl)) aS) I fun a I=>?_;refine c1 (vs:=[.i (Cin.ay (h_.Next+ 1))]) 0 hm rfl (av rfl) rfl Try.sizeOf3 rfl rfl rfl rfl (I.g rfl) (I.g rfl) rfl ?_;intro w hm;simp only [List.set,lay,List.drop,List.length,List.cons_append,List.nil_append] at hm;refine wpList_nil ?_;refine ey _ _ ?_;refine aP [] [(8,.i h_.aA),(9,.bool true)] I fun a I=>?_;refine wp_ret ?_;obtain rfl:=Option.some.inj h
   refine gM Try.results24 I rfl rfl ?_;exact ⟨aF,aL,alI,rfl,(hm.a7 [0,1] rfl rfl).pick ⟨⟨0,rfl⟩,trivial⟩⟩
 refine wp_skip ?_;refine cn _ _ ?_;refine aP [] [(0,.J ao),(1,.i cC),(2,.i dl),(10,.pointer (some ⟨ao,3,none⟩)),(11,.i (Cin.ay (h_.ai+ 1))),(12,.i (Cin.ay (3 +dl)))] I fun a I=>?_;refine wp_seq_k fun K gw=>?_;refine wp_seq_k fun K hz=>?_;refine rg [0,3] [(0,.J ao),(1,.i cC),(2,.i dl),(10,.pointer (some ⟨ao,3,none⟩)),(12,.i (Cin.ay (3 +dl))),(44,.bool (decide ((Cin.ay ((Cin.ay (h_.ai+ 1)) - h_.aB)) <(Cin.ay (3 +dl)))))] [ao,3] (aQ (bh (hm.e 0 rfl)) aS) I fun a I=>hz _ _ ?_;refine bH (I.g rfl) h (fun AK h=>?_) (fun AK h=>?_)
 · refine aP [] [(8,.i 0),(9,.bool false)] I fun a I=>?_;refine wp_ret ?_;obtain rfl:=Option.some.inj h;refine aW ?_;refine gM Try.results24 I rfl rfl ?_;exact ⟨aF,aL,hX,rfl,(hm.a7 [0,1] rfl rfl).pick ⟨⟨0,rfl⟩,trivial⟩⟩
 refine wp_skip ?_;refine gw _ _ ?_;refine wp_seq_k fun K f_=>?_;refine rg [0,3] [(0,.J ao),(1,.i cC),(2,.i dl),(10,.pointer (some ⟨ao,3,none⟩)),(12,.i (Cin.ay (3 +dl))),(13,.i h_.aB)] [ao,3] (aQ (bh (hm.e 0 rfl)) aS) I fun a I=>f_ _ _ ?_;refine wp_seq_k fun K gT=>?_;refine a5 ?_;refine bj 6 [0,3] [(0,.J ao),(1,.i cC),(2,.i dl),(13,.i h_.aB),(52,.i (Cin.ay (h_.aB+(Cin.ay (3 +dl))))),(53,.pointer (some ⟨ao,3,none⟩))] [ao,3] (aQ (bh (hm.e 0 rfl)) aS) I fun a I=>?_
 refine c1 (vs:=[.i (Cin.ay (h_.aB+(Cin.ay (3 +dl))))]) 0 hm rfl (av rfl) rfl Try.sizeOf3 rfl rfl rfl rfl (I.g rfl) (I.g rfl) rfl ?_;intro w hm;simp only [List.set,lay,List.drop,List.length,List.cons_append,List.nil_append] at hm;refine wpList_nil ?_;refine gT _ _ ?_;refine wp_seq_k fun K gI=>?_;refine kV (m:=29) 24 (aX []) (by kernel_rfl) rfl ?_;intro w U;have hm:=hm.eD U;clear U;have bM:=hm;have a1:=aX.refl [] w
 refine eK [0,1,2,3,4,5,6,7,8,9,10,11,12,13,14,15,16,17,18,19,20,21,22] 23 [0,13,57,58,62,64,68,70,71,72,76] [0,0,0,0,0,0,0,6] (fr':=[(0,.J ao),(13,.i h_.aB),(57,.slice aF h_.Words.length aL),(58,.i h_.aB),(62,.slice aF h_.Words.length aL),(64,.i (Cin.ay (h_.aB+ 1))),(68,.slice aF h_.Words.length aL),(70,.i (Cin.ay (h_.aB+ 2))),(71,.i cC),(72,.i dl),(76,.i h_.Next)]) (L:=[ao,6,ao,0,ao,0,ao,0]) d_ (fun bV U=>(aQ (dZ U (bh (bM.e 0 rfl))) aS)) I rfl (by kernel_rfl) rfl (by kernel_rfl) (by kernel_rfl) a1 fun a I=>?_;obtain ⟨S3,QN,h⟩:=Cin.aV h;obtain ⟨WY,aci,_,rfl,aab⟩:=h' (bM.e 1 rfl) (bM.d 0 rfl) QN
 refine jr 23 rfl (by kernel_rfl) (av rfl) (fun bV=>cv Try.underlying22 Try.sizeOf3 rfl (I.g rfl) (I.g rfl) WY aci) a1 I rfl rfl fun a I=>?_;refine ed 24 rfl (by kernel_rfl) (fun _=>a1) ?_;obtain ⟨K8,adi,h⟩:=Cin.aV h;refine pP (T:=(ax .i64)) (d':=cC) (vs:=[.i cC]) (cs0:=[.i S3]) (kk:=0) 1 0 adi hm rfl rfl QN rfl aab (av rfl) rfl Try.sizeOf3 rfl rfl rfl rfl rfl (I.g rfl) (I.g rfl) rfl ?_;intro an6 w hlen U hm;dsimp only [List.set] at hm;rw [hlen] at hm;try rw [hlen] at I;clear hlen;clear U;refine dK ?_;clear bM a1;have bM:=hm;have a1:=aX.refl [] w;refine eH.next 26 (aX [] w) (by kernel_rfl) ?_;obtain ⟨S4,QO,h⟩:=Cin.aV h;obtain ⟨W3,acp,_,rfl,aah⟩:=h' (bM.e 1 rfl) (bM.d 0 rfl) QO
 refine jr 25 rfl (by kernel_rfl) (av rfl) (fun bV=>cv Try.underlying22 Try.sizeOf3 rfl (I.g rfl) (I.g rfl) W3 acp) a1 I rfl rfl fun a I=>?_;refine ed 26 rfl (by kernel_rfl) (fun _=>a1) ?_;obtain ⟨K_,adm,h⟩:=Cin.aV h;refine pP (T:=(ax .i64)) (d':=dl) (vs:=[.i dl]) (cs0:=[.i S4]) (kk:=0) 1 0 adm hm rfl rfl QO rfl aah (av rfl) rfl Try.sizeOf3 rfl rfl rfl rfl rfl (I.g rfl) (I.g rfl) rfl ?_;intro Tm w hlen U hm;dsimp only [List.set] at hm;rw [hlen] at hm;try rw [hlen] at I;clear hlen;clear U;refine dK ?_;clear bM a1;have bM:=hm;have a1:=aX.refl [] w;refine eH.next 28 (aX [] w) (by kernel_rfl) ?_;obtain ⟨S7,QP,h⟩:=Cin.aV h;obtain ⟨Xa,acy,_,rfl,aaq⟩:=h' (bM.e 1 rfl) (bM.d 0 rfl) QP
 refine jr 27 rfl (by kernel_rfl) (av rfl) (fun bV=>cv Try.underlying22 Try.sizeOf3 rfl (I.g rfl) (I.g rfl) Xa acy) a1 I rfl rfl fun a I=>?_;refine ed 28 rfl (by kernel_rfl) (fun _=>a1) ?_;obtain ⟨Rw,adp,h⟩:=Cin.aV h;refine pP (T:=(ax .i64)) (d':=h_.Next) (vs:=[.i h_.Next]) (cs0:=[.i S7]) (kk:=0) 1 0 adp hm rfl rfl QP rfl aaq (av rfl) rfl Try.sizeOf3 rfl rfl rfl rfl rfl (I.g rfl) (I.g rfl) rfl ?_;intro Tn w hlen U hm;dsimp only [List.set] at hm;rw [hlen] at hm;try rw [hlen] at I;clear hlen;clear U;refine dK ?_;clear bM a1;have bM:=hm;have a1:=aX.refl [] w;refine eH.next 29 (aX [] w) (by kernel_rfl) ?_;refine ih (by kernel_rfl) ?_ (fun _=>a1);clear bM a1
 have I:=I.sub (l':=[(0,.J ao),(13,.i h_.aB)]) ⟨rfl,rfl,trivial⟩;refine gI _ _ ?_;refine wp_seq_k fun K h2=>?_;refine a5 ?_;refine bj 7 [0,6] [(13,.i h_.aB),(84,.i (Cin.ay (h_.Next+ 1))),(86,.pointer (some ⟨ao,6,none⟩))] [ao,6] (aQ (bh (hm.e 0 rfl)) aS) I fun a I=>?_;refine c1 (vs:=[.i (Cin.ay (h_.Next+ 1))]) 0 hm rfl (av rfl) rfl Try.sizeOf3 rfl rfl rfl rfl (I.g rfl) (I.g rfl) rfl ?_;intro w hm;simp only [List.set,lay,List.drop,List.length,List.cons_append,List.nil_append] at hm;refine wpList_nil ?_;refine h2 _ _ ?_;refine aP [] [(8,.i h_.aB),(9,.bool true)] I fun a I=>?_;refine wp_ret ?_;obtain rfl:=Option.some.inj h
 refine gM Try.results24 I rfl rfl ?_;exact ⟨aF,aL,Tn,rfl,(hm.a7 [0,1] rfl rfl).pick ⟨⟨0,rfl⟩,trivial⟩⟩
theorem OX {W:World} {X:List Nat} {F:Nat} {h_:Cin.bd} {ah:Cin.bb} {cC:Int} {dl:Int} {eG:Bool} {r:Cin.bd × Int × Int} {aj:Option Addr} {ar:Nat} {aJ:Option Addr} {aO:Nat} {a8:Option Addr} {ba:Nat} {b0:Option Addr} {b1:Nat} {bP:Option Addr} {bR:Nat} {cA:Option Addr} {cB:Nat} {cw:Option Addr} {cx:Nat} (hm:aD W (aT []) X W [] [aa (ax .i64) aj ar h_.Words,aa (ax .i64) aJ aO h_.al,aa Cin.bL a8 ba ah.aK,aa (ax .i64) b0 b1 ah.aI,aa (aU Cin.bJ) bP bR ah.Fields,aa (aU bZ) cA cB ah.Names,aa (aU Cin.cz) cw cx ah.aH]) (h:Cin.n2 F h_ ah cC dl eG=some r) :
 Calls Try.prog 11 [.agg #[.slice aj h_.Words.length ar,.i h_.ai,.i h_.ak,.i h_.aB,.i h_.aA,.slice aJ h_.al.length aO,.i h_.Next],.agg #[.slice a8 ah.aK.length ba,.slice b0 ah.aI.length b1,.slice bP ah.Fields.length bR,.slice cA ah.Names.length cB,.slice cw ah.aH.length cx],.i cC,.i dl,.bool eG].toArray W (fun e az=>∃ ND:Option Addr,∃ OC:Nat,∃ F8:List Value,∃ NE:Option Addr,∃ OD:Nat,∃ Tq:List Value,e= .returned (.tuple #[.agg #[.slice ND r.1.Words.length OC,.i r.1.ai,.i r.1.ak,.i r.1.aB,.i r.1.aA,.slice NE r.1.al.length OD,.i r.1.Next],.i r.2.1,.i r.2.2])/\aD W (aT []) X az [aw.row 3 1 (.slice ND r.1.Words.length OC) r.1.Words F8,aw.row 3 1 (.slice NE r.1.al.length OD) r.1.al Tq] [ap.rows (ax .i64) F8 r.1.Words,ap.rows (ax .i64) Tq r.1.al]):=by
 generalize bK:aT []=aR at hm ⊢;clear bK;refine enter Try.func11 rfl Try.ntmps11 rfl ?_;intro a I;rw [Cin.n2] at h;refine wp_seq_k fun K dx=>?_;refine a5 ?_;refine c5 (cs:=[.slice aj h_.Words.length ar,.i h_.ai,.i h_.ak,.i h_.aB,.i h_.aA,.slice aJ h_.al.length aO,.i h_.Next]) (av rfl) (eY rfl rfl (I.g rfl)) I hm rfl rfl ?_;intro a bN w U I hm;clear U;refine c5 (cs:=[.slice a8 ah.aK.length ba,.slice b0 ah.aI.length b1,.slice bP ah.Fields.length bR,.slice cA ah.Names.length cB,.slice cw ah.aH.length cx]) (av rfl) (eY rfl rfl (I.g rfl)) I hm rfl rfl ?_;intro a c2 w U I hm;clear U
 refine c5 (cs:=[.slice none 0 0,.i 0,.i 0,.i 0,.i 0,.slice none 0 0,.i 0]) (av rfl) (e3 Try.zeroValue24 rfl rfl) I hm rfl rfl ?_;intro a cU w U I hm;clear U;refine aN 2 [] [(2,.i cC),(3,.i dl),(4,.bool eG),(5,.J bN),(6,.J c2),(10,.J cU)] I fun a I=>wpList_nil (dx _ _ ?_);refine wp_seq_k fun K bS=>?_;refine a5 ?_
 refine bj 2 [0,0,1,0] [(2,.i cC),(3,.i dl),(4,.bool eG),(5,.J bN),(10,.J cU),(18,.agg #[.slice aj h_.Words.length ar,.i h_.ai,.i h_.ak,.i h_.aB,.i h_.aA,.slice aJ h_.al.length aO,.i h_.Next]),(19,.agg #[.slice a8 ah.aK.length ba,.slice b0 ah.aI.length b1,.slice bP ah.Fields.length bR,.slice cA ah.Names.length cB,.slice cw ah.aH.length cx])] [c2,0,bN,0] (aQ (bh (hm.e 2 rfl)) (aQ (bh (hm.e 1 rfl)) aS)) I fun a I=>?_;obtain ⟨b',vD,h⟩:=Cin.aV h;have hc:=hm
 refine b4 (vs:=[.agg #[.slice aj h_.Words.length ar,.i h_.ai,.i h_.ak,.i h_.aB,.i h_.aA,.slice aJ h_.al.length aO,.i h_.Next],.agg #[.slice a8 ah.aK.length ba,.slice b0 ah.aI.length b1,.slice bP ah.Fields.length bR,.slice cA ah.Names.length cB,.slice cw ah.aH.length cx]]) (av rfl) rfl Try.call22 ⟨(I.g rfl),(I.g rfl),trivial⟩ (Ht ((hc.into 0).pick ⟨⟨0,rfl⟩,⟨1,rfl⟩,⟨2,rfl⟩,⟨3,rfl⟩,⟨4,rfl⟩,⟨5,rfl⟩,⟨6,rfl⟩,trivial⟩) vD) I rfl rfl ?_;rintro _ w ⟨ch,Gs,G',fY,gv,l8,mm,j8,kb,iF,iK,l9,mn,l_,mo,Gw,Hd,Gx,Hf,V1,rfl,ad⟩;refine ⟨_,rfl,?_⟩;intro a I;have U:aX [] _ w:=ad.ev;have hm:=hc.back 0 ad
 dsimp only [List.drop,List.cons_append,List.nil_append,HAppend.hAppend,Append.append,List.append] at hm;clear ad hc;clear U;refine aN 5 [] [(2,.i cC),(3,.i dl),(4,.bool eG),(5,.J bN),(10,.J cU),(13,.pointer (eO b'.1 ch)),(14,.i b'.2)] I fun a I=>wpList_nil (bS _ _ ?_);obtain ⟨Q',h,Jb⟩:=Cin.aV h
 refine w8 (fun a w=>∃ (ox:Int),Fr ⟨50,[]⟩ [(2,.i cC),(3,.i dl),(4,.bool eG),(5,.J bN),(10,.J cU),(14,.i ox)] a/\aD W aR X w [aw.br cU 24 [.slice none 0 0,.i 0,.i 0,.i 0,.i 0,.slice none 0 0,.i 0],aw.br c2 36 [.slice a8 ah.aK.length ba,.slice b0 ah.aI.length b1,.slice bP ah.Fields.length bR,.slice cA ah.Names.length cB,.slice cw ah.aH.length cx],aw.br bN 24 [.slice aj h_.Words.length ar,.i h_.ai,.i h_.ak,.i h_.aB,.i h_.aA,.slice aJ h_.al.length aO,.i h_.Next]] [aa (ax .i64) aj ar h_.Words,aa (ax .i64) aJ aO h_.al,aa Cin.bL a8 ba ah.aK,aa (ax .i64) b0 b1 ah.aI,aa (aU Cin.bJ) bP bR ah.Fields,aa (aU bZ) cA cB ah.Names,aa (aU Cin.cz) cw cx ah.aH]/\Q'=ox) (fun K cn=>?_) ?_
 · clear Jb;refine aP [] [(2,.i cC),(3,.i dl),(4,.bool eG),(5,.J bN),(10,.J cU),(13,.pointer (eO b'.1 ch)),(14,.i b'.2),(24,.bool (decide (b'.2 = 0)))] I fun a I=>?_;refine bH (I.g rfl) h (fun YX h=>?_) (fun YX h=>?_)
   · refine a5 ?_;refine aN 1 [] [(2,.i cC),(3,.i dl),(4,.bool eG),(5,.J bN),(10,.J cU),(14,.i b'.2),(25,.pointer (eO b'.1 ch))] I fun a I=>?_;obtain ⟨iB,af3,h⟩:=Cin.aV h;simp only [af3,ap.dA,eO] at I hm;refine bj 5 [0,7] [(2,.i cC),(3,.i dl),(4,.bool eG),(5,.J bN),(10,.J cU),(14,.i b'.2),(28,.agg #[.slice l8 iB.S.K.aK.length mm,.slice j8 iB.S.K.aI.length kb,.slice iF iB.S.K.Fields.length iK,.slice l9 iB.S.K.Names.length mn,.slice l_ iB.S.K.aH.length mo]),(29,.i cC),(30,.i dl)] [ch,7] (aQ (hm.d 0 rfl).2.2 aS) I fun a I=>?_
     obtain ⟨tU,J5,h⟩:=Cin.aV h;have hc:=hm;refine b4 (vs:=[.agg #[.slice l8 iB.S.K.aK.length mm,.slice j8 iB.S.K.aI.length kb,.slice iF iB.S.K.Fields.length iK,.slice l9 iB.S.K.Names.length mn,.slice l_ iB.S.K.aH.length mo],.i cC,.i dl]) (av rfl) rfl Try.call23 ⟨(I.g rfl),(I.g rfl),(I.g rfl),trivial⟩ (Uk (s_:=(⟨(⟨iB.S.K.aK,iB.S.K.aI,iB.S.K.Fields,iB.S.K.Names,iB.S.K.aH⟩:Cin.bb)⟩:Cin.cd)) ((hc.into 0).pick ⟨⟨3,rfl⟩,⟨4,rfl⟩,⟨5,rfl⟩,⟨6,rfl⟩,⟨7,rfl⟩,trivial⟩) J5) I rfl rfl ?_;rintro _ w ⟨rfl,ad⟩;refine ⟨_,rfl,?_⟩;intro a I;have U:aX [] _ w:=ad.ev;have hm:=hc.back 0 ad;dsimp only [List.drop,List.cons_append,List.nil_append,HAppend.hAppend,Append.append,List.append] at hm;clear ad hc;clear U
     refine aN 1 [] [(2,.i cC),(3,.i dl),(4,.bool eG),(5,.J bN),(10,.J cU),(14,.i tU)] I fun a I=>wpList_nil ?_;exact cn _ _ ⟨tU,I.sub ⟨rfl,rfl,rfl,rfl,rfl,rfl,trivial⟩,hm.pick ⟨⟨11,rfl⟩,⟨12,rfl⟩,⟨13,rfl⟩,⟨14,rfl⟩,⟨15,rfl⟩,⟨16,rfl⟩,⟨17,rfl⟩,trivial⟩,(Option.some.inj h).symm⟩
   refine wp_skip ?_;exact cn _ _ ⟨b'.2,I.sub ⟨rfl,rfl,rfl,rfl,rfl,rfl,trivial⟩,hm.pick ⟨⟨11,rfl⟩,⟨12,rfl⟩,⟨13,rfl⟩,⟨14,rfl⟩,⟨15,rfl⟩,⟨16,rfl⟩,⟨17,rfl⟩,trivial⟩,(Option.some.inj h).symm⟩
 rintro a w ⟨ox,I,hm,bf⟩;subst Q';have h:=Jb;clear Jb;refine wp_seq_k fun K c3=>?_;refine aP [] [(2,.i cC),(3,.i dl),(4,.bool eG),(5,.J bN),(10,.J cU),(14,.i ox),(33,.bool (!decide (ox= 0)))] I fun a I=>?_;refine bH (I.g rfl) h (fun Y5 h=>?_) (fun Y5 h=>?_)
 · refine wp_seq_k fun K dN=>?_;refine a5 ?_;refine bW (av rfl) (gP (vs:=[]) (cs:=[.slice none 0 0,.i 0,.i 0,.i 0,.i 0,.slice none 0 0,.i 0]) Try.zeroValue24 Try.underlying24 rE rfl trivial (by kernel_rfl)) I rfl rfl fun a I=>?_;refine aN 1 [] [(10,.J cU),(34,.agg #[.slice none 0 0,.i 0,.i 0,.i 0,.i 0,.slice none 0 0,.i 0]),(35,.i ox)] I fun a I=>?_;refine c1 (vs:=[.slice none 0 0,.i 0,.i 0,.i 0,.i 0,.slice none 0 0,.i 0]) 0 hm rfl (av rfl) rfl Try.sizeOf24 rfl rfl rfl rfl (I.g rfl) (I.g rfl) rfl ?_;intro w hm;simp only [List.set,lay,List.drop,List.length,List.cons_append,List.nil_append] at hm
   refine aN 2 [] [(10,.J cU),(11,.i 0),(12,.i ox)] I fun a I=>wpList_nil (dN _ _ ?_);refine wp_ret ?_;obtain rfl:=Option.some.inj h;refine aW ?_;refine hU (vs:=[.agg #[.slice none 0 0,.i 0,.i 0,.i 0,.i 0,.slice none 0 0,.i 0],.i 0,.i ox]) Try.results11 I ⟨⟨_,_,I.g rfl,.inl ⟨[.slice none 0 0,.i 0,.i 0,.i 0,.i 0,.slice none 0 0,.i 0],Try.isAgg24,Try.sizeOf24,hH (hm.e 0 rfl) 0 ⟨rfl,rfl,rfl,rfl,rfl,rfl,rfl,trivial⟩,rfl⟩⟩,I.g rfl,I.g rfl,trivial⟩ ?_;have hm:=hm.c7 (α:=Int) 3 1;have hm:=hm.more (y:=ap.rows (ax .i64) [] []) rfl;have hm:=hm.c7 (α:=Int) 3 1;have hm:=hm.more (y:=ap.rows (ax .i64) [] []) rfl
   exact ⟨none,0,[],none,0,[],rfl,(hm.a7 [1,0] rfl rfl).pick ⟨⟨0,rfl⟩,⟨0,rfl⟩,trivial⟩⟩
 refine wp_skip ?_;refine c3 _ _ ?_;refine wp_seq_k fun K dq=>?_;refine a5 ?_;refine bj 1 [0,0] [(2,.i cC),(3,.i dl),(4,.bool eG),(5,.J bN),(10,.J cU),(36,.agg #[.slice aj h_.Words.length ar,.i h_.ai,.i h_.ak,.i h_.aB,.i h_.aA,.slice aJ h_.al.length aO,.i h_.Next])] [bN,0] (aQ (bh (hm.e 2 rfl)) aS) I fun a I=>?_;obtain ⟨gn,aeE,h⟩:=Cin.aV h;have hc:=hm;refine b4 (vs:=[.agg #[.slice aj h_.Words.length ar,.i h_.ai,.i h_.ak,.i h_.aB,.i h_.aA,.slice aJ h_.al.length aO,.i h_.Next]]) (av rfl) rfl Try.call20 ⟨(I.g rfl),trivial⟩ (DJ ((hc.into 0).pick ⟨⟨0,rfl⟩,⟨1,rfl⟩,trivial⟩) aeE) I rfl rfl ?_
 rintro _ w ⟨uA,uX,an7,p2,qd,alP,rfl,ad⟩;refine ⟨_,rfl,?_⟩;intro a I;have U:aX [] _ w:=ad.ev;have hm:=hc.back 0 ad;dsimp only [List.drop,List.cons_append,List.nil_append,HAppend.hAppend,Append.append,List.append] at hm;clear ad hc;clear U;refine c1 (vs:=[.slice uA gn.Words.length uX,.i gn.ai,.i gn.ak,.i gn.aB,.i gn.aA,.slice p2 gn.al.length qd,.i gn.Next]) 4 hm rfl (av rfl) rfl Try.sizeOf24 rfl rfl rfl rfl (I.g rfl) (I.g rfl) rfl ?_;intro w hm;simp only [List.set,lay,List.drop,List.length,List.cons_append,List.nil_append] at hm;refine wpList_nil ?_;refine dq _ _ ?_;refine wp_seq_k fun K eV=>?_;refine a5 ?_
 refine aN 3 [] [(5,.J bN),(10,.J cU),(39,.i cC),(40,.i dl),(41,.bool eG)] I fun a I=>?_;obtain ⟨gp,aeK,h⟩:=Cin.aV h;have hc:=hm.a7 [4,0,1,2,3] rfl rfl;have ag:=hc.freeze 2 1 rfl rfl;dsimp only [List.eraseIdx] at ag;refine b4 (vs:=[.J bN,.i cC,.i dl,.bool eG]) (av rfl) rfl Try.call24 ⟨(I.g rfl),(I.g rfl),(I.g rfl),(I.g rfl),trivial⟩ (Ui ((ag.into 2).pick ⟨⟨1,rfl⟩,⟨0,rfl⟩,trivial⟩) aeK) I rfl rfl ?_;rintro _ w ⟨yK,zS,alT,rfl,ad⟩;refine ⟨_,rfl,?_⟩;intro a I;have hm:=hc.fL 2 (by exact ⟨lv (fun _ _ _ _ _ _ h=>h),trivial⟩) ad;dsimp only [List.drop,List.cons_append,List.nil_append,HAppend.hAppend,Append.append,List.append] at hm;clear ad hc ag
 refine aN 5 [] [(5,.J bN),(10,.J cU),(15,.i gp.1),(16,.bool gp.2.1)] I fun a I=>wpList_nil (eV _ _ ?_);refine wp_seq_k fun K dk=>?_;refine aP [] [(5,.J bN),(10,.J cU),(15,.i gp.1),(46,.bool (!gp.2.1))] I fun a I=>?_;refine bH (I.g rfl) h (fun Zk h=>?_) (fun Zk h=>?_)
 · refine wp_seq_k fun K ey=>?_;refine a5 ?_;refine bW (av rfl) (gP (vs:=[]) (cs:=[.slice none 0 0,.i 0,.i 0,.i 0,.i 0,.slice none 0 0,.i 0]) Try.zeroValue24 Try.underlying24 rE rfl trivial (by kernel_rfl)) I rfl rfl fun a I=>?_;refine c1 (vs:=[.slice none 0 0,.i 0,.i 0,.i 0,.i 0,.slice none 0 0,.i 0]) 3 hm rfl (av rfl) rfl Try.sizeOf24 rfl rfl rfl rfl (I.g rfl) (I.g rfl) rfl ?_;intro w hm;simp only [List.set,lay,List.drop,List.length,List.cons_append,List.nil_append] at hm;refine aN 2 [] [(10,.J cU),(11,.i 0),(12,.i 8)] I fun a I=>wpList_nil (ey _ _ ?_);refine wp_ret ?_;obtain rfl:=Option.some.inj h;refine aW ?_
   refine hU (vs:=[.agg #[.slice none 0 0,.i 0,.i 0,.i 0,.i 0,.slice none 0 0,.i 0],.i 0,.i 8]) Try.results11 I ⟨⟨_,_,I.g rfl,.inl ⟨[.slice none 0 0,.i 0,.i 0,.i 0,.i 0,.slice none 0 0,.i 0],Try.isAgg24,Try.sizeOf24,hH (hm.e 3 rfl) 0 ⟨rfl,rfl,rfl,rfl,rfl,rfl,rfl,trivial⟩,rfl⟩⟩,I.g rfl,I.g rfl,trivial⟩ ?_;have hm:=hm.c7 (α:=Int) 3 1;have hm:=hm.more (y:=ap.rows (ax .i64) [] []) rfl;have hm:=hm.c7 (α:=Int) 3 1;have hm:=hm.more (y:=ap.rows (ax .i64) [] []) rfl;exact ⟨none,0,[],none,0,[],rfl,(hm.a7 [1,0] rfl rfl).pick ⟨⟨0,rfl⟩,⟨0,rfl⟩,trivial⟩⟩
 refine wp_skip ?_;refine dk _ _ ?_;refine wp_seq_k fun K eg=>?_;refine a5 ?_;refine bj 2 [0,0] [(10,.J cU),(48,.agg #[.slice yK gp.2.2.Words.length zS,.i gn.ai,.i gn.ak,.i gp.2.2.aB,.i gp.2.2.aA,.slice p2 gn.al.length qd,.i gp.2.2.Next]),(49,.i gp.1)] [bN,0] (aQ (bh (hm.e 0 rfl)) aS) I fun a I=>?_;refine c1 (vs:=[.slice yK gp.2.2.Words.length zS,.i gn.ai,.i gn.ak,.i gp.2.2.aB,.i gp.2.2.aA,.slice p2 gn.al.length qd,.i gp.2.2.Next]) 3 hm rfl (av rfl) rfl Try.sizeOf24 rfl rfl rfl rfl (I.g rfl) (I.g rfl) rfl ?_;intro w hm;simp only [List.set,lay,List.drop,List.length,List.cons_append,List.nil_append] at hm
 refine aN 2 [] [(10,.J cU),(11,.i gp.1),(12,.i 0)] I fun a I=>wpList_nil (eg _ _ ?_);refine wp_ret ?_;obtain rfl:=Option.some.inj h;refine hU (vs:=[.agg #[.slice yK gp.2.2.Words.length zS,.i gn.ai,.i gn.ak,.i gp.2.2.aB,.i gp.2.2.aA,.slice p2 gn.al.length qd,.i gp.2.2.Next],.i gp.1,.i 0]) Try.results11 I ⟨⟨_,_,I.g rfl,.inl ⟨[.slice yK gp.2.2.Words.length zS,.i gn.ai,.i gn.ak,.i gp.2.2.aB,.i gp.2.2.aA,.slice p2 gn.al.length qd,.i gp.2.2.Next],Try.isAgg24,Try.sizeOf24,hH (hm.e 3 rfl) 0 ⟨rfl,rfl,rfl,rfl,rfl,rfl,rfl,trivial⟩,rfl⟩⟩,I.g rfl,I.g rfl,trivial⟩ ?_
 exact ⟨yK,zS,alT,p2,qd,alP,rfl,(hm.a7 [1,2] rfl rfl).pick ⟨⟨0,rfl⟩,⟨2,rfl⟩,trivial⟩⟩
theorem O4 {W:World} {X:List Nat} {F:Nat} {h_:Cin.bd} {ah:Cin.bb} {at_:Int} {r:(Option Cin.bU) × Int} {aj:Option Addr} {ar:Nat} {aJ:Option Addr} {aO:Nat} {a8:Option Addr} {ba:Nat} {b0:Option Addr} {b1:Nat} {bP:Option Addr} {bR:Nat} {cA:Option Addr} {cB:Nat} {cw:Option Addr} {cx:Nat} (hm:aD W (aT []) X W [] [aa (ax .i64) aj ar h_.Words,aa (ax .i64) aJ aO h_.al,aa Cin.bL a8 ba ah.aK,aa (ax .i64) b0 b1 ah.aI,aa (aU Cin.bJ) bP bR ah.Fields,aa (aU bZ) cA cB ah.Names,aa (aU Cin.cz) cw cx ah.aH]) (h:Cin.m3 F h_ ah at_=some r) :
 Calls Try.prog 25 [.agg #[.slice aj h_.Words.length ar,.i h_.ai,.i h_.ak,.i h_.aB,.i h_.aA,.slice aJ h_.al.length aO,.i h_.Next],.agg #[.slice a8 ah.aK.length ba,.slice b0 ah.aI.length b1,.slice bP ah.Fields.length bR,.slice cA ah.Names.length cB,.slice cw ah.aH.length cx],.i at_].toArray W (fun e az=>∃ P1:Nat,∃ r8:Option Addr,∃ sy:Nat,∃ yD:Option Addr,∃ zL:Nat,∃ yE:Option Addr,∃ zM:Nat,∃ r_:Option Addr,∃ sA:Nat,∃ j9:Option Addr,∃ kc:Nat,∃ yF:Option Addr,∃ zO:Nat,∃ uB:Option Addr,∃ uY:Nat,∃ uC:Option Addr,∃ uZ:Nat,∃ yJ:Option Addr,∃ zR:Nat,∃ P3:Nat,e= .returned (.tuple #[.pointer (eO r.1 P1),.i r.2])/\aD W (aT []) X az [] [ap.dA r.1 (fun bB=>ap.cF P1 [.slice r8 bB.H.Words.length sy,.i bB.H.ai,.i bB.H.ak,.i bB.H.aB,.i bB.H.aA,.slice yD bB.H.al.length zL,.i bB.H.Next,.slice yE bB.S.K.aK.length zM,.slice r_ bB.S.K.aI.length sA,.slice j9 bB.S.K.Fields.length kc,.slice yF bB.S.K.Names.length zO,.slice uB bB.S.K.aH.length uY,.slice uC bB.ai.length uZ,.slice yJ bB.ak.length zR,.map (some P3)]),ap.dA r.1 (fun bB=>aa (ax .i64) r8 sy bB.H.Words),ap.dA r.1 (fun bB=>aa (ax .i64) yD zL bB.H.al),ap.dA r.1 (fun bB=>aa Cin.bL yE zM bB.S.K.aK),ap.dA r.1 (fun bB=>aa (ax .i64) r_ sA bB.S.K.aI),ap.dA r.1 (fun bB=>aa (aU Cin.bJ) j9 kc bB.S.K.Fields),ap.dA r.1 (fun bB=>aa (aU bZ) yF zO bB.S.K.Names),ap.dA r.1 (fun bB=>aa (aU Cin.cz) uB uY bB.S.K.aH),ap.dA r.1 (fun bB=>aa (ax .i64) uC uZ bB.ai),ap.dA r.1 (fun bB=>aa (ax .i64) yJ zR bB.ak),ap.dA r.1 (fun bB=>ap.map ek Value.bool P3 bB.cj)]):=by
 generalize bK:aT []=aR at hm ⊢;clear bK;refine enter Try.func25 rfl Try.ntmps25 rfl ?_;intro a I;rw [Cin.m3] at h;refine wp_seq_k fun K dx=>?_;refine a5 ?_;refine c5 (cs:=[.slice aj h_.Words.length ar,.i h_.ai,.i h_.ak,.i h_.aB,.i h_.aA,.slice aJ h_.al.length aO,.i h_.Next]) (av rfl) (eY rfl rfl (I.g rfl)) I hm rfl rfl ?_;intro a bN w U I hm;clear U;refine c5 (cs:=[.slice a8 ah.aK.length ba,.slice b0 ah.aI.length b1,.slice bP ah.Fields.length bR,.slice cA ah.Names.length cB,.slice cw ah.aH.length cx]) (av rfl) (eY rfl rfl (I.g rfl)) I hm rfl rfl ?_;intro a c2 w U I hm;clear U
 refine aN 2 [] [(2,.i at_),(3,.J bN),(4,.J c2)] I fun a I=>wpList_nil (dx _ _ ?_);refine wp_seq_k fun K bS=>?_;refine a5 ?_;refine bj 2 [0,0,1,0] [(2,.i at_),(11,.agg #[.slice aj h_.Words.length ar,.i h_.ai,.i h_.ak,.i h_.aB,.i h_.aA,.slice aJ h_.al.length aO,.i h_.Next]),(12,.agg #[.slice a8 ah.aK.length ba,.slice b0 ah.aI.length b1,.slice bP ah.Fields.length bR,.slice cA ah.Names.length cB,.slice cw ah.aH.length cx])] [c2,0,bN,0] (aQ (bh (hm.e 1 rfl)) (aQ (bh (hm.e 0 rfl)) aS)) I fun a I=>?_;obtain ⟨cG,mB,h⟩:=Cin.aV h;have hc:=hm
 refine b4 (vs:=[.agg #[.slice aj h_.Words.length ar,.i h_.ai,.i h_.ak,.i h_.aB,.i h_.aA,.slice aJ h_.al.length aO,.i h_.Next],.agg #[.slice a8 ah.aK.length ba,.slice b0 ah.aI.length b1,.slice bP ah.Fields.length bR,.slice cA ah.Names.length cB,.slice cw ah.aH.length cx]]) (av rfl) rfl Try.call22 ⟨(I.g rfl),(I.g rfl),trivial⟩ (Ht ((hc.into 0).pick ⟨⟨0,rfl⟩,⟨1,rfl⟩,⟨2,rfl⟩,⟨3,rfl⟩,⟨4,rfl⟩,⟨5,rfl⟩,⟨6,rfl⟩,trivial⟩) mB) I rfl rfl ?_;rintro _ w ⟨fN,eP,eQ,g_,hb,dY,ej,fT,fU,kK,kP,oZ,o',o0,pa,kL,kQ,kM,kR,pi,rfl,ad⟩;refine ⟨_,rfl,?_⟩;intro a I;have U:aX [] _ w:=ad.ev;have hm:=hc.back 0 ad
 dsimp only [List.drop,List.cons_append,List.nil_append,HAppend.hAppend,Append.append,List.append] at hm;clear ad hc;clear U;refine aN 5 [] [(2,.i at_),(8,.pointer (eO cG.1 fN)),(9,.i cG.2)] I fun a I=>wpList_nil (bS _ _ ?_);refine wp_seq_k fun K cn=>?_;refine wp_seq_k fun K dc=>?_;refine a5 ?_;refine aN 3 [] [(2,.i at_),(8,.pointer (eO cG.1 fN)),(9,.i cG.2),(18,.bool (decide (cG.2 = 0)))] I fun a I=>?_;rcases Bool.eq_false_or_eq_true (decide (cG.2 = 0)) with nY | nY
 · have h:=Cin.ew nY h;have I:=I.cS 18 rfl nY;refine aN 2 [1,1] [(8,.pointer (eO cG.1 fN)),(9,.i cG.2),(18,.bool true),(19,.pointer (eO cG.1 fN)),(20,.i at_)] I fun a I=>?_;obtain ⟨cI,Bp,h⟩:=Cin.aV h;simp only [Bp,ap.dA,eO] at I hm;obtain ⟨tT,J4,h⟩:=Cin.aV h;have hc:=hm
   refine b4 (vs:=[.J fN,.i at_]) (ep I rfl rfl rfl rfl) rfl Try.call19 ⟨(I.g rfl),(I.g rfl),trivial⟩ (O2 (v_:=(⟨(⟨cI.H.Words,cI.H.ai,cI.H.ak,cI.H.aB,cI.H.aA,cI.H.al,cI.H.Next⟩:Cin.bd),(⟨(⟨cI.S.K.aK,cI.S.K.aI,cI.S.K.Fields,cI.S.K.Names,cI.S.K.aH⟩:Cin.bb)⟩:Cin.cd),cI.ai,cI.ak,cI.cj⟩:Cin.bU)) ((hc.into 0).pick ⟨⟨0,rfl⟩,⟨1,rfl⟩,⟨2,rfl⟩,⟨3,rfl⟩,⟨4,rfl⟩,⟨5,rfl⟩,⟨6,rfl⟩,⟨7,rfl⟩,⟨8,rfl⟩,⟨9,rfl⟩,⟨10,rfl⟩,trivial⟩) J4) I rfl rfl ?_;rintro _ w ⟨rfl,ad⟩;refine ⟨_,rfl,?_⟩;intro a I;have U:aX [] _ w:=ad.ev;have hm:=hc.back 0 ad;dsimp only [List.drop,List.cons_append,List.nil_append,HAppend.hAppend,Append.append,List.append] at hm;clear ad hc;clear U
   refine aN 2 [1,1] [(8,.J fN),(9,.i cG.2),(23,.bool (!tT))] I fun a I=>wpList_nil (dc _ _ ?_);refine bH (I.g rfl) h (fun YW h=>?_) (fun YW h=>?_)
   · refine c6 [] [(8,.J fN),(9,.i 5)] I fun a I=>cn _ _ ?_;refine aP [] [(6,.J fN),(7,.i 5)] I fun a I=>?_;refine wp_ret ?_;obtain rfl:=Option.some.inj h;refine gM Try.results25 I rfl rfl ?_;exact ⟨fN,eP,eQ,g_,hb,dY,ej,fT,fU,kK,kP,oZ,o',o0,pa,kL,kQ,kM,kR,pi,rfl,(hm.a7 [] rfl rfl).pick ⟨⟨0,rfl⟩,⟨1,rfl⟩,⟨2,rfl⟩,⟨3,rfl⟩,⟨4,rfl⟩,⟨5,rfl⟩,⟨6,rfl⟩,⟨7,rfl⟩,⟨8,rfl⟩,⟨9,rfl⟩,⟨10,rfl⟩,trivial⟩⟩
   refine wp_skip ?_;refine cn _ _ ?_;refine aP [] [(6,.J fN),(7,.i cG.2)] I fun a I=>?_;refine wp_ret ?_;obtain rfl:=Option.some.inj h;refine gM Try.results25 I rfl rfl ?_;exact ⟨fN,eP,eQ,g_,hb,dY,ej,fT,fU,kK,kP,oZ,o',o0,pa,kL,kQ,kM,kR,pi,rfl,(hm.a7 [] rfl rfl).pick ⟨⟨0,rfl⟩,⟨1,rfl⟩,⟨2,rfl⟩,⟨3,rfl⟩,⟨4,rfl⟩,⟨5,rfl⟩,⟨6,rfl⟩,⟨7,rfl⟩,⟨8,rfl⟩,⟨9,rfl⟩,⟨10,rfl⟩,trivial⟩⟩
 have h:=Cin.eu nY h;have I:=I.cS 18 rfl nY;refine aN 5 [1,1,1,1,1] [(8,.pointer (eO cG.1 fN)),(9,.i cG.2),(23,.bool false)] I fun a I=>wpList_nil (dc _ _ ?_);refine jK (I.g rfl) rfl ?_;refine wp_skip ?_;refine cn _ _ ?_;refine aP [] [(6,.pointer (eO cG.1 fN)),(7,.i cG.2)] I fun a I=>?_;refine wp_ret ?_;obtain rfl:=Option.some.inj h;refine gM Try.results25 I rfl rfl ?_;exact ⟨fN,eP,eQ,g_,hb,dY,ej,fT,fU,kK,kP,oZ,o',o0,pa,kL,kQ,kM,kR,pi,rfl,(hm.a7 [] rfl rfl).pick ⟨⟨0,rfl⟩,⟨1,rfl⟩,⟨2,rfl⟩,⟨3,rfl⟩,⟨4,rfl⟩,⟨5,rfl⟩,⟨6,rfl⟩,⟨7,rfl⟩,⟨8,rfl⟩,⟨9,rfl⟩,⟨10,rfl⟩,trivial⟩⟩
theorem O5 {W:World} {X:List Nat} {F:Nat} {h_:Cin.bd} {ah:Cin.bb} {at_:Int} {bs:Int} {r:(Option Cin.bU) × Int} {aj:Option Addr} {ar:Nat} {aJ:Option Addr} {aO:Nat} {a8:Option Addr} {ba:Nat} {b0:Option Addr} {b1:Nat} {bP:Option Addr} {bR:Nat} {cA:Option Addr} {cB:Nat} {cw:Option Addr} {cx:Nat} (hm:aD W (aT []) X W [] [aa (ax .i64) aj ar h_.Words,aa (ax .i64) aJ aO h_.al,aa Cin.bL a8 ba ah.aK,aa (ax .i64) b0 b1 ah.aI,aa (aU Cin.bJ) bP bR ah.Fields,aa (aU bZ) cA cB ah.Names,aa (aU Cin.cz) cw cx ah.aH]) (h:Cin.m4 F h_ ah at_ bs=some r) :
 Calls Try.prog 17 [.agg #[.slice aj h_.Words.length ar,.i h_.ai,.i h_.ak,.i h_.aB,.i h_.aA,.slice aJ h_.al.length aO,.i h_.Next],.agg #[.slice a8 ah.aK.length ba,.slice b0 ah.aI.length b1,.slice bP ah.Fields.length bR,.slice cA ah.Names.length cB,.slice cw ah.aH.length cx],.i at_,.i bs].toArray W (fun e az=>∃ z':Nat,∃ yJ:Option Addr,∃ zR:Nat,∃ yL:Option Addr,∃ zT:Nat,∃ r':Option Addr,∃ sB:Nat,∃ sa:Option Addr,∃ sC:Nat,∃ NF:Option Addr,∃ OE:Nat,∃ NG:Option Addr,∃ OG:Nat,∃ NH:Option Addr,∃ OH:Nat,∃ NI:Option Addr,∃ OI:Nat,∃ NJ:Option Addr,∃ OJ:Nat,∃ P4:Nat,e= .returned (.tuple #[.pointer (eO r.1 z'),.i r.2])/\aD W (aT []) X az [] [ap.dA r.1 (fun bB=>ap.cF z' [.slice yJ bB.H.Words.length zR,.i bB.H.ai,.i bB.H.ak,.i bB.H.aB,.i bB.H.aA,.slice yL bB.H.al.length zT,.i bB.H.Next,.slice r' bB.S.K.aK.length sB,.slice sa bB.S.K.aI.length sC,.slice NF bB.S.K.Fields.length OE,.slice NG bB.S.K.Names.length OG,.slice NH bB.S.K.aH.length OH,.slice NI bB.ai.length OI,.slice NJ bB.ak.length OJ,.map (some P4)]),ap.dA r.1 (fun bB=>aa (ax .i64) yJ zR bB.H.Words),ap.dA r.1 (fun bB=>aa (ax .i64) yL zT bB.H.al),ap.dA r.1 (fun bB=>aa Cin.bL r' sB bB.S.K.aK),ap.dA r.1 (fun bB=>aa (ax .i64) sa sC bB.S.K.aI),ap.dA r.1 (fun bB=>aa (aU Cin.bJ) NF OE bB.S.K.Fields),ap.dA r.1 (fun bB=>aa (aU bZ) NG OG bB.S.K.Names),ap.dA r.1 (fun bB=>aa (aU Cin.cz) NH OH bB.S.K.aH),ap.dA r.1 (fun bB=>aa (ax .i64) NI OI bB.ai),ap.dA r.1 (fun bB=>aa (ax .i64) NJ OJ bB.ak),ap.dA r.1 (fun bB=>ap.map ek Value.bool P4 bB.cj)]):=by
 generalize bK:aT []=aR at hm ⊢;clear bK;refine enter Try.func17 rfl Try.ntmps17 rfl ?_;intro a I;rw [Cin.m4] at h;refine wp_seq_k fun K dx=>?_;refine a5 ?_;refine c5 (cs:=[.slice aj h_.Words.length ar,.i h_.ai,.i h_.ak,.i h_.aB,.i h_.aA,.slice aJ h_.al.length aO,.i h_.Next]) (av rfl) (eY rfl rfl (I.g rfl)) I hm rfl rfl ?_;intro a bN w U I hm;clear U;refine c5 (cs:=[.slice a8 ah.aK.length ba,.slice b0 ah.aI.length b1,.slice bP ah.Fields.length bR,.slice cA ah.Names.length cB,.slice cw ah.aH.length cx]) (av rfl) (eY rfl rfl (I.g rfl)) I hm rfl rfl ?_;intro a c2 w U I hm;clear U
 refine aN 2 [] [(2,.i at_),(3,.i bs),(4,.J bN),(5,.J c2)] I fun a I=>wpList_nil (dx _ _ ?_);refine wp_seq_k fun K bS=>?_;refine a5 ?_;refine bj 3 [0,0,1,0] [(2,.i at_),(3,.i bs),(4,.J bN),(13,.agg #[.slice aj h_.Words.length ar,.i h_.ai,.i h_.ak,.i h_.aB,.i h_.aA,.slice aJ h_.al.length aO,.i h_.Next]),(14,.agg #[.slice a8 ah.aK.length ba,.slice b0 ah.aI.length b1,.slice bP ah.Fields.length bR,.slice cA ah.Names.length cB,.slice cw ah.aH.length cx]),(15,.i at_)] [c2,0,bN,0] (aQ (bh (hm.e 1 rfl)) (aQ (bh (hm.e 0 rfl)) aS)) I fun a I=>?_;obtain ⟨cG,mB,h⟩:=Cin.aV h
 have hc:=hm;refine b4 (vs:=[.agg #[.slice aj h_.Words.length ar,.i h_.ai,.i h_.ak,.i h_.aB,.i h_.aA,.slice aJ h_.al.length aO,.i h_.Next],.agg #[.slice a8 ah.aK.length ba,.slice b0 ah.aI.length b1,.slice bP ah.Fields.length bR,.slice cA ah.Names.length cB,.slice cw ah.aH.length cx],.i at_]) (av rfl) rfl Try.call25 ⟨(I.g rfl),(I.g rfl),(I.g rfl),trivial⟩ (O4 ((hc.into 0).pick ⟨⟨0,rfl⟩,⟨1,rfl⟩,⟨2,rfl⟩,⟨3,rfl⟩,⟨4,rfl⟩,⟨5,rfl⟩,⟨6,rfl⟩,trivial⟩) mB) I rfl rfl ?_;rintro _ w ⟨fN,eP,eQ,g_,hb,dY,ej,fT,fU,kK,kP,oZ,o',o0,pa,kL,kQ,kM,kR,pi,rfl,ad⟩;refine ⟨_,rfl,?_⟩;intro a I;have U:aX [] _ w:=ad.ev;have hm:=hc.back 0 ad
 dsimp only [List.drop,List.cons_append,List.nil_append,HAppend.hAppend,Append.append,List.append] at hm;clear ad hc;clear U;refine aN 5 [] [(2,.i at_),(3,.i bs),(4,.J bN),(10,.pointer (eO cG.1 fN)),(11,.i cG.2)] I fun a I=>wpList_nil (bS _ _ ?_);obtain ⟨h3,h,hO⟩:=Cin.aV h
 refine w8 (fun a w=>∃ (xU:Int),Fr ⟨35,[]⟩ [(10,.pointer (eO cG.1 fN)),(11,.i xU)] a/\aD W aR X w [aw.br c2 36 [.slice a8 ah.aK.length ba,.slice b0 ah.aI.length b1,.slice bP ah.Fields.length bR,.slice cA ah.Names.length cB,.slice cw ah.aH.length cx],aw.br bN 24 [.slice aj h_.Words.length ar,.i h_.ai,.i h_.ak,.i h_.aB,.i h_.aA,.slice aJ h_.al.length aO,.i h_.Next]] [ap.dA cG.1 (fun bB=>ap.cF fN [.slice eP bB.H.Words.length eQ,.i bB.H.ai,.i bB.H.ak,.i bB.H.aB,.i bB.H.aA,.slice g_ bB.H.al.length hb,.i bB.H.Next,.slice dY bB.S.K.aK.length ej,.slice fT bB.S.K.aI.length fU,.slice kK bB.S.K.Fields.length kP,.slice oZ bB.S.K.Names.length o',.slice o0 bB.S.K.aH.length pa,.slice kL bB.ai.length kQ,.slice kM bB.ak.length kR,.map (some pi)]),ap.dA cG.1 (fun bB=>aa (ax .i64) eP eQ bB.H.Words),ap.dA cG.1 (fun bB=>aa (ax .i64) g_ hb bB.H.al),ap.dA cG.1 (fun bB=>aa Cin.bL dY ej bB.S.K.aK),ap.dA cG.1 (fun bB=>aa (ax .i64) fT fU bB.S.K.aI),ap.dA cG.1 (fun bB=>aa (aU Cin.bJ) kK kP bB.S.K.Fields),ap.dA cG.1 (fun bB=>aa (aU bZ) oZ o' bB.S.K.Names),ap.dA cG.1 (fun bB=>aa (aU Cin.cz) o0 pa bB.S.K.aH),ap.dA cG.1 (fun bB=>aa (ax .i64) kL kQ bB.ai),ap.dA cG.1 (fun bB=>aa (ax .i64) kM kR bB.ak),ap.dA cG.1 (fun bB=>ap.map ek Value.bool pi bB.cj),aa (ax .i64) aj ar h_.Words,aa (ax .i64) aJ aO h_.al,aa Cin.bL a8 ba ah.aK,aa (ax .i64) b0 b1 ah.aI,aa (aU Cin.bJ) bP bR ah.Fields,aa (aU bZ) cA cB ah.Names,aa (aU Cin.cz) cw cx ah.aH]/\h3=xU) (fun K cn=>?_) ?_
 · clear hO;refine wp_seq_k fun K dc=>?_;refine a5 ?_;refine aN 3 [] [(2,.i at_),(3,.i bs),(4,.J bN),(10,.pointer (eO cG.1 fN)),(11,.i cG.2),(21,.bool (decide (cG.2 = 0)))] I fun a I=>?_;rcases Bool.eq_false_or_eq_true (decide (cG.2 = 0)) with nZ | nZ
   · have h:=Cin.ew nZ h;have I:=I.cS 21 rfl nZ;refine bj 5 [1,1,1,0,0,1,1] [(10,.pointer (eO cG.1 fN)),(11,.i cG.2),(21,.bool true),(22,.i bs),(24,.slice aj h_.Words.length ar),(26,.i (Cin.ay (at_+ 1)))] [bN,0] (aQ (bh (hm.e 1 rfl)) aS) I fun a I=>?_;obtain ⟨FN,af9,h⟩:=Cin.aV h;obtain ⟨W_,acw,_,rfl,aan⟩:=da _ (hm.d 11 rfl) af9;refine bW (ep I rfl rfl rfl rfl) (cv Try.underlying22 Try.sizeOf3 rfl (I.g rfl) (I.g rfl) W_ acw) I rfl rfl fun a I=>?_;refine bj 2 [1,0,0,1] [(10,.pointer (eO cG.1 fN)),(11,.i cG.2),(21,.bool true),(22,.i bs),(29,.i (Cin.ay (FN - 1)))] [ct aj,cy aj+(Cin.ay (at_+ 1)).toNat* 1] (aQ aan aS) I fun a I=>?_
     obtain ⟨L_,aeH,h⟩:=Cin.aV h;have hc:=hm;refine b4 (vs:=[.i bs,.i 0,.i (Cin.ay (FN - 1))]) (ep I rfl rfl rfl rfl) rfl Try.call13 ⟨(I.g rfl),(dg _ _),(I.g rfl),trivial⟩ (qi ((hc.into 0).pick trivial) aeH) I rfl rfl ?_;rintro _ w ⟨rfl,ad⟩;refine ⟨_,rfl,?_⟩;intro a I;have U:aX [] _ w:=ad.ev;have hm:=hc.back 0 ad;dsimp only [List.drop,List.cons_append,List.nil_append,HAppend.hAppend,Append.append,List.append] at hm;clear ad hc;clear U;refine aN 2 [1,1] [(10,.pointer (eO cG.1 fN)),(11,.i cG.2),(32,.bool (!L_))] I fun a I=>wpList_nil (dc _ _ ?_);refine bH (I.g rfl) h (fun Zc h=>?_) (fun Zc h=>?_)
     · refine c6 [] [(10,.pointer (eO cG.1 fN)),(11,.i 3)] I fun a I=>?_;exact cn _ _ ⟨3,I.sub ⟨rfl,rfl,trivial⟩,hm,(Option.some.inj h).symm⟩
     refine wp_skip ?_;exact cn _ _ ⟨cG.2,I.sub ⟨rfl,rfl,trivial⟩,hm,(Option.some.inj h).symm⟩
   have h:=Cin.eu nZ h;have I:=I.cS 21 rfl nZ;refine aN 11 [1,1,1,1,1,1,1,1,1,1,1] [(10,.pointer (eO cG.1 fN)),(11,.i cG.2),(32,.bool false)] I fun a I=>wpList_nil (dc _ _ ?_);refine jK (I.g rfl) rfl ?_;refine wp_skip ?_;exact cn _ _ ⟨cG.2,I.sub ⟨rfl,rfl,trivial⟩,hm,(Option.some.inj h).symm⟩
 rintro a w ⟨xU,I,hm,bf⟩;subst h3;have h:=hO;clear hO;refine aP [] [(8,.pointer (eO cG.1 fN)),(9,.i xU)] I fun a I=>?_;refine wp_ret ?_;obtain rfl:=Option.some.inj h;refine gM Try.results17 I rfl rfl ?_;exact ⟨fN,eP,eQ,g_,hb,dY,ej,fT,fU,kK,kP,oZ,o',o0,pa,kL,kQ,kM,kR,pi,rfl,(hm.a7 [] rfl rfl).pick ⟨⟨0,rfl⟩,⟨1,rfl⟩,⟨2,rfl⟩,⟨3,rfl⟩,⟨4,rfl⟩,⟨5,rfl⟩,⟨6,rfl⟩,⟨7,rfl⟩,⟨8,rfl⟩,⟨9,rfl⟩,⟨10,rfl⟩,trivial⟩⟩
theorem OW {W:World} {X:List Nat} {F:Nat} {h_:Cin.bd} {ah:Cin.bb} {at_:Int} {bs:Int} {r:Int × Int} {aj:Option Addr} {ar:Nat} {aJ:Option Addr} {aO:Nat} {a8:Option Addr} {ba:Nat} {b0:Option Addr} {b1:Nat} {bP:Option Addr} {bR:Nat} {cA:Option Addr} {cB:Nat} {cw:Option Addr} {cx:Nat} (hm:aD W (aT []) X W [] [aa (ax .i64) aj ar h_.Words,aa (ax .i64) aJ aO h_.al,aa Cin.bL a8 ba ah.aK,aa (ax .i64) b0 b1 ah.aI,aa (aU Cin.bJ) bP bR ah.Fields,aa (aU bZ) cA cB ah.Names,aa (aU Cin.cz) cw cx ah.aH]) (h:Cin.s4 F h_ ah at_ bs=some r) :
 Calls Try.prog 9 [.agg #[.slice aj h_.Words.length ar,.i h_.ai,.i h_.ak,.i h_.aB,.i h_.aA,.slice aJ h_.al.length aO,.i h_.Next],.agg #[.slice a8 ah.aK.length ba,.slice b0 ah.aI.length b1,.slice bP ah.Fields.length bR,.slice cA ah.Names.length cB,.slice cw ah.aH.length cx],.i at_,.i bs].toArray W (fun e az=>e= .returned (.tuple #[.i r.1,.i r.2])/\aD W (aT []) X az [] []):=by
 generalize bK:aT []=aR at hm ⊢;clear bK;refine enter Try.func9 rfl Try.ntmps9 rfl ?_;intro a I;rw [Cin.s4] at h;refine wp_seq_k fun K dx=>?_;refine a5 ?_;refine c5 (cs:=[.slice aj h_.Words.length ar,.i h_.ai,.i h_.ak,.i h_.aB,.i h_.aA,.slice aJ h_.al.length aO,.i h_.Next]) (av rfl) (eY rfl rfl (I.g rfl)) I hm rfl rfl ?_;intro a bN w U I hm;clear U;refine c5 (cs:=[.slice a8 ah.aK.length ba,.slice b0 ah.aI.length b1,.slice bP ah.Fields.length bR,.slice cA ah.Names.length cB,.slice cw ah.aH.length cx]) (av rfl) (eY rfl rfl (I.g rfl)) I hm rfl rfl ?_;intro a c2 w U I hm;clear U
 refine aN 2 [] [(2,.i at_),(3,.i bs),(4,.J bN),(5,.J c2)] I fun a I=>wpList_nil (dx _ _ ?_);refine wp_seq_k fun K bS=>?_;refine wp_seq_k fun K cn=>?_;refine a5 ?_
 refine bj 4 [0,0,1,0] [(2,.i at_),(3,.i bs),(4,.J bN),(13,.agg #[.slice aj h_.Words.length ar,.i h_.ai,.i h_.ak,.i h_.aB,.i h_.aA,.slice aJ h_.al.length aO,.i h_.Next]),(14,.agg #[.slice a8 ah.aK.length ba,.slice b0 ah.aI.length b1,.slice bP ah.Fields.length bR,.slice cA ah.Names.length cB,.slice cw ah.aH.length cx]),(15,.i at_),(16,.i bs)] [c2,0,bN,0] (aQ (bh (hm.e 1 rfl)) (aQ (bh (hm.e 0 rfl)) aS)) I fun a I=>?_;obtain ⟨cG,mB,h⟩:=Cin.aV h;have hc:=hm
 refine b4 (vs:=[.agg #[.slice aj h_.Words.length ar,.i h_.ai,.i h_.ak,.i h_.aB,.i h_.aA,.slice aJ h_.al.length aO,.i h_.Next],.agg #[.slice a8 ah.aK.length ba,.slice b0 ah.aI.length b1,.slice bP ah.Fields.length bR,.slice cA ah.Names.length cB,.slice cw ah.aH.length cx],.i at_,.i bs]) (av rfl) rfl Try.call17 ⟨(I.g rfl),(I.g rfl),(I.g rfl),(I.g rfl),trivial⟩ (O5 ((hc.into 0).pick ⟨⟨0,rfl⟩,⟨1,rfl⟩,⟨2,rfl⟩,⟨3,rfl⟩,⟨4,rfl⟩,⟨5,rfl⟩,⟨6,rfl⟩,trivial⟩) mB) I rfl rfl ?_;rintro _ w ⟨fN,eP,eQ,g_,hb,dY,ej,fT,fU,kK,kP,oZ,o',o0,pa,kL,kQ,kM,kR,pi,rfl,ad⟩;refine ⟨_,rfl,?_⟩;intro a I;have U:aX [] _ w:=ad.ev;have hm:=hc.back 0 ad
 dsimp only [List.drop,List.cons_append,List.nil_append,HAppend.hAppend,Append.append,List.append] at hm;clear ad hc;clear U;refine aN 5 [] [(2,.i at_),(3,.i bs),(4,.J bN),(11,.i cG.2)] I fun a I=>wpList_nil (cn _ _ ?_);refine aP [] [(2,.i at_),(3,.i bs),(4,.J bN),(11,.i cG.2),(21,.bool (!decide (cG.2 = 0)))] I fun a I=>?_;refine bH (I.g rfl) h (fun nY h=>?_) (fun nY h=>?_)
 · refine aP [] [(8,.i 0),(9,.i cG.2)] I fun a I=>?_;refine wp_ret ?_;obtain rfl:=Option.some.inj h;refine aW ?_;refine gM Try.results9 I rfl rfl ?_;exact ⟨rfl,(hm.a7 [] rfl rfl).pick trivial⟩
 refine wp_skip ?_;refine bS _ _ ?_;refine wp_seq_k fun K eR=>?_;refine a5 ?_;refine bj 6 [0,0] [(24,.slice aj h_.Words.length ar),(28,.i (Cin.ay ((Cin.ay (at_+ 3))+bs)))] [bN,0] (aQ (bh (hm.e 1 rfl)) aS) I fun a I=>?_;obtain ⟨cI,Bp,h⟩:=Cin.aV h;obtain ⟨W0,ack,_,rfl,aad⟩:=da _ (hm.d 11 rfl) Bp;refine bW (av rfl) (cv Try.underlying22 Try.sizeOf3 rfl (I.g rfl) (I.g rfl) W0 ack) I rfl rfl fun a I=>?_;refine bj 3 [0,0] [(8,.i cI),(9,.i 0)] [ct aj,cy aj+(Cin.ay ((Cin.ay (at_+ 3))+bs)).toNat* 1] (aQ aad aS) I fun a I=>wpList_nil (eR _ _ ?_);refine wp_ret ?_;obtain rfl:=Option.some.inj h;refine gM Try.results9 I rfl rfl ?_;exact ⟨rfl,(hm.a7 [] rfl rfl).pick trivial⟩
theorem Uj {W:World} {X:List Nat} {F:Nat} {h_:Cin.bd} {ah:Cin.bb} {at_:Int} {r:(List Int) × Int} {aj:Option Addr} {ar:Nat} {aJ:Option Addr} {aO:Nat} {a8:Option Addr} {ba:Nat} {b0:Option Addr} {b1:Nat} {bP:Option Addr} {bR:Nat} {cA:Option Addr} {cB:Nat} {cw:Option Addr} {cx:Nat} (hm:aD W (aT []) X W [] [aa (ax .i64) aj ar h_.Words,aa (ax .i64) aJ aO h_.al,aa Cin.bL a8 ba ah.aK,aa (ax .i64) b0 b1 ah.aI,aa (aU Cin.bJ) bP bR ah.Fields,aa (aU bZ) cA cB ah.Names,aa (aU Cin.cz) cw cx ah.aH]) (h:Cin.xo F h_ ah at_=some r) :
 Calls Try.prog 12 [.agg #[.slice aj h_.Words.length ar,.i h_.ai,.i h_.ak,.i h_.aB,.i h_.aA,.slice aJ h_.al.length aO,.i h_.Next],.agg #[.slice a8 ah.aK.length ba,.slice b0 ah.aI.length b1,.slice bP ah.Fields.length bR,.slice cA ah.Names.length cB,.slice cw ah.aH.length cx],.i at_].toArray W (fun e az=>∃ uA:Option Addr,∃ uX:Nat,∃ pV:List Value,e= .returned (.tuple #[.slice uA r.1.length uX,.i r.2])/\aD W (aT []) X az [aw.row 3 1 (.slice uA r.1.length uX) r.1 pV] [ap.rows (ax .i64) pV r.1]):=by
 generalize bK:aT []=aR at hm ⊢;clear bK;refine enter Try.func12 rfl Try.ntmps12 rfl ?_;intro a I;rw [Cin.xo] at h;refine wp_seq_k fun K dx=>?_;refine a5 ?_;refine c5 (cs:=[.slice aj h_.Words.length ar,.i h_.ai,.i h_.ak,.i h_.aB,.i h_.aA,.slice aJ h_.al.length aO,.i h_.Next]) (av rfl) (eY rfl rfl (I.g rfl)) I hm rfl rfl ?_;intro a bN w U I hm;clear U;refine c5 (cs:=[.slice a8 ah.aK.length ba,.slice b0 ah.aI.length b1,.slice bP ah.Fields.length bR,.slice cA ah.Names.length cB,.slice cw ah.aH.length cx]) (av rfl) (eY rfl rfl (I.g rfl)) I hm rfl rfl ?_;intro a c2 w U I hm;clear U
 refine aN 2 [] [(2,.i at_),(3,.J bN),(4,.J c2)] I fun a I=>wpList_nil (dx _ _ ?_);refine wp_seq_k fun K bS=>?_;refine a5 ?_;refine bj 3 [0,0,1,0] [(2,.i at_),(3,.J bN),(11,.agg #[.slice aj h_.Words.length ar,.i h_.ai,.i h_.ak,.i h_.aB,.i h_.aA,.slice aJ h_.al.length aO,.i h_.Next]),(12,.agg #[.slice a8 ah.aK.length ba,.slice b0 ah.aI.length b1,.slice bP ah.Fields.length bR,.slice cA ah.Names.length cB,.slice cw ah.aH.length cx]),(13,.i at_)] [c2,0,bN,0] (aQ (bh (hm.e 1 rfl)) (aQ (bh (hm.e 0 rfl)) aS)) I fun a I=>?_;obtain ⟨cG,mB,h⟩:=Cin.aV h;have hc:=hm
 refine b4 (vs:=[.agg #[.slice aj h_.Words.length ar,.i h_.ai,.i h_.ak,.i h_.aB,.i h_.aA,.slice aJ h_.al.length aO,.i h_.Next],.agg #[.slice a8 ah.aK.length ba,.slice b0 ah.aI.length b1,.slice bP ah.Fields.length bR,.slice cA ah.Names.length cB,.slice cw ah.aH.length cx],.i at_]) (av rfl) rfl Try.call25 ⟨(I.g rfl),(I.g rfl),(I.g rfl),trivial⟩ (O4 ((hc.into 0).pick ⟨⟨0,rfl⟩,⟨1,rfl⟩,⟨2,rfl⟩,⟨3,rfl⟩,⟨4,rfl⟩,⟨5,rfl⟩,⟨6,rfl⟩,trivial⟩) mB) I rfl rfl ?_;rintro _ w ⟨fN,eP,eQ,g_,hb,dY,ej,fT,fU,kK,kP,oZ,o',o0,pa,kL,kQ,kM,kR,pi,rfl,ad⟩;refine ⟨_,rfl,?_⟩;intro a I;have U:aX [] _ w:=ad.ev;have hm:=hc.back 0 ad
 dsimp only [List.drop,List.cons_append,List.nil_append,HAppend.hAppend,Append.append,List.append] at hm;clear ad hc;clear U;refine aN 5 [] [(2,.i at_),(3,.J bN),(8,.pointer (eO cG.1 fN)),(9,.i cG.2)] I fun a I=>wpList_nil (bS _ _ ?_);refine wp_seq_k fun K cn=>?_;refine aP [] [(2,.i at_),(3,.J bN),(8,.pointer (eO cG.1 fN)),(9,.i cG.2),(18,.bool (!decide (cG.2 = 0)))] I fun a I=>?_;refine bH (I.g rfl) h (fun nY h=>?_) (fun nY h=>?_)
 · refine aP [] [(6,.slice none 0 0),(7,.i cG.2)] I fun a I=>?_;refine wp_ret ?_;obtain rfl:=Option.some.inj h;refine aW ?_;refine gM Try.results12 I rfl rfl ?_;have hm:=hm.c7 (α:=Int) 3 1;have hm:=hm.more (y:=ap.rows (ax .i64) [] []) rfl;exact ⟨none,0,[],rfl,(hm.a7 [0] rfl rfl).pick ⟨⟨0,rfl⟩,trivial⟩⟩
 refine wp_skip ?_;refine cn _ _ ?_;refine wp_seq_k fun K eR=>?_;refine kV (m:=13) 13 (aX []) (by kernel_rfl) rfl ?_;intro w U;have hm:=hm.eD U;clear U;have bM:=hm;have a1:=aX.refl [] w;refine eK [0,1,2,3,4,5,6] 7 [21,23,24,25,26] [0,0] (fr':=[(21,.slice aj h_.Words.length ar),(23,.i (Cin.ay (at_+ 3))),(24,.i at_),(25,.pointer (eO cG.1 fN)),(26,.i at_)]) (L:=[bN,0]) d_ (fun bV U=>(aQ (dZ U (bh (bM.e 1 rfl))) aS)) I rfl (by kernel_rfl) rfl (by kernel_rfl) (by kernel_rfl) a1 fun a I=>?_;obtain ⟨cI,Bp,h⟩:=Cin.aV h;simp only [Bp,ap.dA,eO] at I hm bM;refine ed 7 rfl (by kernel_rfl) (fun _=>a1) ?_;obtain ⟨tT,J4,h⟩:=Cin.aV h;have hc:=hm
 refine b4 (vs:=[.J fN,.i at_]) (av rfl) rfl Try.call27 ⟨(I.g rfl),(I.g rfl),trivial⟩ (Ul (v_:=(⟨(⟨cI.H.Words,cI.H.ai,cI.H.ak,cI.H.aB,cI.H.aA,cI.H.al,cI.H.Next⟩:Cin.bd),(⟨(⟨cI.S.K.aK,cI.S.K.aI,cI.S.K.Fields,cI.S.K.Names,cI.S.K.aH⟩:Cin.bb)⟩:Cin.cd),cI.ai,cI.ak,cI.cj⟩:Cin.bU)) ((hc.into 0).pick ⟨⟨0,rfl⟩,⟨1,rfl⟩,⟨2,rfl⟩,⟨3,rfl⟩,⟨4,rfl⟩,⟨5,rfl⟩,⟨6,rfl⟩,⟨7,rfl⟩,⟨8,rfl⟩,⟨9,rfl⟩,⟨10,rfl⟩,trivial⟩) J4) I rfl rfl ?_;rintro _ w ⟨rfl,ad⟩;refine ⟨_,rfl,?_⟩;intro a I;have U:aX [] _ w:=ad.ev;have hm:=hc.back 0 ad;dsimp only [List.drop,List.cons_append,List.nil_append,HAppend.hAppend,Append.append,List.append] at hm;clear ad hc;have a1:=jw a1 U;clear U;refine dK ?_
 refine eK [8] 1 [21,23,28] [] (fr':=[(21,.slice aj h_.Words.length ar),(23,.i (Cin.ay (at_+ 3))),(28,.i (Cin.ay (at_+tT)))]) (L:=[]) d_ (fun bV U=>aS) I rfl (by kernel_rfl) rfl (by kernel_rfl) (by kernel_rfl) a1 fun a I=>?_;obtain ⟨Er,adj,h⟩:=Cin.aV h;obtain ⟨r8,sy,aa7,agz⟩:=DP (T:=(ax .i64)) (i:=Cin.ay (at_+ 3)) (j:=Cin.ay (at_+tT)) (hm.d 11 rfl) adj;have hm:=hm.more (y:=aa (ax .i64) r8 sy Er) aa7;refine jr 9 rfl (by kernel_rfl) (av rfl) (fun bV=>agz Try.underlying22 Try.sizeOf3 rfl (I.g rfl) (.inr ⟨_,rfl,(I.g rfl)⟩) (.inr ⟨_,rfl,(I.g rfl)⟩) _) a1 I rfl rfl fun a I=>?_;refine ed 10 rfl (by kernel_rfl) (fun _=>a1) ?_;obtain ⟨tU,J5,h⟩:=Cin.aV h;have hc:=hm
 refine b4 (vs:=[.slice r8 Er.length sy]) (av rfl) rfl Try.call26 ⟨(I.g rfl),trivial⟩ (HA ((hc.into 0).pick ⟨⟨0,rfl⟩,trivial⟩) J5) I rfl rfl ?_;rintro _ w ⟨r_,sA,Tm,rfl,ad⟩;refine ⟨_,rfl,?_⟩;intro a I;have U:aX [] _ w:=ad.ev;have hm:=hc.back 0 ad;dsimp only [List.drop,List.cons_append,List.nil_append,HAppend.hAppend,Append.append,List.append] at hm;clear ad hc;have a1:=jw a1 U;clear U;refine dK ?_;refine eK [11,12] 2 [6,7] [] (fr':=[(6,.slice r_ tU.length sA),(7,.i 0)]) (L:=[]) d_ (fun bV U=>aS) I rfl (by kernel_rfl) rfl (by kernel_rfl) (by kernel_rfl) a1 fun a I=>?_;refine ih (by kernel_rfl) ?_ (fun _=>a1);clear bM a1;refine eR _ _ ?_;refine wp_ret ?_;obtain rfl:=Option.some.inj h;refine gM Try.results12 I rfl rfl ?_
 exact ⟨r_,sA,Tm,rfl,(hm.a7 [0] rfl rfl).pick ⟨⟨0,rfl⟩,trivial⟩⟩
end Go.Proofs.Ytpkhpagplommoaa
namespace Cin
def xm (F:Nat) (h_:bd) (at_:Int):Option (bd):=
 (x9 F h_.al at_).bind fun cV=>
 cond (!cV.2) ((Bu h_.al cV.1 at_).bind fun Eo=>
 some (⟨h_.Words,h_.ai,h_.ak,h_.aB,h_.aA,Eo,h_.Next⟩:bd)) (some (⟨h_.Words,h_.ai,h_.ak,h_.aB,h_.aA,h_.al,h_.Next⟩:bd))
def pq (F:Nat) (h_:bd) (s_:cd) (at_:Int) (bs:Int) (dD:Int):Option (bd):=
 (idx h_.Words (ay ((ay (at_+ 3))+bs))).bind fun S1=>
 (some (h_.Words.set (ay ((ay (at_+ 3))+bs)).toNat dD)).bind fun vQ=>
 (idx vQ at_).bind fun FL=>
 (m1 (⟨(⟨s_.K.aK,s_.K.aI,s_.K.Fields,s_.K.Names,s_.K.aH⟩:bb)⟩:cd) FL bs).bind fun oE=>
 cond (((oE && (decide (h_.ai <at_))) && (decide (0 <dD))) && (decide (dD<=h_.ai))) ((xm F (⟨vQ,h_.ai,h_.ak,h_.aB,h_.aA,h_.al,h_.Next⟩:bd) at_).bind fun pN=>
 some (⟨vQ,h_.ai,h_.ak,h_.aB,h_.aA,pN.al,h_.Next⟩:bd)) (some (⟨vQ,h_.ai,h_.ak,h_.aB,h_.aA,h_.al,h_.Next⟩:bd))
def n3 (F:Nat) (h_:bd) (ah:bb) (at_:Int) (bs:Int) (dD:Int):Option (bd × Int):=
 (m4 F (⟨h_.Words,h_.ai,h_.ak,h_.aB,h_.aA,h_.al,h_.Next⟩:bd) (⟨ah.aK,ah.aI,ah.Fields,ah.Names,ah.aH⟩:bb) at_ bs).bind fun b'=>
 cond (decide (b'.2 = 0)) ((idx h_.Words at_).bind fun Cs=>
 (b'.1).bind fun cR=>
 (m1 (⟨(⟨cR.S.K.aK,cR.S.K.aI,cR.S.K.Fields,cR.S.K.Names,cR.S.K.aH⟩:bb)⟩:cd) Cs bs).bind fun E_=>
 cond (E_ && (!decide (dD= 0))) ((s6 (⟨(⟨cR.H.Words,cR.H.ai,cR.H.ak,cR.H.aB,cR.H.aA,cR.H.al,cR.H.Next⟩:bd),(⟨(⟨cR.S.K.aK,cR.S.K.aI,cR.S.K.Fields,cR.S.K.Names,cR.S.K.aH⟩:bb)⟩:cd),cR.ai,cR.ak,cR.cj⟩:bU) dD).bind fun L9=>
 cond (!L9) (some ((⟨[],0,0,0,0,[],0⟩:bd),5)) (cond (!decide (b'.2 = 0)) (some ((⟨[],0,0,0,0,[],0⟩:bd),b'.2)) ((pr (⟨h_.Words,h_.ai,h_.ak,h_.aB,h_.aA,h_.al,h_.Next⟩:bd)).bind fun e8=>
 (pq F (⟨e8.Words,e8.ai,e8.ak,e8.aB,e8.aA,e8.al,e8.Next⟩:bd) (⟨(⟨cR.S.K.aK,cR.S.K.aI,cR.S.K.Fields,cR.S.K.Names,cR.S.K.aH⟩:bb)⟩:cd) at_ bs dD).bind fun oF=>
 some ((⟨oF.Words,e8.ai,e8.ak,e8.aB,e8.aA,oF.al,e8.Next⟩:bd),0)))) (cond (!decide (b'.2 = 0)) (some ((⟨[],0,0,0,0,[],0⟩:bd),b'.2)) ((pr (⟨h_.Words,h_.ai,h_.ak,h_.aB,h_.aA,h_.al,h_.Next⟩:bd)).bind fun e9=>
 (pq F (⟨e9.Words,e9.ai,e9.ak,e9.aB,e9.aA,e9.al,e9.Next⟩:bd) (⟨(⟨cR.S.K.aK,cR.S.K.aI,cR.S.K.Fields,cR.S.K.Names,cR.S.K.aH⟩:bb)⟩:cd) at_ bs dD).bind fun mK=>
 some ((⟨mK.Words,e9.ai,e9.ak,e9.aB,e9.aA,mK.al,e9.Next⟩:bd),0)))) (cond (!decide (b'.2 = 0)) (some ((⟨[],0,0,0,0,[],0⟩:bd),b'.2)) ((pr (⟨h_.Words,h_.ai,h_.ak,h_.aB,h_.aA,h_.al,h_.Next⟩:bd)).bind fun fa=>
 (b'.1).bind fun iC=>
 (pq F (⟨fa.Words,fa.ai,fa.ak,fa.aB,fa.aA,fa.al,fa.Next⟩:bd) (⟨(⟨iC.S.K.aK,iC.S.K.aI,iC.S.K.Fields,iC.S.K.Names,iC.S.K.aH⟩:bb)⟩:cd) at_ bs dD).bind fun jo=>
 some ((⟨jo.Words,fa.ai,fa.ak,fa.aB,fa.aA,jo.al,fa.Next⟩:bd),0)))
end Cin
namespace Go.Proofs.Ytpkhpagplommoaa
open Go Go.RowKit Gg
set_option maxHeartbeats 4000000
set_option maxRecDepth 20000
theorem Uh {W:World} {X:List Nat} {F:Nat} {h_:Cin.bd} {at_:Int} {r:Cin.bd} {ao:Nat} {aF:Option Addr} {aL:Nat} {bz:Option Addr} {bF:Nat} {hX:List Value} (hm:aD W (aT [aw.br ao 24 [.slice aF h_.Words.length aL,.i h_.ai,.i h_.ak,.i h_.aB,.i h_.aA,.slice bz h_.al.length bF,.i h_.Next],aw.row 3 1 (.slice bz h_.al.length bF) h_.al hX]) X W [aw.br ao 24 [.slice aF h_.Words.length aL,.i h_.ai,.i h_.ak,.i h_.aB,.i h_.aA,.slice bz h_.al.length bF,.i h_.Next],aw.row 3 1 (.slice bz h_.al.length bF) h_.al hX] [aa (ax .i64) aF aL h_.Words,ap.rows (ax .i64) hX h_.al]) (h:Cin.xm F h_ at_=some r) :
 Calls Try.prog 39 [.J ao,.i at_].toArray W (fun e az=>∃ cD:Option Addr,∃ cE:Nat,∃ M1:List Value,e= .returned (.tuple #[])/\aD W (aT [aw.br ao 24 [.slice aF h_.Words.length aL,.i h_.ai,.i h_.ak,.i h_.aB,.i h_.aA,.slice bz h_.al.length bF,.i h_.Next],aw.row 3 1 (.slice bz h_.al.length bF) h_.al hX]) X az [aw.br ao 24 [.slice aF h_.Words.length aL,.i h_.ai,.i h_.ak,.i h_.aB,.i h_.aA,.slice cD r.al.length cE,.i h_.Next],aw.row 3 1 (.slice cD r.al.length cE) r.al M1] [ap.rows (ax .i64) M1 r.al]):=by
 generalize bK:aT [aw.br ao 24 [.slice aF h_.Words.length aL,.i h_.ai,.i h_.ak,.i h_.aB,.i h_.aA,.slice bz h_.al.length bF,.i h_.Next],aw.row 3 1 (.slice bz h_.al.length bF) h_.al hX]=aR at hm ⊢;clear bK;refine enter Try.func39 rfl Try.ntmps39 rfl ?_;intro a I;rw [Cin.xm] at h;refine wp_seq_k fun K dx=>?_;refine a5 ?_;refine bj 5 [0,5] [(0,.J ao),(1,.i at_),(10,.slice bz h_.al.length bF),(11,.i at_)] [ao,5] (aQ (bh (hm.e 0 rfl)) aS) I fun a I=>?_;obtain ⟨cV,vF,h⟩:=Cin.aV h;have hc:=hm;have ag:=hc.freeze 1 1 rfl rfl;dsimp only [List.eraseIdx] at ag
 refine b4 (vs:=[.slice bz h_.al.length bF,.i at_]) (av rfl) rfl Try.call55 ⟨(I.g rfl),(I.g rfl),trivial⟩ (Pb ((ag.into 0).pick ⟨⟨0,rfl⟩,trivial⟩) vF) I rfl rfl ?_;rintro _ w ⟨rfl,ad⟩;refine ⟨_,rfl,?_⟩;intro a I;have U:aX [] _ w:=ad.ev;have hm:=hc.fL 0 (by exact trivial) ad;dsimp only [List.drop,List.cons_append,List.nil_append,HAppend.hAppend,Append.append,List.append] at hm;clear ad hc ag;clear U;refine aN 5 [] [(0,.J ao),(1,.i at_),(4,.i cV.1),(5,.bool cV.2)] I fun a I=>wpList_nil (dx _ _ ?_);refine aP [] [(0,.J ao),(1,.i at_),(4,.i cV.1),(16,.bool (!cV.2))] I fun a I=>?_
 refine bH (I.g rfl) h (fun qB h=>?_) (fun qB h=>?_)
 · refine a5 ?_;refine bj 7 [0,5] [(17,.J ao),(21,.slice bz h_.al.length bF),(22,.i cV.1),(23,.i at_)] [ao,5] (aQ (bh (hm.e 0 rfl)) aS) I fun a I=>?_;refine gm (cs:=[.i at_]) (av rfl) (ho (vs:=[(0,.i at_)]) Try.underlying22 Try.sizeOf3 Try.zeroValue3 rfl rfl rfl ⟨⟨(I.g rfl),rfl⟩,trivial⟩ (by kernel_rfl)) I hm rfl rfl ?_;intro a qo w U I hm;clear U;obtain ⟨Eo,ac3,h⟩:=Cin.aV h;refine b4 (vs:=[.slice bz h_.al.length bF,.i cV.1,.slice (some ⟨qo,0,none⟩) 1 1]) (av rfl) rfl Try.call56 ⟨(I.g rfl),(I.g rfl),(I.g rfl),trivial⟩ (Uw (li:=h_.al) agT 2 0 1 rfl hm rfl rfl rfl ac3) I rfl rfl ?_;rintro _ w ⟨cw,cx,alD,rfl,hm⟩;refine ⟨_,rfl,?_⟩;intro a I
   dsimp only [List.set] at hm;refine aN 2 [] [(25,.slice cw Eo.length cx),(27,.pointer (some ⟨ao,5,none⟩))] I fun a I=>?_;refine c1 (vs:=[.slice cw Eo.length cx]) 1 hm rfl (av rfl) rfl Try.sizeOf22 rfl rfl rfl rfl (I.g rfl) (I.g rfl) rfl ?_;intro w hm;simp only [List.set,lay,List.drop,List.length,List.cons_append,List.nil_append] at hm;refine wpList_nil ?_;refine uQ ?_;obtain rfl:=Option.some.inj h;refine wg Try.results39 I ?_;exact ⟨cw,cx,alD,rfl,(hm.a7 [1,2] rfl rfl).pick ⟨⟨0,rfl⟩,trivial⟩⟩
 refine wp_skip ?_;refine uQ ?_;obtain rfl:=Option.some.inj h;refine wg Try.results39 I ?_;exact ⟨bz,bF,hX,rfl,(hm.a7 [0,1] rfl rfl).pick ⟨⟨1,rfl⟩,trivial⟩⟩
theorem Hs {W:World} {X:List Nat} {F:Nat} {h_:Cin.bd} {s_:Cin.cd} {at_:Int} {bs:Int} {dD:Int} {r:Cin.bd} {ao:Nat} {aF:Option Addr} {aL:Nat} {bz:Option Addr} {bF:Nat} {hX:List Value} {jF:List Value} {cM:Option Addr} {cO:Nat} {cr:Option Addr} {cu:Nat} {cp:Option Addr} {cq:Nat} {cl:Option Addr} {cm:Nat} {cD:Option Addr} {cE:Nat} (hm:aD W (aT [aw.br ao 24 [.slice aF h_.Words.length aL,.i h_.ai,.i h_.ak,.i h_.aB,.i h_.aA,.slice bz h_.al.length bF,.i h_.Next],aw.row 3 1 (.slice aF h_.Words.length aL) h_.Words hX,aw.row 3 1 (.slice bz h_.al.length bF) h_.al jF]) X W [aw.br ao 24 [.slice aF h_.Words.length aL,.i h_.ai,.i h_.ak,.i h_.aB,.i h_.aA,.slice bz h_.al.length bF,.i h_.Next],aw.row 3 1 (.slice aF h_.Words.length aL) h_.Words hX,aw.row 3 1 (.slice bz h_.al.length bF) h_.al jF] [ap.rows (ax .i64) hX h_.Words,ap.rows (ax .i64) jF h_.al,aa Cin.bL cM cO s_.K.aK,aa (ax .i64) cr cu s_.K.aI,aa (aU Cin.bJ) cp cq s_.K.Fields,aa (aU bZ) cl cm s_.K.Names,aa (aU Cin.cz) cD cE s_.K.aH]) (h:Cin.pq F h_ s_ at_ bs dD=some r) :
 Calls Try.prog 21 [.J ao,.agg #[.slice cM s_.K.aK.length cO,.slice cr s_.K.aI.length cu,.slice cp s_.K.Fields.length cq,.slice cl s_.K.Names.length cm,.slice cD s_.K.aH.length cE],.i at_,.i bs,.i dD].toArray W (fun e az=>∃ uw:Option Addr,∃ uT:Nat,∃ M4:List Value,∃ o1:Option Addr,∃ pb:Nat,∃ M5:List Value,e= .returned (.tuple #[])/\aD W (aT [aw.br ao 24 [.slice aF h_.Words.length aL,.i h_.ai,.i h_.ak,.i h_.aB,.i h_.aA,.slice bz h_.al.length bF,.i h_.Next],aw.row 3 1 (.slice aF h_.Words.length aL) h_.Words hX,aw.row 3 1 (.slice bz h_.al.length bF) h_.al jF]) X az [aw.br ao 24 [.slice uw r.Words.length uT,.i h_.ai,.i h_.ak,.i h_.aB,.i h_.aA,.slice o1 r.al.length pb,.i h_.Next],aw.row 3 1 (.slice uw r.Words.length uT) r.Words M4,aw.row 3 1 (.slice o1 r.al.length pb) r.al M5] [ap.rows (ax .i64) M4 r.Words,ap.rows (ax .i64) M5 r.al]):=by
 generalize bK:aT [aw.br ao 24 [.slice aF h_.Words.length aL,.i h_.ai,.i h_.ak,.i h_.aB,.i h_.aA,.slice bz h_.al.length bF,.i h_.Next],aw.row 3 1 (.slice aF h_.Words.length aL) h_.Words hX,aw.row 3 1 (.slice bz h_.al.length bF) h_.al jF]=aR at hm ⊢;clear bK;refine enter Try.func21 rfl Try.ntmps21 rfl ?_;intro a I;rw [Cin.pq] at h;refine wp_seq_k fun K dx=>?_;refine a5 ?_;refine c5 (cs:=[.slice cM s_.K.aK.length cO,.slice cr s_.K.aI.length cu,.slice cp s_.K.Fields.length cq,.slice cl s_.K.Names.length cm,.slice cD s_.K.aH.length cE]) (av rfl) (eY rfl rfl (I.g rfl)) I hm rfl rfl ?_;intro a HQ w U I hm;clear U;refine wpList_nil ?_;refine dx _ _ ?_;refine wp_seq_k fun K bS=>?_
 refine a5 ?_;refine bj 9 [0,0] [(0,.J ao),(2,.i at_),(3,.i bs),(4,.i dD),(6,.J HQ),(13,.slice aF h_.Words.length aL),(17,.i (Cin.ay ((Cin.ay (at_+ 3))+bs))),(18,.i dD)] [ao,0] (aQ (bh (hm.e 1 rfl)) aS) I fun a I=>?_;obtain ⟨S1,QL,h⟩:=Cin.aV h;obtain ⟨WD,ab2,_,rfl,ZW⟩:=h' (hm.e 2 rfl) (hm.d 0 rfl) QL;refine bW (av rfl) (cv Try.underlying22 Try.sizeOf3 rfl (I.g rfl) (I.g rfl) WD ab2) I rfl rfl fun a I=>?_;obtain ⟨vQ,ada,h⟩:=Cin.aV h
 refine pP (T:=(ax .i64)) (d':=dD) (vs:=[.i dD]) (cs0:=[.i S1]) (kk:=0) 2 0 ada hm rfl rfl QL rfl ZW (av rfl) rfl Try.sizeOf3 rfl rfl rfl rfl rfl (I.g rfl) (I.g rfl) rfl ?_;intro M3 w hlen U hm;dsimp only [List.set] at hm;rw [hlen] at hm;try rw [hlen] at I;clear hlen;clear U;refine wpList_nil ?_;have I:=I.sub (l':=[(0,.J ao),(2,.i at_),(3,.i bs),(4,.i dD),(6,.J HQ)]) ⟨rfl,rfl,rfl,rfl,rfl,trivial⟩;refine bS _ _ ?_;refine wp_seq_k fun K cn=>?_;refine kV (m:=30) 30 (aX []) (by kernel_rfl) rfl ?_;intro w U;have hm:=hm.eD U;clear U;have bM:=hm;have a1:=aX.refl [] w
 refine eK [0,1,2,3,4,5,8] 7 [0,2,4,20,24,25,28] [0,0,1,0] (fr':=[(0,.J ao),(2,.i at_),(4,.i dD),(20,.agg #[.slice cM s_.K.aK.length cO,.slice cr s_.K.aI.length cu,.slice cp s_.K.Fields.length cq,.slice cl s_.K.Names.length cm,.slice cD s_.K.aH.length cE]),(24,.slice aF vQ.length aL),(25,.i at_),(28,.i bs)]) (L:=[ao,0,HQ,0]) d_ (fun bV U=>(aQ (dZ U (bh (bM.e 0 rfl))) (aQ (dZ U (bh (bM.e 1 rfl))) aS))) I rfl (by kernel_rfl) rfl (by kernel_rfl) (by kernel_rfl) a1 fun a I=>?_;obtain ⟨FL,afU,h⟩:=Cin.aV h;obtain ⟨WV,acf,_,rfl,Z_⟩:=h' (bM.e 2 rfl) (bM.d 0 rfl) afU
 refine jr 6 rfl (by kernel_rfl) (av rfl) (fun bV=>cv Try.underlying22 Try.sizeOf3 rfl (I.g rfl) (I.g rfl) WV acf) a1 I rfl rfl fun a I=>?_;refine eK [7] 1 [0,2,4,20,27,28] [0,0] (fr':=[(0,.J ao),(2,.i at_),(4,.i dD),(20,.agg #[.slice cM s_.K.aK.length cO,.slice cr s_.K.aI.length cu,.slice cp s_.K.Fields.length cq,.slice cl s_.K.Names.length cm,.slice cD s_.K.aH.length cE]),(27,.i FL),(28,.i bs)]) (L:=[ct aF,cy aF+(at_).toNat* 1]) d_ (fun bV U=>(aQ (dZ U Z_) aS)) I rfl (by kernel_rfl) rfl (by kernel_rfl) (by kernel_rfl) a1 fun a I=>?_;refine ed 9 rfl (by kernel_rfl) (fun _=>a1) ?_;obtain ⟨oE,J0,h⟩:=Cin.aV h;have hc:=hm
 refine b4 (vs:=[.agg #[.slice cM s_.K.aK.length cO,.slice cr s_.K.aI.length cu,.slice cp s_.K.Fields.length cq,.slice cl s_.K.Names.length cm,.slice cD s_.K.aH.length cE],.i FL,.i bs]) (av rfl) rfl Try.call18 ⟨(I.g rfl),(I.g rfl),(I.g rfl),trivial⟩ (Hu (s_:=(⟨(⟨s_.K.aK,s_.K.aI,s_.K.Fields,s_.K.Names,s_.K.aH⟩:Cin.bb)⟩:Cin.cd)) ((hc.into 0).pick ⟨⟨3,rfl⟩,⟨4,rfl⟩,⟨5,rfl⟩,⟨6,rfl⟩,⟨7,rfl⟩,trivial⟩) J0) I rfl rfl ?_;rintro _ w ⟨rfl,ad⟩;refine ⟨_,rfl,?_⟩;intro a I;have U:aX [] _ w:=ad.ev;have hm:=hc.back 0 ad;dsimp only [List.drop,List.cons_append,List.nil_append,HAppend.hAppend,Append.append,List.append] at hm;clear ad hc;have a1:=jw a1 U;clear U;refine dK ?_
 refine eK [10,11,12,13,14,15,16,17,18,19,20,21,22,23,24,25,26,27,28,29] 20 [0,2,49] [0,0,0,0,0,0,1,0,0,0,0,0,0,0,0,0,0,0,1,0,0] (fr':=[(0,.J ao),(2,.i at_),(49,.bool (((oE && (decide (h_.ai <at_))) && (decide (0 <dD))) && (decide (dD<=h_.ai))))]) (L:=[ao,1,ao,1]) d_ (fun bV U=>(aQ (dZ U (bh (bM.e 1 rfl))) aS)) I rfl (by kernel_rfl) rfl (by kernel_rfl) (by kernel_rfl) a1 fun a I=>?_;refine ih (by kernel_rfl) ?_ (fun _=>a1);clear bM a1;refine cn _ _ ?_;refine bH (I.g rfl) h (fun AK h=>?_) (fun AK h=>?_)
 · refine a5 ?_;refine aN 2 [] [(50,.J ao),(51,.i at_)] I fun a I=>?_;obtain ⟨pN,J1,h⟩:=Cin.aV h;have hc:=hm.a7 [1,3,0,2] rfl rfl;have ag:=hc.freeze 3 0 rfl rfl;dsimp only [List.eraseIdx] at ag;refine b4 (vs:=[.J ao,.i at_]) (av rfl) rfl Try.call39 ⟨(I.g rfl),(I.g rfl),trivial⟩ (Uh (h_:=(⟨vQ,h_.ai,h_.ak,h_.aB,h_.aA,h_.al,h_.Next⟩:Cin.bd)) ((ag.into 2).pick ⟨⟨0,rfl⟩,⟨3,rfl⟩,trivial⟩) J1) I rfl rfl ?_;rintro _ w ⟨Gy,Hg,alJ,rfl,ad⟩;refine ⟨_,rfl,?_⟩;intro a I;have hm:=hc.fL 2 (by exact ⟨lv (fun _ _ _ _ _ _ h=>h),trivial⟩) ad;dsimp only [List.drop,List.cons_append,List.nil_append,HAppend.hAppend,Append.append,List.append] at hm;clear ad hc ag;refine wpList_nil ?_
   have I:=I.sub (l':=[]) trivial;refine uQ ?_;obtain rfl:=Option.some.inj h;refine wg Try.results21 I ?_;exact ⟨aF,aL,M3,Gy,Hg,alJ,rfl,(hm.a7 [0,3,1] rfl rfl).pick ⟨⟨1,rfl⟩,⟨0,rfl⟩,trivial⟩⟩
 refine wp_skip ?_;refine uQ ?_;obtain rfl:=Option.some.inj h;refine wg Try.results21 I ?_;exact ⟨aF,aL,M3,bz,bF,jF,rfl,(hm.a7 [1,2,3] rfl rfl).pick ⟨⟨0,rfl⟩,⟨2,rfl⟩,trivial⟩⟩
theorem OY {W:World} {X:List Nat} {F:Nat} {h_:Cin.bd} {ah:Cin.bb} {at_:Int} {bs:Int} {dD:Int} {r:Cin.bd × Int} {aj:Option Addr} {ar:Nat} {aJ:Option Addr} {aO:Nat} {a8:Option Addr} {ba:Nat} {b0:Option Addr} {b1:Nat} {bP:Option Addr} {bR:Nat} {cA:Option Addr} {cB:Nat} {cw:Option Addr} {cx:Nat} (hm:aD W (aT []) X W [] [aa (ax .i64) aj ar h_.Words,aa (ax .i64) aJ aO h_.al,aa Cin.bL a8 ba ah.aK,aa (ax .i64) b0 b1 ah.aI,aa (aU Cin.bJ) bP bR ah.Fields,aa (aU bZ) cA cB ah.Names,aa (aU Cin.cz) cw cx ah.aH]) (h:Cin.n3 F h_ ah at_ bs dD=some r) :
 Calls Try.prog 8 [.agg #[.slice aj h_.Words.length ar,.i h_.ai,.i h_.ak,.i h_.aB,.i h_.aA,.slice aJ h_.al.length aO,.i h_.Next],.agg #[.slice a8 ah.aK.length ba,.slice b0 ah.aI.length b1,.slice bP ah.Fields.length bR,.slice cA ah.Names.length cB,.slice cw ah.aH.length cx],.i at_,.i bs,.i dD].toArray W (fun e az=>∃ Nd:Option Addr,∃ Ob:Nat,∃ S_:List Value,∃ Ng:Option Addr,∃ Oc:Nat,∃ Tc:List Value,e= .returned (.tuple #[.agg #[.slice Nd r.1.Words.length Ob,.i r.1.ai,.i r.1.ak,.i r.1.aB,.i r.1.aA,.slice Ng r.1.al.length Oc,.i r.1.Next],.i r.2])/\aD W (aT []) X az [aw.row 3 1 (.slice Nd r.1.Words.length Ob) r.1.Words S_,aw.row 3 1 (.slice Ng r.1.al.length Oc) r.1.al Tc] [ap.rows (ax .i64) S_ r.1.Words,ap.rows (ax .i64) Tc r.1.al]):=by
 generalize bK:aT []=aR at hm ⊢;clear bK;refine enter Try.func8 rfl Try.ntmps8 rfl ?_;intro a I;rw [Cin.n3] at h;refine wp_seq_k fun K dx=>?_;refine a5 ?_;refine c5 (cs:=[.slice aj h_.Words.length ar,.i h_.ai,.i h_.ak,.i h_.aB,.i h_.aA,.slice aJ h_.al.length aO,.i h_.Next]) (av rfl) (eY rfl rfl (I.g rfl)) I hm rfl rfl ?_;intro a bN w U I hm;clear U;refine c5 (cs:=[.slice a8 ah.aK.length ba,.slice b0 ah.aI.length b1,.slice bP ah.Fields.length bR,.slice cA ah.Names.length cB,.slice cw ah.aH.length cx]) (av rfl) (eY rfl rfl (I.g rfl)) I hm rfl rfl ?_;intro a c2 w U I hm;clear U
 refine c5 (cs:=[.slice none 0 0,.i 0,.i 0,.i 0,.i 0,.slice none 0 0,.i 0]) (av rfl) (e3 Try.zeroValue24 rfl rfl) I hm rfl rfl ?_;intro a cU w U I hm;clear U;refine aN 1 [] [(2,.i at_),(3,.i bs),(4,.i dD),(5,.J bN),(6,.J c2),(10,.J cU)] I fun a I=>wpList_nil (dx _ _ ?_);refine wp_seq_k fun K bS=>?_;refine a5 ?_
 refine bj 4 [0,0,1,0] [(2,.i at_),(3,.i bs),(4,.i dD),(5,.J bN),(10,.J cU),(15,.agg #[.slice aj h_.Words.length ar,.i h_.ai,.i h_.ak,.i h_.aB,.i h_.aA,.slice aJ h_.al.length aO,.i h_.Next]),(16,.agg #[.slice a8 ah.aK.length ba,.slice b0 ah.aI.length b1,.slice bP ah.Fields.length bR,.slice cA ah.Names.length cB,.slice cw ah.aH.length cx]),(17,.i at_),(18,.i bs)] [c2,0,bN,0] (aQ (bh (hm.e 2 rfl)) (aQ (bh (hm.e 1 rfl)) aS)) I fun a I=>?_;obtain ⟨b',vD,h⟩:=Cin.aV h;have hc:=hm
 refine b4 (vs:=[.agg #[.slice aj h_.Words.length ar,.i h_.ai,.i h_.ak,.i h_.aB,.i h_.aA,.slice aJ h_.al.length aO,.i h_.Next],.agg #[.slice a8 ah.aK.length ba,.slice b0 ah.aI.length b1,.slice bP ah.Fields.length bR,.slice cA ah.Names.length cB,.slice cw ah.aH.length cx],.i at_,.i bs]) (av rfl) rfl Try.call17 ⟨(I.g rfl),(I.g rfl),(I.g rfl),(I.g rfl),trivial⟩ (O5 ((hc.into 0).pick ⟨⟨0,rfl⟩,⟨1,rfl⟩,⟨2,rfl⟩,⟨3,rfl⟩,⟨4,rfl⟩,⟨5,rfl⟩,⟨6,rfl⟩,trivial⟩) vD) I rfl rfl ?_;rintro _ w ⟨ch,Gs,G',fY,gv,l8,mm,j8,kb,iF,iK,l9,mn,l_,mo,Gw,Hd,Gx,Hf,V1,rfl,ad⟩;refine ⟨_,rfl,?_⟩;intro a I;have U:aX [] _ w:=ad.ev;have hm:=hc.back 0 ad
 dsimp only [List.drop,List.cons_append,List.nil_append,HAppend.hAppend,Append.append,List.append] at hm;clear ad hc;clear U;refine aN 5 [] [(2,.i at_),(3,.i bs),(4,.i dD),(5,.J bN),(10,.J cU),(12,.pointer (eO b'.1 ch)),(13,.i b'.2)] I fun a I=>wpList_nil (bS _ _ ?_);refine wp_seq_k fun K cn=>?_;refine wp_seq_k fun K dc=>?_;refine kV (m:=25) 25 (aX []) (by kernel_rfl) rfl ?_;intro w U;have hm:=hm.eD U;clear U;have bM:=hm;have a1:=aX.refl [] w
 refine eK [0,1,2] 3 [2,3,4,5,10,12,13,24] [] (fr':=[(2,.i at_),(3,.i bs),(4,.i dD),(5,.J bN),(10,.J cU),(12,.pointer (eO b'.1 ch)),(13,.i b'.2),(24,.bool (decide (b'.2 = 0)))]) (L:=[]) d_ (fun bV U=>aS) I rfl (by kernel_rfl) rfl (by kernel_rfl) (by kernel_rfl) a1 fun a I=>?_;rcases Bool.eq_false_or_eq_true (decide (b'.2 = 0)) with AL | AL
 · have h:=Cin.ew AL h;have I:=I.cS 24 rfl AL;refine eK [3,7,8,9,12] 5 [2,3,4,5,10,12,13,24,25,30,31,34] [1,1,1,0,0,1,1] (fr':=[(2,.i at_),(3,.i bs),(4,.i dD),(5,.J bN),(10,.J cU),(12,.pointer (eO b'.1 ch)),(13,.i b'.2),(24,.bool true),(25,.pointer (eO b'.1 ch)),(30,.slice aj h_.Words.length ar),(31,.i at_),(34,.i bs)]) (L:=[bN,0]) d_ (fun bV U=>(aQ (dZ U (bh (bM.e 2 rfl))) aS)) I rfl (by kernel_rfl) rfl (by kernel_rfl) (by kernel_rfl) a1 fun a I=>?_;obtain ⟨Cs,afZ,h⟩:=Cin.aV h;obtain ⟨W1,acm,_,rfl,aae⟩:=da _ (bM.d 11 rfl) afZ
   refine jr 10 rfl (by kernel_rfl) (ep I rfl rfl rfl rfl) (fun bV=>cv Try.underlying22 Try.sizeOf3 rfl (I.g rfl) (I.g rfl) W1 acm) a1 I rfl rfl fun a I=>?_;refine eK [11] 1 [2,3,4,5,10,12,13,24,25,33,34] [1,0,0] (fr':=[(2,.i at_),(3,.i bs),(4,.i dD),(5,.J bN),(10,.J cU),(12,.pointer (eO b'.1 ch)),(13,.i b'.2),(24,.bool true),(25,.pointer (eO b'.1 ch)),(33,.i Cs),(34,.i bs)]) (L:=[ct aj,cy aj+(at_).toNat* 1]) d_ (fun bV U=>(aQ (dZ U aae) aS)) I rfl (by kernel_rfl) rfl (by kernel_rfl) (by kernel_rfl) a1 fun a I=>?_;obtain ⟨cR,af1,h⟩:=Cin.aV h;simp only [af1,ap.dA,eO] at I hm bM
   refine eK [4,5,6] 3 [2,3,4,5,10,12,13,24,28,33,34] [1,1,1,0,7] (fr':=[(2,.i at_),(3,.i bs),(4,.i dD),(5,.J bN),(10,.J cU),(12,.J ch),(13,.i b'.2),(24,.bool true),(28,.agg #[.slice l8 cR.S.K.aK.length mm,.slice j8 cR.S.K.aI.length kb,.slice iF cR.S.K.Fields.length iK,.slice l9 cR.S.K.Names.length mn,.slice l_ cR.S.K.aH.length mo]),(33,.i Cs),(34,.i bs)]) (L:=[ch,7]) d_ (fun bV U=>(aQ (dZ U (bM.d 0 rfl).2.2) aS)) I rfl (by kernel_rfl) rfl (by kernel_rfl) (by kernel_rfl) a1 fun a I=>?_;refine ed 13 rfl (by kernel_rfl) (fun _=>a1) ?_;obtain ⟨E_,aeA,h⟩:=Cin.aV h;have hc:=hm
   refine b4 (vs:=[.agg #[.slice l8 cR.S.K.aK.length mm,.slice j8 cR.S.K.aI.length kb,.slice iF cR.S.K.Fields.length iK,.slice l9 cR.S.K.Names.length mn,.slice l_ cR.S.K.aH.length mo],.i Cs,.i bs]) (ep I rfl rfl rfl rfl) rfl Try.call18 ⟨(I.g rfl),(I.g rfl),(I.g rfl),trivial⟩ (Hu (s_:=(⟨(⟨cR.S.K.aK,cR.S.K.aI,cR.S.K.Fields,cR.S.K.Names,cR.S.K.aH⟩:Cin.bb)⟩:Cin.cd)) ((hc.into 0).pick ⟨⟨3,rfl⟩,⟨4,rfl⟩,⟨5,rfl⟩,⟨6,rfl⟩,⟨7,rfl⟩,trivial⟩) aeA) I rfl rfl ?_;rintro _ w ⟨rfl,ad⟩;refine ⟨_,rfl,?_⟩;intro a I;have U:aX [] _ w:=ad.ev;have hm:=hc.back 0 ad;dsimp only [List.drop,List.cons_append,List.nil_append,HAppend.hAppend,Append.append,List.append] at hm;clear ad hc;have a1:=jw a1 U;clear U;refine dK ?_
   refine eK [14,15,16,17,18,19] 6 [2,3,4,5,10,12,13,41] [1,0,0,0] (fr':=[(2,.i at_),(3,.i bs),(4,.i dD),(5,.J bN),(10,.J cU),(12,.J ch),(13,.i b'.2),(41,.bool (E_ && (!decide (dD= 0))))]) (L:=[]) d_ (fun bV U=>aS) I rfl (by kernel_rfl) rfl (by kernel_rfl) (by kernel_rfl) a1 fun a I=>?_;rcases Bool.eq_false_or_eq_true (E_ && (!decide (dD= 0))) with nZ | nZ
   · have h:=Cin.ew nZ h;have I:=I.cS 41 rfl nZ;refine eK [20,21] 2 [2,3,4,5,10,12,13,41,42,43] [1,1] (fr':=[(2,.i at_),(3,.i bs),(4,.i dD),(5,.J bN),(10,.J cU),(12,.J ch),(13,.i b'.2),(41,.bool true),(42,.J ch),(43,.i dD)]) (L:=[]) d_ (fun bV U=>aS) I rfl (by kernel_rfl) rfl (by kernel_rfl) (by kernel_rfl) a1 fun a I=>?_;refine ed 22 rfl (by kernel_rfl) (fun _=>a1) ?_;obtain ⟨L9,aeD,h⟩:=Cin.aV h;have hc:=hm
     refine b4 (vs:=[.J ch,.i dD]) (ep I rfl rfl rfl rfl) rfl Try.call19 ⟨(I.g rfl),(I.g rfl),trivial⟩ (O2 (v_:=(⟨(⟨cR.H.Words,cR.H.ai,cR.H.ak,cR.H.aB,cR.H.aA,cR.H.al,cR.H.Next⟩:Cin.bd),(⟨(⟨cR.S.K.aK,cR.S.K.aI,cR.S.K.Fields,cR.S.K.Names,cR.S.K.aH⟩:Cin.bb)⟩:Cin.cd),cR.ai,cR.ak,cR.cj⟩:Cin.bU)) ((hc.into 0).pick ⟨⟨0,rfl⟩,⟨1,rfl⟩,⟨2,rfl⟩,⟨3,rfl⟩,⟨4,rfl⟩,⟨5,rfl⟩,⟨6,rfl⟩,⟨7,rfl⟩,⟨8,rfl⟩,⟨9,rfl⟩,⟨10,rfl⟩,trivial⟩) aeD) I rfl rfl ?_;rintro _ w ⟨rfl,ad⟩;refine ⟨_,rfl,?_⟩;intro a I;have U:aX [] _ w:=ad.ev;have hm:=hc.back 0 ad;dsimp only [List.drop,List.cons_append,List.nil_append,HAppend.hAppend,Append.append,List.append] at hm;clear ad hc;have a1:=jw a1 U;clear U
     refine dK ?_;refine eK [23,24] 2 [2,3,4,5,10,12,13,46] [1,1] (fr':=[(2,.i at_),(3,.i bs),(4,.i dD),(5,.J bN),(10,.J cU),(12,.J ch),(13,.i b'.2),(46,.bool (!L9))]) (L:=[]) d_ (fun bV U=>aS) I rfl (by kernel_rfl) rfl (by kernel_rfl) (by kernel_rfl) a1 fun a I=>?_;refine ih (by kernel_rfl) ?_ (fun _=>a1);clear bM a1;refine dc _ _ ?_;refine bH (I.g rfl) h (fun Y6 h=>?_) (fun Y6 h=>?_)
     · refine c6 [] [(2,.i at_),(3,.i bs),(4,.i dD),(5,.J bN),(10,.J cU),(12,.J ch),(13,.i 5)] I fun a I=>cn _ _ ?_;refine wp_seq_k fun K c3=>?_;refine aP [] [(2,.i at_),(3,.i bs),(4,.i dD),(5,.J bN),(10,.J cU),(12,.J ch),(13,.i 5),(48,.bool true)] I fun a I=>?_;refine ft (I.g rfl) rfl ?_;refine wp_seq_k fun K dN=>?_;refine a5 ?_
       refine bW (av rfl) (gP (vs:=[]) (cs:=[.slice none 0 0,.i 0,.i 0,.i 0,.i 0,.slice none 0 0,.i 0]) Try.zeroValue24 Try.underlying24 rE rfl trivial (by kernel_rfl)) I rfl rfl fun a I=>?_;refine aN 1 [] [(10,.J cU),(49,.agg #[.slice none 0 0,.i 0,.i 0,.i 0,.i 0,.slice none 0 0,.i 0]),(50,.i 5)] I fun a I=>?_;refine c1 (vs:=[.slice none 0 0,.i 0,.i 0,.i 0,.i 0,.slice none 0 0,.i 0]) 0 hm rfl (av rfl) rfl Try.sizeOf24 rfl rfl rfl rfl (I.g rfl) (I.g rfl) rfl ?_;intro w hm;simp only [List.set,lay,List.drop,List.length,List.cons_append,List.nil_append] at hm
       refine aN 1 [] [(10,.J cU),(11,.i 5)] I fun a I=>wpList_nil (dN _ _ ?_);refine wp_ret ?_;obtain rfl:=Option.some.inj h;refine aW ?_;refine hU (vs:=[.agg #[.slice none 0 0,.i 0,.i 0,.i 0,.i 0,.slice none 0 0,.i 0],.i 5]) Try.results8 I ⟨⟨_,_,I.g rfl,.inl ⟨[.slice none 0 0,.i 0,.i 0,.i 0,.i 0,.slice none 0 0,.i 0],Try.isAgg24,Try.sizeOf24,hH (hm.e 0 rfl) 0 ⟨rfl,rfl,rfl,rfl,rfl,rfl,rfl,trivial⟩,rfl⟩⟩,I.g rfl,trivial⟩ ?_;have hm:=hm.c7 (α:=Int) 3 1;have hm:=hm.more (y:=ap.rows (ax .i64) [] []) rfl;have hm:=hm.c7 (α:=Int) 3 1;have hm:=hm.more (y:=ap.rows (ax .i64) [] []) rfl
       exact ⟨none,0,[],none,0,[],rfl,(hm.a7 [1,0] rfl rfl).pick ⟨⟨0,rfl⟩,⟨0,rfl⟩,trivial⟩⟩
     refine wp_skip ?_;refine cn _ _ ?_;refine wp_seq_k fun K dq=>?_;refine aP [] [(2,.i at_),(3,.i bs),(4,.i dD),(5,.J bN),(10,.J cU),(12,.J ch),(13,.i b'.2),(48,.bool (!decide (b'.2 = 0)))] I fun a I=>?_;refine bH (I.g rfl) h (fun Ic h=>?_) (fun Ic h=>?_)
     · refine wp_seq_k fun K dk=>?_;refine a5 ?_;refine bW (av rfl) (gP (vs:=[]) (cs:=[.slice none 0 0,.i 0,.i 0,.i 0,.i 0,.slice none 0 0,.i 0]) Try.zeroValue24 Try.underlying24 rE rfl trivial (by kernel_rfl)) I rfl rfl fun a I=>?_;refine aN 1 [] [(10,.J cU),(49,.agg #[.slice none 0 0,.i 0,.i 0,.i 0,.i 0,.slice none 0 0,.i 0]),(50,.i b'.2)] I fun a I=>?_;refine c1 (vs:=[.slice none 0 0,.i 0,.i 0,.i 0,.i 0,.slice none 0 0,.i 0]) 0 hm rfl (av rfl) rfl Try.sizeOf24 rfl rfl rfl rfl (I.g rfl) (I.g rfl) rfl ?_;intro w hm;simp only [List.set,lay,List.drop,List.length,List.cons_append,List.nil_append] at hm
       refine aN 1 [] [(10,.J cU),(11,.i b'.2)] I fun a I=>wpList_nil (dk _ _ ?_);refine wp_ret ?_;obtain rfl:=Option.some.inj h;refine aW ?_;refine hU (vs:=[.agg #[.slice none 0 0,.i 0,.i 0,.i 0,.i 0,.slice none 0 0,.i 0],.i b'.2]) Try.results8 I ⟨⟨_,_,I.g rfl,.inl ⟨[.slice none 0 0,.i 0,.i 0,.i 0,.i 0,.slice none 0 0,.i 0],Try.isAgg24,Try.sizeOf24,hH (hm.e 0 rfl) 0 ⟨rfl,rfl,rfl,rfl,rfl,rfl,rfl,trivial⟩,rfl⟩⟩,I.g rfl,trivial⟩ ?_;have hm:=hm.c7 (α:=Int) 3 1;have hm:=hm.more (y:=ap.rows (ax .i64) [] []) rfl;have hm:=hm.c7 (α:=Int) 3 1;have hm:=hm.more (y:=ap.rows (ax .i64) [] []) rfl
       exact ⟨none,0,[],none,0,[],rfl,(hm.a7 [1,0] rfl rfl).pick ⟨⟨0,rfl⟩,⟨0,rfl⟩,trivial⟩⟩
     refine wp_skip ?_;refine dq _ _ ?_;refine wp_seq_k fun K dR=>?_;refine a5 ?_;refine bj 1 [0,0] [(2,.i at_),(3,.i bs),(4,.i dD),(5,.J bN),(10,.J cU),(12,.J ch),(51,.agg #[.slice aj h_.Words.length ar,.i h_.ai,.i h_.ak,.i h_.aB,.i h_.aA,.slice aJ h_.al.length aO,.i h_.Next])] [bN,0] (aQ (bh (hm.e 2 rfl)) aS) I fun a I=>?_;obtain ⟨e8,aeF,h⟩:=Cin.aV h;have hc:=hm
     refine b4 (vs:=[.agg #[.slice aj h_.Words.length ar,.i h_.ai,.i h_.ak,.i h_.aB,.i h_.aA,.slice aJ h_.al.length aO,.i h_.Next]]) (av rfl) rfl Try.call20 ⟨(I.g rfl),trivial⟩ (DJ ((hc.into 0).pick ⟨⟨11,rfl⟩,⟨12,rfl⟩,trivial⟩) aeF) I rfl rfl ?_;rintro _ w ⟨uB,uY,an8,uC,uZ,Tn,rfl,ad⟩;refine ⟨_,rfl,?_⟩;intro a I;have U:aX [] _ w:=ad.ev;have hm:=hc.back 0 ad;dsimp only [List.drop,List.cons_append,List.nil_append,HAppend.hAppend,Append.append,List.append] at hm;clear ad hc;clear U;refine c1 (vs:=[.slice uB e8.Words.length uY,.i e8.ai,.i e8.ak,.i e8.aB,.i e8.aA,.slice uC e8.al.length uZ,.i e8.Next]) 4 hm rfl (av rfl) rfl Try.sizeOf24 rfl rfl rfl rfl (I.g rfl) (I.g rfl) rfl ?_
     intro w hm;simp only [List.set,lay,List.drop,List.length,List.cons_append,List.nil_append] at hm;refine wpList_nil ?_;refine dR _ _ ?_;refine wp_seq_k fun K ey=>?_;refine a5 ?_;refine bj 7 [0,7] [(5,.J bN),(10,.J cU),(56,.agg #[.slice l8 cR.S.K.aK.length mm,.slice j8 cR.S.K.aI.length kb,.slice iF cR.S.K.Fields.length iK,.slice l9 cR.S.K.Names.length mn,.slice l_ cR.S.K.aH.length mo]),(57,.i at_),(58,.i bs),(59,.i dD)] [ch,7] (aQ (hm.d 2 rfl).2.2 aS) I fun a I=>?_;obtain ⟨oF,aeL,h⟩:=Cin.aV h;have hc:=hm.a7 [4,0,1,2,3] rfl rfl
     refine b4 (vs:=[.J bN,.agg #[.slice l8 cR.S.K.aK.length mm,.slice j8 cR.S.K.aI.length kb,.slice iF cR.S.K.Fields.length iK,.slice l9 cR.S.K.Names.length mn,.slice l_ cR.S.K.aH.length mo],.i at_,.i bs,.i dD]) (av rfl) rfl Try.call21 ⟨(I.g rfl),(I.g rfl),(I.g rfl),(I.g rfl),(I.g rfl),trivial⟩ (Hs (s_:=(⟨(⟨cR.S.K.aK,cR.S.K.aI,cR.S.K.Fields,cR.S.K.Names,cR.S.K.aH⟩:Cin.bb)⟩:Cin.cd)) ((hc.into 3).pick ⟨⟨0,rfl⟩,⟨1,rfl⟩,⟨5,rfl⟩,⟨6,rfl⟩,⟨7,rfl⟩,⟨8,rfl⟩,⟨9,rfl⟩,trivial⟩) aeL) I rfl rfl ?_;rintro _ w ⟨r',sB,alU,sa,sC,F8,rfl,ad⟩;refine ⟨_,rfl,?_⟩;intro a I;have hm:=hc.back 3 ad
     dsimp only [List.drop,List.cons_append,List.nil_append,HAppend.hAppend,Append.append,List.append] at hm;clear ad hc;refine wpList_nil ?_;have I:=I.sub (l':=[(5,.J bN),(10,.J cU)]) ⟨rfl,rfl,trivial⟩;refine ey _ _ ?_;refine wp_seq_k fun K eg=>?_;refine a5 ?_;refine bj 1 [0,0] [(10,.J cU),(61,.agg #[.slice r' oF.Words.length sB,.i e8.ai,.i e8.ak,.i e8.aB,.i e8.aA,.slice sa oF.al.length sC,.i e8.Next])] [bN,0] (aQ (bh (hm.e 0 rfl)) aS) I fun a I=>?_
     refine c1 (vs:=[.slice r' oF.Words.length sB,.i e8.ai,.i e8.ak,.i e8.aB,.i e8.aA,.slice sa oF.al.length sC,.i e8.Next]) 3 hm rfl (av rfl) rfl Try.sizeOf24 rfl rfl rfl rfl (I.g rfl) (I.g rfl) rfl ?_;intro w hm;simp only [List.set,lay,List.drop,List.length,List.cons_append,List.nil_append] at hm;refine aN 1 [] [(10,.J cU),(11,.i 0)] I fun a I=>wpList_nil (eg _ _ ?_);refine wp_ret ?_;obtain rfl:=Option.some.inj h
     refine hU (vs:=[.agg #[.slice r' oF.Words.length sB,.i e8.ai,.i e8.ak,.i e8.aB,.i e8.aA,.slice sa oF.al.length sC,.i e8.Next],.i 0]) Try.results8 I ⟨⟨_,_,I.g rfl,.inl ⟨[.slice r' oF.Words.length sB,.i e8.ai,.i e8.ak,.i e8.aB,.i e8.aA,.slice sa oF.al.length sC,.i e8.Next],Try.isAgg24,Try.sizeOf24,hH (hm.e 3 rfl) 0 ⟨rfl,rfl,rfl,rfl,rfl,rfl,rfl,trivial⟩,rfl⟩⟩,I.g rfl,trivial⟩ ?_;exact ⟨r',sB,alU,sa,sC,F8,rfl,(hm.a7 [1,2] rfl rfl).pick ⟨⟨0,rfl⟩,⟨1,rfl⟩,trivial⟩⟩
   have h:=Cin.eu nZ h;have I:=I.cS 41 rfl nZ;refine eK [20,21] 2 [2,3,4,5,10,12,13,41,42,43] [1,1] (fr':=[(2,.i at_),(3,.i bs),(4,.i dD),(5,.J bN),(10,.J cU),(12,.J ch),(13,.i b'.2),(41,.bool false),(42,undef),(43,undef)]) (L:=[]) d_ (fun bV U=>aS) I rfl (by kernel_rfl) rfl (by kernel_rfl) (by kernel_rfl) a1 fun a I=>?_;refine ed 22 rfl (by kernel_rfl) (fun _=>a1) ?_;refine aN 1 [1] [(2,.i at_),(3,.i bs),(4,.i dD),(5,.J bN),(10,.J cU),(12,.J ch),(13,.i b'.2),(41,.bool false),(44,undef)] I fun a I=>?_;refine dK ?_
   refine eK [23,24] 2 [2,3,4,5,10,12,13,46] [1,1] (fr':=[(2,.i at_),(3,.i bs),(4,.i dD),(5,.J bN),(10,.J cU),(12,.J ch),(13,.i b'.2),(46,.bool false)]) (L:=[]) d_ (fun bV U=>aS) I rfl (by kernel_rfl) rfl (by kernel_rfl) (by kernel_rfl) a1 fun a I=>?_;refine ih (by kernel_rfl) ?_ (fun _=>a1);clear bM a1;refine dc _ _ ?_;refine jK (I.g rfl) rfl ?_;refine wp_skip ?_;refine cn _ _ ?_;refine wp_seq_k fun K fZ=>?_;refine wp_seq_k fun K gw=>?_
   refine c6 [] [(2,.i at_),(3,.i bs),(4,.i dD),(5,.J bN),(10,.J cU),(12,.J ch),(13,.i b'.2),(48,.bool (!decide (b'.2 = 0)))] I fun a I=>gw _ _ ?_;refine bH (I.g rfl) h (fun Zn h=>?_) (fun Zn h=>?_)
   · refine wp_seq_k fun K hz=>?_;refine a5 ?_;refine bW (av rfl) (gP (vs:=[]) (cs:=[.slice none 0 0,.i 0,.i 0,.i 0,.i 0,.slice none 0 0,.i 0]) Try.zeroValue24 Try.underlying24 rE rfl trivial (by kernel_rfl)) I rfl rfl fun a I=>?_;refine aN 1 [] [(10,.J cU),(49,.agg #[.slice none 0 0,.i 0,.i 0,.i 0,.i 0,.slice none 0 0,.i 0]),(50,.i b'.2)] I fun a I=>?_;refine c1 (vs:=[.slice none 0 0,.i 0,.i 0,.i 0,.i 0,.slice none 0 0,.i 0]) 0 hm rfl (av rfl) rfl Try.sizeOf24 rfl rfl rfl rfl (I.g rfl) (I.g rfl) rfl ?_;intro w hm;simp only [List.set,lay,List.drop,List.length,List.cons_append,List.nil_append] at hm
     refine aN 1 [] [(10,.J cU),(11,.i b'.2)] I fun a I=>wpList_nil (hz _ _ ?_);refine wp_ret ?_;obtain rfl:=Option.some.inj h;refine aW ?_;refine hU (vs:=[.agg #[.slice none 0 0,.i 0,.i 0,.i 0,.i 0,.slice none 0 0,.i 0],.i b'.2]) Try.results8 I ⟨⟨_,_,I.g rfl,.inl ⟨[.slice none 0 0,.i 0,.i 0,.i 0,.i 0,.slice none 0 0,.i 0],Try.isAgg24,Try.sizeOf24,hH (hm.e 0 rfl) 0 ⟨rfl,rfl,rfl,rfl,rfl,rfl,rfl,trivial⟩,rfl⟩⟩,I.g rfl,trivial⟩ ?_;have hm:=hm.c7 (α:=Int) 3 1;have hm:=hm.more (y:=ap.rows (ax .i64) [] []) rfl;have hm:=hm.c7 (α:=Int) 3 1;have hm:=hm.more (y:=ap.rows (ax .i64) [] []) rfl
     exact ⟨none,0,[],none,0,[],rfl,(hm.a7 [1,0] rfl rfl).pick ⟨⟨0,rfl⟩,⟨0,rfl⟩,trivial⟩⟩
   refine wp_skip ?_;refine fZ _ _ ?_;refine wp_seq_k fun K ij=>?_;refine a5 ?_;refine bj 1 [0,0] [(2,.i at_),(3,.i bs),(4,.i dD),(5,.J bN),(10,.J cU),(12,.J ch),(51,.agg #[.slice aj h_.Words.length ar,.i h_.ai,.i h_.ak,.i h_.aB,.i h_.aA,.slice aJ h_.al.length aO,.i h_.Next])] [bN,0] (aQ (bh (hm.e 2 rfl)) aS) I fun a I=>?_;obtain ⟨e9,aeN,h⟩:=Cin.aV h;have hc:=hm
   refine b4 (vs:=[.agg #[.slice aj h_.Words.length ar,.i h_.ai,.i h_.ak,.i h_.aB,.i h_.aA,.slice aJ h_.al.length aO,.i h_.Next]]) (av rfl) rfl Try.call20 ⟨(I.g rfl),trivial⟩ (DJ ((hc.into 0).pick ⟨⟨11,rfl⟩,⟨12,rfl⟩,trivial⟩) aeN) I rfl rfl ?_;rintro _ w ⟨TF,T_,an9,TG,T',aob,rfl,ad⟩;refine ⟨_,rfl,?_⟩;intro a I;have U:aX [] _ w:=ad.ev;have hm:=hc.back 0 ad;dsimp only [List.drop,List.cons_append,List.nil_append,HAppend.hAppend,Append.append,List.append] at hm;clear ad hc;clear U;refine c1 (vs:=[.slice TF e9.Words.length T_,.i e9.ai,.i e9.ak,.i e9.aB,.i e9.aA,.slice TG e9.al.length T',.i e9.Next]) 4 hm rfl (av rfl) rfl Try.sizeOf24 rfl rfl rfl rfl (I.g rfl) (I.g rfl) rfl ?_
   intro w hm;simp only [List.set,lay,List.drop,List.length,List.cons_append,List.nil_append] at hm;refine wpList_nil ?_;refine ij _ _ ?_;refine wp_seq_k fun K f_=>?_;refine a5 ?_;refine bj 7 [0,7] [(5,.J bN),(10,.J cU),(56,.agg #[.slice l8 cR.S.K.aK.length mm,.slice j8 cR.S.K.aI.length kb,.slice iF cR.S.K.Fields.length iK,.slice l9 cR.S.K.Names.length mn,.slice l_ cR.S.K.aH.length mo]),(57,.i at_),(58,.i bs),(59,.i dD)] [ch,7] (aQ (hm.d 2 rfl).2.2 aS) I fun a I=>?_;obtain ⟨mK,aeS,h⟩:=Cin.aV h;have hc:=hm.a7 [4,0,1,2,3] rfl rfl
   refine b4 (vs:=[.J bN,.agg #[.slice l8 cR.S.K.aK.length mm,.slice j8 cR.S.K.aI.length kb,.slice iF cR.S.K.Fields.length iK,.slice l9 cR.S.K.Names.length mn,.slice l_ cR.S.K.aH.length mo],.i at_,.i bs,.i dD]) (av rfl) rfl Try.call21 ⟨(I.g rfl),(I.g rfl),(I.g rfl),(I.g rfl),(I.g rfl),trivial⟩ (Hs (s_:=(⟨(⟨cR.S.K.aK,cR.S.K.aI,cR.S.K.Fields,cR.S.K.Names,cR.S.K.aH⟩:Cin.bb)⟩:Cin.cd)) ((hc.into 3).pick ⟨⟨0,rfl⟩,⟨1,rfl⟩,⟨5,rfl⟩,⟨6,rfl⟩,⟨7,rfl⟩,⟨8,rfl⟩,⟨9,rfl⟩,trivial⟩) aeS) I rfl rfl ?_;rintro _ w ⟨yN,zV,alY,p5,qh,al1,rfl,ad⟩;refine ⟨_,rfl,?_⟩;intro a I;have hm:=hc.back 3 ad
   dsimp only [List.drop,List.cons_append,List.nil_append,HAppend.hAppend,Append.append,List.append] at hm;clear ad hc;refine wpList_nil ?_;have I:=I.sub (l':=[(5,.J bN),(10,.J cU)]) ⟨rfl,rfl,trivial⟩;refine f_ _ _ ?_;refine wp_seq_k fun K gT=>?_;refine a5 ?_;refine bj 1 [0,0] [(10,.J cU),(61,.agg #[.slice yN mK.Words.length zV,.i e9.ai,.i e9.ak,.i e9.aB,.i e9.aA,.slice p5 mK.al.length qh,.i e9.Next])] [bN,0] (aQ (bh (hm.e 0 rfl)) aS) I fun a I=>?_
   refine c1 (vs:=[.slice yN mK.Words.length zV,.i e9.ai,.i e9.ak,.i e9.aB,.i e9.aA,.slice p5 mK.al.length qh,.i e9.Next]) 3 hm rfl (av rfl) rfl Try.sizeOf24 rfl rfl rfl rfl (I.g rfl) (I.g rfl) rfl ?_;intro w hm;simp only [List.set,lay,List.drop,List.length,List.cons_append,List.nil_append] at hm;refine aN 1 [] [(10,.J cU),(11,.i 0)] I fun a I=>wpList_nil (gT _ _ ?_);refine wp_ret ?_;obtain rfl:=Option.some.inj h
   refine hU (vs:=[.agg #[.slice yN mK.Words.length zV,.i e9.ai,.i e9.ak,.i e9.aB,.i e9.aA,.slice p5 mK.al.length qh,.i e9.Next],.i 0]) Try.results8 I ⟨⟨_,_,I.g rfl,.inl ⟨[.slice yN mK.Words.length zV,.i e9.ai,.i e9.ak,.i e9.aB,.i e9.aA,.slice p5 mK.al.length qh,.i e9.Next],Try.isAgg24,Try.sizeOf24,hH (hm.e 3 rfl) 0 ⟨rfl,rfl,rfl,rfl,rfl,rfl,rfl,trivial⟩,rfl⟩⟩,I.g rfl,trivial⟩ ?_;exact ⟨yN,zV,alY,p5,qh,al1,rfl,(hm.a7 [1,2] rfl rfl).pick ⟨⟨0,rfl⟩,⟨1,rfl⟩,trivial⟩⟩
 have h:=Cin.eu AL h;have I:=I.cS 24 rfl AL;refine eK [3,4,5,6,7,8,9,10,11,12] 10 [2,3,4,5,10,12,13,24,28,33,34] [1,1,1,1,1,1,1,1,1,1] (fr':=[(2,.i at_),(3,.i bs),(4,.i dD),(5,.J bN),(10,.J cU),(12,.pointer (eO b'.1 ch)),(13,.i b'.2),(24,.bool false),(28,undef),(33,undef),(34,undef)]) (L:=[]) d_ (fun bV U=>aS) I rfl (by kernel_rfl) rfl (by kernel_rfl) (by kernel_rfl) a1 fun a I=>?_;refine ed 13 rfl (by kernel_rfl) (fun _=>a1) ?_
 refine aN 1 [1] [(2,.i at_),(3,.i bs),(4,.i dD),(5,.J bN),(10,.J cU),(12,.pointer (eO b'.1 ch)),(13,.i b'.2),(24,.bool false),(35,undef)] I fun a I=>?_;refine dK ?_;refine eK [14,15,16,17,18,19,20,21] 8 [2,3,4,5,10,12,13,41,42,43] [1,1,1,1,1,1] (fr':=[(2,.i at_),(3,.i bs),(4,.i dD),(5,.J bN),(10,.J cU),(12,.pointer (eO b'.1 ch)),(13,.i b'.2),(41,.bool false),(42,undef),(43,undef)]) (L:=[]) d_ (fun bV U=>aS) I rfl (by kernel_rfl) rfl (by kernel_rfl) (by kernel_rfl) a1 fun a I=>?_;refine ed 22 rfl (by kernel_rfl) (fun _=>a1) ?_
 refine aN 1 [1] [(2,.i at_),(3,.i bs),(4,.i dD),(5,.J bN),(10,.J cU),(12,.pointer (eO b'.1 ch)),(13,.i b'.2),(41,.bool false),(44,undef)] I fun a I=>?_;refine dK ?_;refine eK [23,24] 2 [2,3,4,5,10,12,13,46] [1,1] (fr':=[(2,.i at_),(3,.i bs),(4,.i dD),(5,.J bN),(10,.J cU),(12,.pointer (eO b'.1 ch)),(13,.i b'.2),(46,.bool false)]) (L:=[]) d_ (fun bV U=>aS) I rfl (by kernel_rfl) rfl (by kernel_rfl) (by kernel_rfl) a1 fun a I=>?_;refine ih (by kernel_rfl) ?_ (fun _=>a1);clear bM a1;refine dc _ _ ?_;refine jK (I.g rfl) rfl ?_;refine wp_skip ?_;refine cn _ _ ?_
 refine wp_seq_k fun K gI=>?_;refine aP [] [(2,.i at_),(3,.i bs),(4,.i dD),(5,.J bN),(10,.J cU),(12,.pointer (eO b'.1 ch)),(13,.i b'.2),(48,.bool (!decide (b'.2 = 0)))] I fun a I=>?_;refine bH (I.g rfl) h (fun AP h=>?_) (fun AP h=>?_)
 · refine wp_seq_k fun K ik=>?_;refine a5 ?_;refine bW (av rfl) (gP (vs:=[]) (cs:=[.slice none 0 0,.i 0,.i 0,.i 0,.i 0,.slice none 0 0,.i 0]) Try.zeroValue24 Try.underlying24 rE rfl trivial (by kernel_rfl)) I rfl rfl fun a I=>?_;refine aN 1 [] [(10,.J cU),(49,.agg #[.slice none 0 0,.i 0,.i 0,.i 0,.i 0,.slice none 0 0,.i 0]),(50,.i b'.2)] I fun a I=>?_;refine c1 (vs:=[.slice none 0 0,.i 0,.i 0,.i 0,.i 0,.slice none 0 0,.i 0]) 0 hm rfl (av rfl) rfl Try.sizeOf24 rfl rfl rfl rfl (I.g rfl) (I.g rfl) rfl ?_;intro w hm;simp only [List.set,lay,List.drop,List.length,List.cons_append,List.nil_append] at hm
   refine aN 1 [] [(10,.J cU),(11,.i b'.2)] I fun a I=>wpList_nil (ik _ _ ?_);refine wp_ret ?_;obtain rfl:=Option.some.inj h;refine aW ?_;refine hU (vs:=[.agg #[.slice none 0 0,.i 0,.i 0,.i 0,.i 0,.slice none 0 0,.i 0],.i b'.2]) Try.results8 I ⟨⟨_,_,I.g rfl,.inl ⟨[.slice none 0 0,.i 0,.i 0,.i 0,.i 0,.slice none 0 0,.i 0],Try.isAgg24,Try.sizeOf24,hH (hm.e 0 rfl) 0 ⟨rfl,rfl,rfl,rfl,rfl,rfl,rfl,trivial⟩,rfl⟩⟩,I.g rfl,trivial⟩ ?_;have hm:=hm.c7 (α:=Int) 3 1;have hm:=hm.more (y:=ap.rows (ax .i64) [] []) rfl;have hm:=hm.c7 (α:=Int) 3 1;have hm:=hm.more (y:=ap.rows (ax .i64) [] []) rfl
   exact ⟨none,0,[],none,0,[],rfl,(hm.a7 [1,0] rfl rfl).pick ⟨⟨0,rfl⟩,⟨0,rfl⟩,trivial⟩⟩
 refine wp_skip ?_;refine gI _ _ ?_;refine wp_seq_k fun K il=>?_;refine a5 ?_;refine bj 1 [0,0] [(2,.i at_),(3,.i bs),(4,.i dD),(5,.J bN),(10,.J cU),(12,.pointer (eO b'.1 ch)),(51,.agg #[.slice aj h_.Words.length ar,.i h_.ai,.i h_.ak,.i h_.aB,.i h_.aA,.slice aJ h_.al.length aO,.i h_.Next])] [bN,0] (aQ (bh (hm.e 2 rfl)) aS) I fun a I=>?_;obtain ⟨fa,aeX,h⟩:=Cin.aV h;have hc:=hm
 refine b4 (vs:=[.agg #[.slice aj h_.Words.length ar,.i h_.ai,.i h_.ak,.i h_.aB,.i h_.aA,.slice aJ h_.al.length aO,.i h_.Next]]) (av rfl) rfl Try.call20 ⟨(I.g rfl),trivial⟩ (DJ ((hc.into 0).pick ⟨⟨11,rfl⟩,⟨12,rfl⟩,trivial⟩) aeX) I rfl rfl ?_;rintro _ w ⟨TH,Ua,Tu,sf,sG,aoc,rfl,ad⟩;refine ⟨_,rfl,?_⟩;intro a I;have U:aX [] _ w:=ad.ev;have hm:=hc.back 0 ad;dsimp only [List.drop,List.cons_append,List.nil_append,HAppend.hAppend,Append.append,List.append] at hm;clear ad hc;clear U;refine c1 (vs:=[.slice TH fa.Words.length Ua,.i fa.ai,.i fa.ak,.i fa.aB,.i fa.aA,.slice sf fa.al.length sG,.i fa.Next]) 4 hm rfl (av rfl) rfl Try.sizeOf24 rfl rfl rfl rfl (I.g rfl) (I.g rfl) rfl ?_
 intro w hm;simp only [List.set,lay,List.drop,List.length,List.cons_append,List.nil_append] at hm;refine wpList_nil ?_;refine il _ _ ?_;refine wp_seq_k fun K mv=>?_;refine a5 ?_;refine aN 1 [] [(2,.i at_),(3,.i bs),(4,.i dD),(5,.J bN),(10,.J cU),(53,.pointer (eO b'.1 ch))] I fun a I=>?_;obtain ⟨iC,agr,h⟩:=Cin.aV h;simp only [agr,ap.dA,eO] at I hm
 refine bj 6 [0,7] [(5,.J bN),(10,.J cU),(56,.agg #[.slice l8 iC.S.K.aK.length mm,.slice j8 iC.S.K.aI.length kb,.slice iF iC.S.K.Fields.length iK,.slice l9 iC.S.K.Names.length mn,.slice l_ iC.S.K.aH.length mo]),(57,.i at_),(58,.i bs),(59,.i dD)] [ch,7] (aQ (hm.d 2 rfl).2.2 aS) I fun a I=>?_;obtain ⟨jo,JS,h⟩:=Cin.aV h;have hc:=hm.a7 [4,0,1,2,3] rfl rfl
 refine b4 (vs:=[.J bN,.agg #[.slice l8 iC.S.K.aK.length mm,.slice j8 iC.S.K.aI.length kb,.slice iF iC.S.K.Fields.length iK,.slice l9 iC.S.K.Names.length mn,.slice l_ iC.S.K.aH.length mo],.i at_,.i bs,.i dD]) (av rfl) rfl Try.call21 ⟨(I.g rfl),(I.g rfl),(I.g rfl),(I.g rfl),(I.g rfl),trivial⟩ (Hs (s_:=(⟨(⟨iC.S.K.aK,iC.S.K.aI,iC.S.K.Fields,iC.S.K.Names,iC.S.K.aH⟩:Cin.bb)⟩:Cin.cd)) ((hc.into 3).pick ⟨⟨0,rfl⟩,⟨1,rfl⟩,⟨5,rfl⟩,⟨6,rfl⟩,⟨7,rfl⟩,⟨8,rfl⟩,⟨9,rfl⟩,trivial⟩) JS) I rfl rfl ?_;rintro _ w ⟨nz,nM,aly,ym,zw,alz,rfl,ad⟩;refine ⟨_,rfl,?_⟩;intro a I;have hm:=hc.back 3 ad
 dsimp only [List.drop,List.cons_append,List.nil_append,HAppend.hAppend,Append.append,List.append] at hm;clear ad hc;refine wpList_nil ?_;have I:=I.sub (l':=[(5,.J bN),(10,.J cU)]) ⟨rfl,rfl,trivial⟩;refine mv _ _ ?_;refine wp_seq_k fun K iN=>?_;refine a5 ?_;refine bj 1 [0,0] [(10,.J cU),(61,.agg #[.slice nz jo.Words.length nM,.i fa.ai,.i fa.ak,.i fa.aB,.i fa.aA,.slice ym jo.al.length zw,.i fa.Next])] [bN,0] (aQ (bh (hm.e 0 rfl)) aS) I fun a I=>?_
 refine c1 (vs:=[.slice nz jo.Words.length nM,.i fa.ai,.i fa.ak,.i fa.aB,.i fa.aA,.slice ym jo.al.length zw,.i fa.Next]) 3 hm rfl (av rfl) rfl Try.sizeOf24 rfl rfl rfl rfl (I.g rfl) (I.g rfl) rfl ?_;intro w hm;simp only [List.set,lay,List.drop,List.length,List.cons_append,List.nil_append] at hm;refine aN 1 [] [(10,.J cU),(11,.i 0)] I fun a I=>wpList_nil (iN _ _ ?_);refine wp_ret ?_;obtain rfl:=Option.some.inj h
 refine hU (vs:=[.agg #[.slice nz jo.Words.length nM,.i fa.ai,.i fa.ak,.i fa.aB,.i fa.aA,.slice ym jo.al.length zw,.i fa.Next],.i 0]) Try.results8 I ⟨⟨_,_,I.g rfl,.inl ⟨[.slice nz jo.Words.length nM,.i fa.ai,.i fa.ak,.i fa.aB,.i fa.aA,.slice ym jo.al.length zw,.i fa.Next],Try.isAgg24,Try.sizeOf24,hH (hm.e 3 rfl) 0 ⟨rfl,rfl,rfl,rfl,rfl,rfl,rfl,trivial⟩,rfl⟩⟩,I.g rfl,trivial⟩ ?_;exact ⟨nz,nM,aly,ym,zw,alz,rfl,(hm.a7 [1,2] rfl rfl).pick ⟨⟨0,rfl⟩,⟨1,rfl⟩,trivial⟩⟩
end Go.Proofs.Ytpkhpagplommoaa
namespace Cin
def Dd (F:Nat):Option (Bool):=
 (GM).bind fun tQ=>
 (tx F tQ).bind fun cY=>
 (Ip 20 20).bind fun dP=>
 (n2 F (⟨dP.1.Words,dP.1.ai,dP.1.ak,dP.1.aB,dP.1.aA,dP.1.al,dP.1.Next⟩:bd) (⟨cY.1.aK,cY.1.aI,cY.1.Fields,cY.1.Names,cY.1.aH⟩:bb) 1 2 false).bind fun du=>
 (n3 F (⟨du.1.Words,du.1.ai,du.1.ak,du.1.aB,du.1.aA,du.1.al,du.1.Next⟩:bd) (⟨cY.1.aK,cY.1.aI,cY.1.Fields,cY.1.Names,cY.1.aH⟩:bb) du.2.1 1 7).bind fun eh=>
 (s4 F (⟨eh.1.Words,eh.1.ai,eh.1.ak,eh.1.aB,eh.1.aA,eh.1.al,eh.1.Next⟩:bd) (⟨cY.1.aK,cY.1.aI,cY.1.Fields,cY.1.Names,cY.1.aH⟩:bb) du.2.1 1).bind fun wa=>
 some ((((((((decide (cY.2 = 0)) && (decide (dP.2 = 0))) && (decide (du.2.2 = 0))) && (decide (eh.2 = 0))) && (decide (wa.2 = 0))) && (decide (du.2.1 = 1))) && (decide (wa.1 = 7))) && (decide ((eh.1.Words.length:Int)= 41)))
def nE (h_:bd) (bg:qj) (bp:bd × Int):Nat->Int->Option (Way (Bool) (Unit))
 | 0,_=>none
 | bq+ 1,gK=>
   cond (decide (gK <(h_.Words.length:Int))) (cond (!decide (gK=(ay ((ay (bg.db+ 3))+bg.N)))) ((idx h_.Words gK).bind fun FJ=>
   (idx bp.1.Words gK).bind fun MV=>
   cond (!decide (FJ=MV)) (some (.out false)) (nE h_ bg bp bq (ay (gK+ 1)))) (nE h_ bg bp bq (ay (gK+ 1)))) (some (.go ()))
def p7 (bg:qj) (gf:(List Int) × Int):Nat->Int->Option (Way (Bool) (Unit))
 | 0,_=>none
 | dd+ 1,kt=>
   cond (decide (kt <bg.Length)) ((idx gf.1 kt).bind fun lA=>
   cond (!decide (lA= 0)) (some (.out false)) (p7 bg gf dd (ay (kt+ 1)))) (some (.go ()))
def Dc (F:Nat) (h_:bd) (ah:bb) (bg:qj):Option (Bool):=
 (Dd F).bind fun b'=>
 cond (!b') (some false) (cond (decide (4611686018427387904 <h_.Next)) (some true) ((n3 F (⟨h_.Words,h_.ai,h_.ak,h_.aB,h_.aA,h_.al,h_.Next⟩:bd) (⟨ah.aK,ah.aI,ah.Fields,ah.Names,ah.aH⟩:bb) bg.db bg.N bg.Value).bind fun bp=>
 dp (α:=Unit) (cond (decide (bp.2 = 0)) ((s4 F (⟨bp.1.Words,bp.1.ai,bp.1.ak,bp.1.aB,bp.1.aA,bp.1.al,bp.1.Next⟩:bd) (⟨ah.aK,ah.aI,ah.Fields,ah.Names,ah.aH⟩:bb) bg.db bg.N).bind fun nr=>
 cond ((!decide (nr.2 = 0)) || (!decide (nr.1 =bg.Value))) (some (.out false)) ((qF F (⟨bp.1.Words,bp.1.ai,bp.1.ak,bp.1.aB,bp.1.aA,bp.1.al,bp.1.Next⟩:bd) (⟨ah.aK,ah.aI,ah.Fields,ah.Names,ah.aH⟩:bb)).bind fun B0=>
 cond ((!decide (B0= 0)) || (!decide ((bp.1.Words.length:Int)=(h_.Words.length:Int)))) (some (.out false)) (dG (α:=Unit) (nE h_ bg bp F 0) fun (_:Unit)=>
 some (.go ())))) (some (.go ()))) fun (_:Unit)=>
 (n2 F (⟨h_.Words,h_.ai,h_.ak,h_.aB,h_.aA,h_.al,h_.Next⟩:bd) (⟨ah.aK,ah.aI,ah.Fields,ah.Names,ah.aH⟩:bb) bg.Tag bg.Length bg.ak).bind fun cH=>
 cond (!decide (cH.2.2 = 0)) (some (decide (cH.2.1 = 0))) ((xo F (⟨cH.1.Words,cH.1.ai,cH.1.ak,cH.1.aB,cH.1.aA,cH.1.al,cH.1.Next⟩:bd) (⟨ah.aK,ah.aI,ah.Fields,ah.Names,ah.aH⟩:bb) cH.2.1).bind fun gf=>
 cond ((!decide (gf.2 = 0)) || (!decide ((gf.1.length:Int)=bg.Length))) (some false) ((qF F (⟨cH.1.Words,cH.1.ai,cH.1.ak,cH.1.aB,cH.1.aA,cH.1.al,cH.1.Next⟩:bd) (⟨ah.aK,ah.aI,ah.Fields,ah.Names,ah.aH⟩:bb)).bind fun LY=>
 cond ((!decide (LY= 0)) || (!decide (cH.1.Next=(ay (h_.Next+ 1))))) (some false) (dp (α:=Unit) (p7 bg gf F 0) fun (_:Unit)=>
 some true)))))
end Cin
namespace Go.Proofs.Ytpkhpagplommoaa
open Go Go.RowKit Gg
set_option maxHeartbeats 4000000
set_option maxRecDepth 20000
theorem Ud {W:World} {X:List Nat} {F:Nat} {r:Bool} (hm:aD W (aT []) X W [] []) (h:Cin.Dd F=some r) :
 Calls Try.prog 6 [].toArray W (fun e az=>e= .returned (.bool r)/\aD W (aT []) X az [] []):=by
 generalize bK:aT []=aR at hm ⊢;clear bK;refine enter Try.func6 rfl Try.ntmps6 rfl ?_;intro a I;rw [Cin.Dd] at h;refine aP [] [] I fun a I=>?_;refine wp_seq_k fun K bS=>?_;refine a5 ?_;obtain ⟨tQ,JX,h⟩:=Cin.aV h;have hc:=hm;refine b4 (vs:=[]) (av rfl) rfl Try.call15 trivial (Uc ((hc.into 0).pick trivial) JX) I rfl rfl ?_;rintro _ w ⟨aJ,aO,wz,rfl,ad⟩;refine ⟨_,rfl,?_⟩;intro a I;have U:aX [] _ w:=ad.ev;have hm:=hc.back 0 ad;dsimp only [List.drop,List.cons_append,List.nil_append,HAppend.hAppend,Append.append,List.append] at hm;clear ad hc;clear U;obtain ⟨cY,vE,h⟩:=Cin.aV h;have hm:=hm.freeze 0 0 rfl rfl;dsimp only [List.eraseIdx] at hm;have hc:=hm
 refine b4 (vs:=[.slice aJ tQ.length aO]) (av rfl) rfl Try.call14 ⟨(I.g rfl),trivial⟩ (O8 ((hc.into 0).pick ⟨⟨0,rfl⟩,trivial⟩) vE) I rfl rfl ?_;rintro _ w ⟨cM,cO,M1,cr,cu,anX,cp,cq,anY,cl,cm,M2,cD,cE,rY,rfl,ad⟩;refine ⟨_,rfl,?_⟩;intro a I;have U:aX [] _ w:=ad.ev;have hm:=hc.back 0 ad;dsimp only [List.drop,List.cons_append,List.nil_append,HAppend.hAppend,Append.append,List.append] at hm;clear ad hc;clear U;refine aN 3 [] [(13,.agg #[.slice cM cY.1.aK.length cO,.slice cr cY.1.aI.length cu,.slice cp cY.1.Fields.length cq,.slice cl cY.1.Names.length cm,.slice cD cY.1.aH.length cE]),(14,.i cY.2)] I fun a I=>?_
 refine c5 (cs:=[.slice none 0 0,.slice none 0 0,.slice none 0 0,.slice none 0 0,.slice none 0 0]) (av rfl) (e3 Try.zeroValue36 rfl rfl) I hm rfl rfl ?_;intro a mW w U I hm;clear U;refine c1 (vs:=[.slice cM cY.1.aK.length cO,.slice cr cY.1.aI.length cu,.slice cp cY.1.Fields.length cq,.slice cl cY.1.Names.length cm,.slice cD cY.1.aH.length cE]) 0 hm rfl (av rfl) rfl Try.sizeOf36 rfl rfl rfl rfl (I.g rfl) (I.g rfl) rfl ?_;intro w hm;simp only [List.set,lay,List.drop,List.length,List.cons_append,List.nil_append] at hm;refine aN 1 [] [(1,.J mW),(2,.i cY.2)] I fun a I=>wpList_nil (bS _ _ ?_);refine wp_seq_k fun K cn=>?_;refine a5 ?_;obtain ⟨dP,JV,h⟩:=Cin.aV h;have hc:=hm
 refine b4 (vs:=[.i 20,.i 20]) (av rfl) rfl Try.call5 ⟨(dg _ _),(dg _ _),trivial⟩ (Ug ((hc.into 0).pick trivial) JV) I rfl rfl ?_;rintro _ w ⟨fT,fU,an1,kK,kP,rfl,ad⟩;refine ⟨_,rfl,?_⟩;intro a I;have U:aX [] _ w:=ad.ev;have hm:=hc.back 0 ad;dsimp only [List.drop,List.cons_append,List.nil_append,HAppend.hAppend,Append.append,List.append] at hm;clear ad hc;clear U;refine aN 3 [] [(1,.J mW),(2,.i cY.2),(17,.agg #[.slice fT dP.1.Words.length fU,.i dP.1.ai,.i dP.1.ak,.i dP.1.aB,.i dP.1.aA,.slice kK dP.1.al.length kP,.i dP.1.Next]),(18,.i dP.2)] I fun a I=>?_
 refine c5 (cs:=[.slice none 0 0,.i 0,.i 0,.i 0,.i 0,.slice none 0 0,.i 0]) (av rfl) (e3 Try.zeroValue24 rfl rfl) I hm rfl rfl ?_;intro a mu w U I hm;clear U;refine c1 (vs:=[.slice fT dP.1.Words.length fU,.i dP.1.ai,.i dP.1.ak,.i dP.1.aB,.i dP.1.aA,.slice kK dP.1.al.length kP,.i dP.1.Next]) 0 hm rfl (av rfl) rfl Try.sizeOf24 rfl rfl rfl rfl (I.g rfl) (I.g rfl) rfl ?_;intro w hm;simp only [List.set,lay,List.drop,List.length,List.cons_append,List.nil_append] at hm;refine aN 1 [] [(1,.J mW),(2,.i cY.2),(3,.J mu),(4,.i dP.2)] I fun a I=>wpList_nil (cn _ _ ?_);refine wp_seq_k fun K dc=>?_;refine a5 ?_
 refine bj 2 [0,0,1,0] [(1,.J mW),(2,.i cY.2),(3,.J mu),(4,.i dP.2),(20,.agg #[.slice fT dP.1.Words.length fU,.i dP.1.ai,.i dP.1.ak,.i dP.1.aB,.i dP.1.aA,.slice kK dP.1.al.length kP,.i dP.1.Next]),(21,.agg #[.slice cM cY.1.aK.length cO,.slice cr cY.1.aI.length cu,.slice cp cY.1.Fields.length cq,.slice cl cY.1.Names.length cm,.slice cD cY.1.aH.length cE])] [mW,0,mu,0] (aQ (bh (hm.e 0 rfl)) (aQ (bh (hm.e 2 rfl)) aS)) I fun a I=>?_;obtain ⟨du,JZ,h⟩:=Cin.aV h;have hc:=hm;have ag:=hc.freeze 1 0 rfl rfl;dsimp only [List.eraseIdx] at ag;have ag:=ag.freeze 2 3 rfl rfl;dsimp only [List.eraseIdx] at ag
 have ag:=ag.freeze 2 5 rfl rfl;dsimp only [List.eraseIdx] at ag;have ag:=ag.freeze 2 7 rfl rfl;dsimp only [List.eraseIdx] at ag;have ag:=ag.freeze 2 9 rfl rfl;dsimp only [List.eraseIdx] at ag;have ag:=ag.freeze 2 11 rfl rfl;dsimp only [List.eraseIdx] at ag
 refine b4 (vs:=[.agg #[.slice fT dP.1.Words.length fU,.i dP.1.ai,.i dP.1.ak,.i dP.1.aB,.i dP.1.aA,.slice kK dP.1.al.length kP,.i dP.1.Next],.agg #[.slice cM cY.1.aK.length cO,.slice cr cY.1.aI.length cu,.slice cp cY.1.Fields.length cq,.slice cl cY.1.Names.length cm,.slice cD cY.1.aH.length cE],.i 1,.i 2,.bool false]) (av rfl) rfl Try.call11 ⟨(I.g rfl),(I.g rfl),(dg _ _),(dg _ _),(dg _ _),trivial⟩ (OX ((ag.into 0).pick ⟨⟨5,rfl⟩,⟨7,rfl⟩,⟨4,rfl⟩,⟨3,rfl⟩,⟨2,rfl⟩,⟨1,rfl⟩,⟨0,rfl⟩,trivial⟩) JZ) I rfl rfl ?_;rintro _ w ⟨kL,kQ,an4,kM,kR,an5,rfl,ad⟩;refine ⟨_,rfl,?_⟩;intro a I;have U:aX [] _ w:=ad.ev
 have hm:=hc.fL 0 (by exact ⟨lv (fun _ _ _ _ _ _ h=>h),lv (fun _ _ _ _ _ _ h=>h),trivial⟩) ad;dsimp only [List.drop,List.cons_append,List.nil_append,HAppend.hAppend,Append.append,List.append] at hm;clear ad hc ag;clear U;refine aN 4 [] [(1,.J mW),(2,.i cY.2),(3,.J mu),(4,.i dP.2),(23,.agg #[.slice kL du.1.Words.length kQ,.i du.1.ai,.i du.1.ak,.i du.1.aB,.i du.1.aA,.slice kM du.1.al.length kR,.i du.1.Next]),(24,.i du.2.1),(25,.i du.2.2)] I fun a I=>?_
 refine c1 (vs:=[.slice kL du.1.Words.length kQ,.i du.1.ai,.i du.1.ak,.i du.1.aB,.i du.1.aA,.slice kM du.1.al.length kR,.i du.1.Next]) 2 hm rfl (av rfl) rfl Try.sizeOf24 rfl rfl rfl rfl (I.g rfl) (I.g rfl) rfl ?_;intro w hm;simp only [List.set,lay,List.drop,List.length,List.cons_append,List.nil_append] at hm;refine aN 2 [] [(1,.J mW),(2,.i cY.2),(3,.J mu),(4,.i dP.2),(5,.i du.2.1),(6,.i du.2.2)] I fun a I=>wpList_nil (dc _ _ ?_);refine wp_seq_k fun K c3=>?_;refine a5 ?_
 refine bj 3 [0,0,1,0] [(1,.J mW),(2,.i cY.2),(3,.J mu),(4,.i dP.2),(5,.i du.2.1),(6,.i du.2.2),(27,.agg #[.slice kL du.1.Words.length kQ,.i du.1.ai,.i du.1.ak,.i du.1.aB,.i du.1.aA,.slice kM du.1.al.length kR,.i du.1.Next]),(28,.agg #[.slice cM cY.1.aK.length cO,.slice cr cY.1.aI.length cu,.slice cp cY.1.Fields.length cq,.slice cl cY.1.Names.length cm,.slice cD cY.1.aH.length cE]),(29,.i du.2.1)] [mW,0,mu,0] (aQ (bh (hm.e 2 rfl)) (aQ (bh (hm.e 4 rfl)) aS)) I fun a I=>?_;obtain ⟨eh,J3,h⟩:=Cin.aV h;have hc:=hm;have ag:=hc.freeze 0 0 rfl rfl;dsimp only [List.eraseIdx] at ag
 have ag:=ag.freeze 0 2 rfl rfl;dsimp only [List.eraseIdx] at ag;have ag:=ag.freeze 3 6 rfl rfl;dsimp only [List.eraseIdx] at ag;have ag:=ag.freeze 3 8 rfl rfl;dsimp only [List.eraseIdx] at ag;have ag:=ag.freeze 3 10 rfl rfl;dsimp only [List.eraseIdx] at ag;have ag:=ag.freeze 3 12 rfl rfl;dsimp only [List.eraseIdx] at ag;have ag:=ag.freeze 3 14 rfl rfl;dsimp only [List.eraseIdx] at ag
 refine b4 (vs:=[.agg #[.slice kL du.1.Words.length kQ,.i du.1.ai,.i du.1.ak,.i du.1.aB,.i du.1.aA,.slice kM du.1.al.length kR,.i du.1.Next],.agg #[.slice cM cY.1.aK.length cO,.slice cr cY.1.aI.length cu,.slice cp cY.1.Fields.length cq,.slice cl cY.1.Names.length cm,.slice cD cY.1.aH.length cE],.i du.2.1,.i 1,.i 7]) (av rfl) rfl Try.call8 ⟨(I.g rfl),(I.g rfl),(I.g rfl),(dg _ _),(dg _ _),trivial⟩ (OY ((ag.into 0).pick ⟨⟨6,rfl⟩,⟨5,rfl⟩,⟨4,rfl⟩,⟨3,rfl⟩,⟨2,rfl⟩,⟨1,rfl⟩,⟨0,rfl⟩,trivial⟩) J3) I rfl rfl ?_;rintro _ w ⟨uw,uT,M4,o1,pb,M5,rfl,ad⟩;refine ⟨_,rfl,?_⟩;intro a I;have U:aX [] _ w:=ad.ev
 have hm:=hc.fL 0 (by exact ⟨lv (fun _ _ _ _ _ _ h=>h),lv (fun _ _ _ _ _ _ h=>h),trivial⟩) ad;dsimp only [List.drop,List.cons_append,List.nil_append,HAppend.hAppend,Append.append,List.append] at hm;clear ad hc ag;clear U;refine aN 3 [] [(1,.J mW),(2,.i cY.2),(3,.J mu),(4,.i dP.2),(5,.i du.2.1),(6,.i du.2.2),(31,.agg #[.slice uw eh.1.Words.length uT,.i eh.1.ai,.i eh.1.ak,.i eh.1.aB,.i eh.1.aA,.slice o1 eh.1.al.length pb,.i eh.1.Next]),(32,.i eh.2)] I fun a I=>?_
 refine c1 (vs:=[.slice uw eh.1.Words.length uT,.i eh.1.ai,.i eh.1.ak,.i eh.1.aB,.i eh.1.aA,.slice o1 eh.1.al.length pb,.i eh.1.Next]) 4 hm rfl (av rfl) rfl Try.sizeOf24 rfl rfl rfl rfl (I.g rfl) (I.g rfl) rfl ?_;intro w hm;simp only [List.set,lay,List.drop,List.length,List.cons_append,List.nil_append] at hm;refine aN 1 [] [(1,.J mW),(2,.i cY.2),(3,.J mu),(4,.i dP.2),(5,.i du.2.1),(6,.i du.2.2),(7,.i eh.2)] I fun a I=>wpList_nil (c3 _ _ ?_);refine wp_seq_k fun K eR=>?_;refine a5 ?_
 refine bj 3 [0,0,1,0] [(2,.i cY.2),(3,.J mu),(4,.i dP.2),(5,.i du.2.1),(6,.i du.2.2),(7,.i eh.2),(34,.agg #[.slice uw eh.1.Words.length uT,.i eh.1.ai,.i eh.1.ak,.i eh.1.aB,.i eh.1.aA,.slice o1 eh.1.al.length pb,.i eh.1.Next]),(35,.agg #[.slice cM cY.1.aK.length cO,.slice cr cY.1.aI.length cu,.slice cp cY.1.Fields.length cq,.slice cl cY.1.Names.length cm,.slice cD cY.1.aH.length cE]),(36,.i du.2.1)] [mW,0,mu,0] (aQ (bh (hm.e 4 rfl)) (aQ (bh (hm.e 6 rfl)) aS)) I fun a I=>?_;obtain ⟨wa,aey,h⟩:=Cin.aV h;have hc:=hm;have ag:=hc.freeze 0 0 rfl rfl;dsimp only [List.eraseIdx] at ag
 have ag:=ag.freeze 0 2 rfl rfl;dsimp only [List.eraseIdx] at ag;have ag:=ag.freeze 5 8 rfl rfl;dsimp only [List.eraseIdx] at ag;have ag:=ag.freeze 5 10 rfl rfl;dsimp only [List.eraseIdx] at ag;have ag:=ag.freeze 5 12 rfl rfl;dsimp only [List.eraseIdx] at ag;have ag:=ag.freeze 5 14 rfl rfl;dsimp only [List.eraseIdx] at ag;have ag:=ag.freeze 5 16 rfl rfl;dsimp only [List.eraseIdx] at ag
 refine b4 (vs:=[.agg #[.slice uw eh.1.Words.length uT,.i eh.1.ai,.i eh.1.ak,.i eh.1.aB,.i eh.1.aA,.slice o1 eh.1.al.length pb,.i eh.1.Next],.agg #[.slice cM cY.1.aK.length cO,.slice cr cY.1.aI.length cu,.slice cp cY.1.Fields.length cq,.slice cl cY.1.Names.length cm,.slice cD cY.1.aH.length cE],.i du.2.1,.i 1]) (av rfl) rfl Try.call9 ⟨(I.g rfl),(I.g rfl),(I.g rfl),(dg _ _),trivial⟩ (OW ((ag.into 0).pick ⟨⟨6,rfl⟩,⟨5,rfl⟩,⟨4,rfl⟩,⟨3,rfl⟩,⟨2,rfl⟩,⟨1,rfl⟩,⟨0,rfl⟩,trivial⟩) aey) I rfl rfl ?_;rintro _ w ⟨rfl,ad⟩;refine ⟨_,rfl,?_⟩;intro a I;have U:aX [] _ w:=ad.ev;have hm:=hc.fL 0 (by exact trivial) ad
 dsimp only [List.drop,List.cons_append,List.nil_append,HAppend.hAppend,Append.append,List.append] at hm;clear ad hc ag;clear U;refine aN 5 [] [(2,.i cY.2),(3,.J mu),(4,.i dP.2),(5,.i du.2.1),(6,.i du.2.2),(7,.i eh.2),(8,.i wa.1),(9,.i wa.2)] I fun a I=>wpList_nil (eR _ _ ?_);refine wp_seq_k fun K dN=>?_;refine rg [0,0,0,0,0,0,0,0,0,0,0,0,0,0,0,0,0,0,0,0,0,0,0,0,0] [(0,.bool ((((((((decide (cY.2 = 0)) && (decide (dP.2 = 0))) && (decide (du.2.2 = 0))) && (decide (eh.2 = 0))) && (decide (wa.2 = 0))) && (decide (du.2.1 = 1))) && (decide (wa.1 = 7))) && (decide ((eh.1.Words.length:Int)= 41))))] [mu,0] (aQ (bh (hm.e 4 rfl)) aS) I fun a I=>dN _ _ ?_;refine wp_ret ?_
 obtain rfl:=Option.some.inj h;refine bE Try.results6 I rfl ?_;exact ⟨rfl,(hm.a7 [] rfl rfl).pick trivial⟩
theorem Ub {W:World} {X:List Nat} {F:Nat} {h_:Cin.bd} {ah:Cin.bb} {bg:Cin.qj} {r:Bool} {aj:Option Addr} {ar:Nat} {aJ:Option Addr} {aO:Nat} {a8:Option Addr} {ba:Nat} {b0:Option Addr} {b1:Nat} {bP:Option Addr} {bR:Nat} {cA:Option Addr} {cB:Nat} {cw:Option Addr} {cx:Nat} (hm:aD W (aT []) X W [] [aa (ax .i64) aj ar h_.Words,aa (ax .i64) aJ aO h_.al,aa Cin.bL a8 ba ah.aK,aa (ax .i64) b0 b1 ah.aI,aa (aU Cin.bJ) bP bR ah.Fields,aa (aU bZ) cA cB ah.Names,aa (aU Cin.cz) cw cx ah.aH]) (h:Cin.Dc F h_ ah bg=some r) :
 Calls Try.prog 4 [.agg #[.slice aj h_.Words.length ar,.i h_.ai,.i h_.ak,.i h_.aB,.i h_.aA,.slice aJ h_.al.length aO,.i h_.Next],.agg #[.slice a8 ah.aK.length ba,.slice b0 ah.aI.length b1,.slice bP ah.Fields.length bR,.slice cA ah.Names.length cB,.slice cw ah.aH.length cx],.agg #[.i bg.db,.i bg.N,.i bg.Value,.i bg.Tag,.i bg.Length,.bool bg.ak]].toArray W (fun e az=>e= .returned (.bool r)/\aD W (aT []) X az [] []):=by
 generalize bK:aT []=aR at hm ⊢;clear bK;refine enter Try.func4 rfl Try.ntmps4 rfl ?_;intro a I;rw [Cin.Dc] at h;refine wp_seq_k fun K dx=>?_;refine a5 ?_;refine c5 (cs:=[.slice aj h_.Words.length ar,.i h_.ai,.i h_.ak,.i h_.aB,.i h_.aA,.slice aJ h_.al.length aO,.i h_.Next]) (av rfl) (eY rfl rfl (I.g rfl)) I hm rfl rfl ?_;intro a bN w U I hm;clear U;refine c5 (cs:=[.slice a8 ah.aK.length ba,.slice b0 ah.aI.length b1,.slice bP ah.Fields.length bR,.slice cA ah.Names.length cB,.slice cw ah.aH.length cx]) (av rfl) (eY rfl rfl (I.g rfl)) I hm rfl rfl ?_;intro a c2 w U I hm;clear U
 refine c5 (cs:=[.i bg.db,.i bg.N,.i bg.Value,.i bg.Tag,.i bg.Length,.bool bg.ak]) (av rfl) (eY rfl rfl (I.g rfl)) I hm rfl rfl ?_;intro a cU w U I hm;clear U;refine aN 1 [] [(3,.J bN),(4,.J c2),(5,.J cU)] I fun a I=>wpList_nil (dx _ _ ?_);refine wp_seq_k fun K bS=>?_;refine wp_seq_k fun K cn=>?_;refine a5 ?_;obtain ⟨b',vD,h⟩:=Cin.aV h;have hc:=hm;refine b4 (vs:=[]) (av rfl) rfl Try.call6 trivial (Ud ((hc.into 0).pick trivial) vD) I rfl rfl ?_;rintro _ w ⟨rfl,ad⟩;refine ⟨_,rfl,?_⟩;intro a I;have U:aX [] _ w:=ad.ev;have hm:=hc.back 0 ad;dsimp only [List.drop,List.cons_append,List.nil_append,HAppend.hAppend,Append.append,List.append] at hm
 clear ad hc;clear U;refine aN 1 [] [(3,.J bN),(4,.J c2),(5,.J cU),(23,.bool (!b'))] I fun a I=>wpList_nil (cn _ _ ?_);refine bH (I.g rfl) h (fun Yq h=>?_) (fun Yq h=>?_)
 · refine aP [] [(6,.bool false)] I fun a I=>?_;refine wp_ret ?_;obtain rfl:=Option.some.inj h;refine aW ?_;refine bE Try.results4 I rfl ?_;exact ⟨rfl,(hm.a7 [] rfl rfl).pick trivial⟩
 refine wp_skip ?_;refine bS _ _ ?_;refine wp_seq_k fun K c3=>?_;refine wp_seq_k fun K eR=>?_;refine rg [0,6] [(3,.J bN),(4,.J c2),(5,.J cU),(26,.bool (decide (4611686018427387904 <h_.Next)))] [bN,6] (aQ (bh (hm.e 2 rfl)) aS) I fun a I=>eR _ _ ?_;refine bH (I.g rfl) h (fun Yt h=>?_) (fun Yt h=>?_)
 · refine aP [] [(6,.bool true)] I fun a I=>?_;refine wp_ret ?_;obtain rfl:=Option.some.inj h;refine aW ?_;refine bE Try.results4 I rfl ?_;exact ⟨rfl,(hm.a7 [] rfl rfl).pick trivial⟩
 refine wp_skip ?_;refine c3 _ _ ?_;refine wp_seq_k fun K dq=>?_;refine lG (by kernel_rfl) (by kernel_rfl) ?_;refine fH 18 [0,0,0,1,0,2,0,3,0,4,0,5] [(3,.J bN),(4,.J c2),(7,.i bg.db),(8,.i bg.N),(9,.i bg.Value),(10,.i bg.Tag),(11,.i bg.Length),(12,.bool bg.ak)] [cU,5,cU,4,cU,3,cU,2,cU,1,cU,0] (fun bV U=>(aQ (dZ U (bh (hm.e 0 rfl))) aS)) I fun a I=>?_;refine wpQuiet_nil ?_;intro w U;have hm:=hm.eD U;clear U;refine dq _ _ ?_;refine wp_seq_k fun K eV=>?_;refine a5 ?_
 refine bj 5 [0,0,1,0] [(3,.J bN),(4,.J c2),(7,.i bg.db),(8,.i bg.N),(9,.i bg.Value),(10,.i bg.Tag),(11,.i bg.Length),(12,.bool bg.ak),(40,.agg #[.slice aj h_.Words.length ar,.i h_.ai,.i h_.ak,.i h_.aB,.i h_.aA,.slice aJ h_.al.length aO,.i h_.Next]),(41,.agg #[.slice a8 ah.aK.length ba,.slice b0 ah.aI.length b1,.slice bP ah.Fields.length bR,.slice cA ah.Names.length cB,.slice cw ah.aH.length cx]),(42,.i bg.db),(43,.i bg.N),(44,.i bg.Value)] [c2,0,bN,0] (aQ (bh (hm.e 2 rfl)) (aQ (bh (hm.e 1 rfl)) aS)) I fun a I=>?_;obtain ⟨bp,px,h⟩:=Cin.aV h;have hc:=hm
 refine b4 (vs:=[.agg #[.slice aj h_.Words.length ar,.i h_.ai,.i h_.ak,.i h_.aB,.i h_.aA,.slice aJ h_.al.length aO,.i h_.Next],.agg #[.slice a8 ah.aK.length ba,.slice b0 ah.aI.length b1,.slice bP ah.Fields.length bR,.slice cA ah.Names.length cB,.slice cw ah.aH.length cx],.i bg.db,.i bg.N,.i bg.Value]) (av rfl) rfl Try.call8 ⟨(I.g rfl),(I.g rfl),(I.g rfl),(I.g rfl),(I.g rfl),trivial⟩ (OY ((hc.into 0).pick ⟨⟨0,rfl⟩,⟨1,rfl⟩,⟨2,rfl⟩,⟨3,rfl⟩,⟨4,rfl⟩,⟨5,rfl⟩,⟨6,rfl⟩,trivial⟩) px) I rfl rfl ?_;rintro _ w ⟨dY,ej,oS,fT,fU,mS,rfl,ad⟩;refine ⟨_,rfl,?_⟩;intro a I;have U:aX [] _ w:=ad.ev;have hm:=hc.back 0 ad
 dsimp only [List.drop,List.cons_append,List.nil_append,HAppend.hAppend,Append.append,List.append] at hm;clear ad hc;clear U;refine aN 3 [] [(3,.J bN),(4,.J c2),(7,.i bg.db),(8,.i bg.N),(9,.i bg.Value),(10,.i bg.Tag),(11,.i bg.Length),(12,.bool bg.ak),(46,.agg #[.slice dY bp.1.Words.length ej,.i bp.1.ai,.i bp.1.ak,.i bp.1.aB,.i bp.1.aA,.slice fT bp.1.al.length fU,.i bp.1.Next]),(47,.i bp.2)] I fun a I=>?_;refine c5 (cs:=[.slice none 0 0,.i 0,.i 0,.i 0,.i 0,.slice none 0 0,.i 0]) (av rfl) (e3 Try.zeroValue24 rfl rfl) I hm rfl rfl ?_;intro a gR w U I hm;clear U
 refine c1 (vs:=[.slice dY bp.1.Words.length ej,.i bp.1.ai,.i bp.1.ak,.i bp.1.aB,.i bp.1.aA,.slice fT bp.1.al.length fU,.i bp.1.Next]) 0 hm rfl (av rfl) rfl Try.sizeOf24 rfl rfl rfl rfl (I.g rfl) (I.g rfl) rfl ?_;intro w hm;simp only [List.set,lay,List.drop,List.length,List.cons_append,List.nil_append] at hm;refine aN 1 [] [(3,.J bN),(4,.J c2),(7,.i bg.db),(8,.i bg.N),(9,.i bg.Value),(10,.i bg.Tag),(11,.i bg.Length),(12,.bool bg.ak),(13,.J gR),(14,.i bp.2)] I fun a I=>wpList_nil (eV _ _ ?_);obtain ⟨Q1,h,A1⟩:=Cin.fA h
 refine w8 (fun a w=>Fr ⟨159,[]⟩ [(3,.J bN),(4,.J c2),(10,.i bg.Tag),(11,.i bg.Length),(12,.bool bg.ak)] a/\aD W aR X w [aw.br gR 24 [.slice dY bp.1.Words.length ej,.i bp.1.ai,.i bp.1.ak,.i bp.1.aB,.i bp.1.aA,.slice fT bp.1.al.length fU,.i bp.1.Next],aw.row 3 1 (.slice dY bp.1.Words.length ej) bp.1.Words oS,aw.row 3 1 (.slice fT bp.1.al.length fU) bp.1.al mS,aw.br cU 38 [.i bg.db,.i bg.N,.i bg.Value,.i bg.Tag,.i bg.Length,.bool bg.ak],aw.br c2 36 [.slice a8 ah.aK.length ba,.slice b0 ah.aI.length b1,.slice bP ah.Fields.length bR,.slice cA ah.Names.length cB,.slice cw ah.aH.length cx],aw.br bN 24 [.slice aj h_.Words.length ar,.i h_.ai,.i h_.ak,.i h_.aB,.i h_.aA,.slice aJ h_.al.length aO,.i h_.Next]] [ap.rows (ax .i64) oS bp.1.Words,ap.rows (ax .i64) mS bp.1.al,aa (ax .i64) aj ar h_.Words,aa (ax .i64) aJ aO h_.al,aa Cin.bL a8 ba ah.aK,aa (ax .i64) b0 b1 ah.aI,aa (aU Cin.bJ) bP bR ah.Fields,aa (aU bZ) cA cB ah.Names,aa (aU Cin.cz) cw cx ah.aH]/\Q1=(.go ())) (fun K dk=>?_) ?_
 · refine aP [] [(3,.J bN),(4,.J c2),(7,.i bg.db),(8,.i bg.N),(9,.i bg.Value),(10,.i bg.Tag),(11,.i bg.Length),(12,.bool bg.ak),(13,.J gR),(49,.bool (decide (bp.2 = 0)))] I fun a I=>?_;refine bH (I.g rfl) h (fun X9 h=>?_) (fun X9 h=>?_)
   · refine wp_seq_k fun K ey=>?_;refine a5 ?_
     refine bj 4 [0,0,1,0] [(3,.J bN),(4,.J c2),(7,.i bg.db),(8,.i bg.N),(9,.i bg.Value),(10,.i bg.Tag),(11,.i bg.Length),(12,.bool bg.ak),(13,.J gR),(51,.agg #[.slice dY bp.1.Words.length ej,.i bp.1.ai,.i bp.1.ak,.i bp.1.aB,.i bp.1.aA,.slice fT bp.1.al.length fU,.i bp.1.Next]),(52,.agg #[.slice a8 ah.aK.length ba,.slice b0 ah.aI.length b1,.slice bP ah.Fields.length bR,.slice cA ah.Names.length cB,.slice cw ah.aH.length cx]),(53,.i bg.db),(54,.i bg.N)] [c2,0,gR,0] (aQ (bh (hm.e 0 rfl)) (aQ (bh (hm.e 4 rfl)) aS)) I fun a I=>?_;obtain ⟨nr,adW,h⟩:=Cin.aV h
     have hc:=hm;have ag:=hc.freeze 1 0 rfl rfl;dsimp only [List.eraseIdx] at ag;have ag:=ag.freeze 1 2 rfl rfl;dsimp only [List.eraseIdx] at ag;refine b4 (vs:=[.agg #[.slice dY bp.1.Words.length ej,.i bp.1.ai,.i bp.1.ak,.i bp.1.aB,.i bp.1.aA,.slice fT bp.1.al.length fU,.i bp.1.Next],.agg #[.slice a8 ah.aK.length ba,.slice b0 ah.aI.length b1,.slice bP ah.Fields.length bR,.slice cA ah.Names.length cB,.slice cw ah.aH.length cx],.i bg.db,.i bg.N]) (av rfl) rfl Try.call9 ⟨(I.g rfl),(I.g rfl),(I.g rfl),(I.g rfl),trivial⟩ (OW ((ag.into 0).pick ⟨⟨1,rfl⟩,⟨0,rfl⟩,⟨6,rfl⟩,⟨7,rfl⟩,⟨8,rfl⟩,⟨9,rfl⟩,⟨10,rfl⟩,trivial⟩) adW) I rfl rfl ?_;rintro _ w ⟨rfl,ad⟩;refine ⟨_,rfl,?_⟩;intro a I;have U:aX [] _ w:=ad.ev
     have hm:=hc.fL 0 (by exact trivial) ad;dsimp only [List.drop,List.cons_append,List.nil_append,HAppend.hAppend,Append.append,List.append] at hm;clear ad hc ag;clear U;refine aN 5 [] [(3,.J bN),(4,.J c2),(7,.i bg.db),(8,.i bg.N),(9,.i bg.Value),(10,.i bg.Tag),(11,.i bg.Length),(12,.bool bg.ak),(13,.J gR),(15,.i nr.1),(16,.i nr.2)] I fun a I=>wpList_nil (ey _ _ ?_);refine wp_seq_k fun K eg=>?_;refine wp_seq_k fun K fZ=>?_;refine a5 ?_
     refine aN 8 [0,0,0,0] [(3,.J bN),(4,.J c2),(7,.i bg.db),(8,.i bg.N),(10,.i bg.Tag),(11,.i bg.Length),(12,.bool bg.ak),(13,.J gR),(65,.bool ((!decide (nr.2 = 0)) || (!decide (nr.1 =bg.Value))))] I fun a I=>?_;rcases Bool.eq_false_or_eq_true ((!decide (nr.2 = 0)) || (!decide (nr.1 =bg.Value))) with An | An
     · have h:=Cin.ew An h;have I:=I.cS 65 rfl An;refine aN 14 [1,1,1,1,1,1,1,1,1,1,1,1,1] [(3,.J bN),(4,.J c2),(7,.i bg.db),(8,.i bg.N),(10,.i bg.Tag),(11,.i bg.Length),(12,.bool bg.ak),(13,.J gR),(79,.bool true)] I fun a I=>wpList_nil (fZ _ _ ?_);refine ft (I.g rfl) rfl ?_;refine aP [] [(6,.bool false)] I fun a I=>?_;refine wp_ret ?_;obtain rfl:=Option.some.inj h;obtain rfl:=Option.some.inj (show some (_)=some _ from A1);refine aW (aW ?_);refine bE Try.results4 I rfl ?_;exact ⟨rfl,(hm.a7 [] rfl rfl).pick trivial⟩
     have h:=Cin.eu An h;have I:=I.cS 65 rfl An;refine bj 2 [1,0,0,1,1,0] [(3,.J bN),(4,.J c2),(7,.i bg.db),(8,.i bg.N),(10,.i bg.Tag),(11,.i bg.Length),(12,.bool bg.ak),(13,.J gR),(65,.bool false),(66,.agg #[.slice dY bp.1.Words.length ej,.i bp.1.ai,.i bp.1.ak,.i bp.1.aB,.i bp.1.aA,.slice fT bp.1.al.length fU,.i bp.1.Next]),(67,.agg #[.slice a8 ah.aK.length ba,.slice b0 ah.aI.length b1,.slice bP ah.Fields.length bR,.slice cA ah.Names.length cB,.slice cw ah.aH.length cx])] [c2,0,gR,0] (aQ (bh (hm.e 0 rfl)) (aQ (bh (hm.e 4 rfl)) aS)) I fun a I=>?_
     obtain ⟨B0,pw,h⟩:=Cin.aV h;have hc:=hm;have ag:=hc.freeze 1 0 rfl rfl;dsimp only [List.eraseIdx] at ag;have ag:=ag.freeze 1 2 rfl rfl;dsimp only [List.eraseIdx] at ag;refine b4 (vs:=[.agg #[.slice dY bp.1.Words.length ej,.i bp.1.ai,.i bp.1.ak,.i bp.1.aB,.i bp.1.aA,.slice fT bp.1.al.length fU,.i bp.1.Next],.agg #[.slice a8 ah.aK.length ba,.slice b0 ah.aI.length b1,.slice bP ah.Fields.length bR,.slice cA ah.Names.length cB,.slice cw ah.aH.length cx]]) (ep I rfl rfl rfl rfl) rfl Try.call10 ⟨(I.g rfl),(I.g rfl),trivial⟩ (OV ((ag.into 0).pick ⟨⟨1,rfl⟩,⟨0,rfl⟩,⟨6,rfl⟩,⟨7,rfl⟩,⟨8,rfl⟩,⟨9,rfl⟩,⟨10,rfl⟩,trivial⟩) pw) I rfl rfl ?_;rintro _ w ⟨rfl,ad⟩;refine ⟨_,rfl,?_⟩;intro a I
     have U:aX [] _ w:=ad.ev;have hm:=hc.fL 0 (by exact trivial) ad;dsimp only [List.drop,List.cons_append,List.nil_append,HAppend.hAppend,Append.append,List.append] at hm;clear ad hc ag;clear U;refine bj 11 [1,1,0,0,0,0,0,0,0,1,0,0,0,0] [(3,.J bN),(4,.J c2),(7,.i bg.db),(8,.i bg.N),(10,.i bg.Tag),(11,.i bg.Length),(12,.bool bg.ak),(13,.J gR),(79,.bool ((!decide (B0= 0)) || (!decide ((bp.1.Words.length:Int)=(h_.Words.length:Int)))))] [bN,0,gR,0] (aQ (bh (hm.e 0 rfl)) (aQ (bh (hm.e 5 rfl)) aS)) I fun a I=>wpList_nil (fZ _ _ ?_);refine bH (I.g rfl) h (fun X' h=>?_) (fun X' h=>?_)
     · refine aP [] [(6,.bool false)] I fun a I=>?_;refine wp_ret ?_;obtain rfl:=Option.some.inj h;obtain rfl:=Option.some.inj (show some (_)=some _ from A1);refine aW (aW ?_);refine bE Try.results4 I rfl ?_;exact ⟨rfl,(hm.a7 [] rfl rfl).pick trivial⟩
     refine wp_skip ?_;refine eg _ _ ?_;refine aP [] [(3,.J bN),(4,.J c2),(7,.i bg.db),(8,.i bg.N),(10,.i bg.Tag),(11,.i bg.Length),(12,.bool bg.ak),(13,.J gR),(17,.i 0)] I fun a I=>?_;obtain ⟨Ks,h,IP⟩:=Cin.lZ h
     refine dj (fun a w=>Fr ⟨159,[]⟩ [(3,.J bN),(4,.J c2),(10,.i bg.Tag),(11,.i bg.Length),(12,.bool bg.ak)] a/\aD W aR X w [aw.br gR 24 [.slice dY bp.1.Words.length ej,.i bp.1.ai,.i bp.1.ak,.i bp.1.aB,.i bp.1.aA,.slice fT bp.1.al.length fU,.i bp.1.Next],aw.row 3 1 (.slice dY bp.1.Words.length ej) bp.1.Words oS,aw.row 3 1 (.slice fT bp.1.al.length fU) bp.1.al mS,aw.br cU 38 [.i bg.db,.i bg.N,.i bg.Value,.i bg.Tag,.i bg.Length,.bool bg.ak],aw.br c2 36 [.slice a8 ah.aK.length ba,.slice b0 ah.aI.length b1,.slice bP ah.Fields.length bR,.slice cA ah.Names.length cB,.slice cw ah.aH.length cx],aw.br bN 24 [.slice aj h_.Words.length ar,.i h_.ai,.i h_.ak,.i h_.aB,.i h_.aA,.slice aJ h_.al.length aO,.i h_.Next]] [ap.rows (ax .i64) oS bp.1.Words,ap.rows (ax .i64) mS bp.1.al,aa (ax .i64) aj ar h_.Words,aa (ax .i64) aJ aO h_.al,aa Cin.bL a8 ba ah.aK,aa (ax .i64) b0 b1 ah.aI,aa (aU Cin.bJ) bP bR ah.Fields,aa (aU bZ) cA cB ah.Names,aa (aU Cin.cz) cw cx ah.aH]/\Ks=(.go ())) (fun K f_=>?_) ?_
     · refine dV (fun (bq:Nat) a w=>∃ (gK:Int),Fr ⟨159,[]⟩ [(3,.J bN),(4,.J c2),(7,.i bg.db),(8,.i bg.N),(10,.i bg.Tag),(11,.i bg.Length),(12,.bool bg.ak),(13,.J gR),(17,.i gK)] a/\aD W aR X w [aw.br gR 24 [.slice dY bp.1.Words.length ej,.i bp.1.ai,.i bp.1.ak,.i bp.1.aB,.i bp.1.aA,.slice fT bp.1.al.length fU,.i bp.1.Next],aw.row 3 1 (.slice dY bp.1.Words.length ej) bp.1.Words oS,aw.row 3 1 (.slice fT bp.1.al.length fU) bp.1.al mS,aw.br cU 38 [.i bg.db,.i bg.N,.i bg.Value,.i bg.Tag,.i bg.Length,.bool bg.ak],aw.br c2 36 [.slice a8 ah.aK.length ba,.slice b0 ah.aI.length b1,.slice bP ah.Fields.length bR,.slice cA ah.Names.length cB,.slice cw ah.aH.length cx],aw.br bN 24 [.slice aj h_.Words.length ar,.i h_.ai,.i h_.ak,.i h_.aB,.i h_.aA,.slice aJ h_.al.length aO,.i h_.Next]] [ap.rows (ax .i64) oS bp.1.Words,ap.rows (ax .i64) mS bp.1.al,aa (ax .i64) aj ar h_.Words,aa (ax .i64) aJ aO h_.al,aa Cin.bL a8 ba ah.aK,aa (ax .i64) b0 b1 ah.aI,aa (aU Cin.bJ) bP bR ah.Fields,aa (aU bZ) cA cB ah.Names,aa (aU Cin.cz) cw cx ah.aH]/\Cin.nE h_ bg bp bq gK=some Ks) F ⟨0,I.sub ⟨rfl,rfl,rfl,rfl,rfl,rfl,rfl,rfl,rfl,trivial⟩,hm,h⟩ ?_ ?_
       · rintro a w ⟨gK,I,hm,h⟩;exact absurd h (by simp [Cin.nE])
       rintro bq a w ⟨gK,I,hm,h⟩ K gT;rw [Cin.nE] at h;refine wp_seq_k fun K gI=>?_;refine wp_seq_k fun K h2=>?_;refine rg [0,0] [(3,.J bN),(4,.J c2),(7,.i bg.db),(8,.i bg.N),(10,.i bg.Tag),(11,.i bg.Length),(12,.bool bg.ak),(13,.J gR),(17,.i gK),(84,.bool (decide (gK <(h_.Words.length:Int))))] [bN,0] (aQ (bh (hm.e 5 rfl)) aS) I fun a I=>h2 _ _ ?_;refine bH (I.g rfl) h (fun Yu h=>?_) (fun Yu h=>?_)
       · refine wp_skip ?_;refine gI _ _ ?_;refine wp_seq_k fun K ik=>?_;refine wp_block ?_;refine wp_seq_k fun K il=>?_;refine lG (by kernel_rfl) (by kernel_rfl) ?_;refine fH 7 [] [(3,.J bN),(4,.J c2),(7,.i bg.db),(8,.i bg.N),(10,.i bg.Tag),(11,.i bg.Length),(12,.bool bg.ak),(13,.J gR),(17,.i gK),(93,.bool (!decide (gK=(Cin.ay ((Cin.ay (bg.db+ 3))+bg.N)))))] [] (fun bV U=>aS) I fun a I=>?_;rcases Bool.eq_false_or_eq_true (!decide (gK=(Cin.ay ((Cin.ay (bg.db+ 3))+bg.N)))) with Az | Az
         · have h:=Cin.ew Az h;have I:=I.cS 93 rfl Az;refine fH 3 [1,1,0,0,1] [(3,.J bN),(4,.J c2),(7,.i bg.db),(8,.i bg.N),(10,.i bg.Tag),(11,.i bg.Length),(12,.bool bg.ak),(13,.J gR),(17,.i gK),(93,.bool true),(95,.slice aj h_.Words.length ar),(96,.i gK)] [bN,0] (fun bV U=>(aQ (dZ U (bh (hm.e 5 rfl))) aS)) I fun a I=>?_;obtain ⟨FJ,afI,h⟩:=Cin.aV h;obtain ⟨WG,ab1,_,rfl,ZT⟩:=da _ (hm.d 2 rfl) afI;refine ix (ep I rfl rfl rfl rfl) (fun bV U=>cv Try.underlying22 Try.sizeOf3 rfl (I.g rfl) (I.g rfl) WG ab1) I rfl rfl fun a I=>?_
           refine fH 4 [1,0,0,1,1,1,0,1] [(3,.J bN),(4,.J c2),(7,.i bg.db),(8,.i bg.N),(10,.i bg.Tag),(11,.i bg.Length),(12,.bool bg.ak),(13,.J gR),(17,.i gK),(93,.bool true),(98,.i FJ),(100,.slice dY bp.1.Words.length ej),(101,.i gK)] [gR,0,ct aj,cy aj+(gK).toNat* 1] (fun bV U=>(aQ (dZ U ZT) (aQ (dZ U (bh (hm.e 0 rfl))) aS))) I fun a I=>?_;obtain ⟨MV,afJ,h⟩:=Cin.aV h;obtain ⟨WH,ab3,_,rfl,ZV⟩:=h' (hm.e 1 rfl) (hm.d 0 rfl) afJ;refine ix (ep I rfl rfl rfl rfl) (fun bV U=>cv Try.underlying22 Try.sizeOf3 rfl (I.g rfl) (I.g rfl) WH ab3) I rfl rfl fun a I=>?_
           refine fH 3 [1,0,0,1,1] [(3,.J bN),(4,.J c2),(7,.i bg.db),(8,.i bg.N),(10,.i bg.Tag),(11,.i bg.Length),(12,.bool bg.ak),(13,.J gR),(17,.i gK),(105,.bool (!decide (FJ=MV)))] [ct dY,cy dY+(gK).toNat* 1] (fun bV U=>(aQ (dZ U ZV) aS)) I fun a I=>?_;refine wpQuiet_nil ?_;intro w U;have hm:=hm.eD U;clear U;refine il _ _ ?_;refine bH (I.g rfl) h (fun Yv h=>?_) (fun Yv h=>?_)
           · refine aP [] [(6,.bool false)] I fun a I=>?_;refine wp_ret ?_;obtain rfl:=Option.some.inj h;obtain rfl:=Option.some.inj (show some (Cin.Way.out _)=some _ from IP);obtain rfl:=Option.some.inj (show some (_)=some _ from A1);refine bO (aW (aW (bO (aW (aW ?_)))));refine bE Try.results4 I rfl ?_;exact ⟨rfl,(hm.a7 [] rfl rfl).pick trivial⟩
           refine wp_skip ?_;refine ik _ _ ?_;refine c6 [] [(3,.J bN),(4,.J c2),(7,.i bg.db),(8,.i bg.N),(10,.i bg.Tag),(11,.i bg.Length),(12,.bool bg.ak),(13,.J gR),(17,.i (Cin.ay (gK+ 1)))] I fun a I=>?_;exact gT _ _ ⟨Cin.ay (gK+ 1),I.sub ⟨rfl,rfl,rfl,rfl,rfl,rfl,rfl,rfl,rfl,trivial⟩,hm,h⟩
         have h:=Cin.eu Az h;have I:=I.cS 93 rfl Az;refine fH 12 [1,1,1,1,1,1,1,1,1,1,1,1] [(3,.J bN),(4,.J c2),(7,.i bg.db),(8,.i bg.N),(10,.i bg.Tag),(11,.i bg.Length),(12,.bool bg.ak),(13,.J gR),(17,.i gK),(105,.bool false)] [] (fun bV U=>aS) I fun a I=>?_;refine wpQuiet_nil ?_;intro w U;have hm:=hm.eD U;clear U;refine il _ _ ?_;refine jK (I.g rfl) rfl ?_;refine wp_skip ?_;refine ik _ _ ?_
         refine c6 [] [(3,.J bN),(4,.J c2),(7,.i bg.db),(8,.i bg.N),(10,.i bg.Tag),(11,.i bg.Length),(12,.bool bg.ak),(13,.J gR),(17,.i (Cin.ay (gK+ 1)))] I fun a I=>?_;exact gT _ _ ⟨Cin.ay (gK+ 1),I.sub ⟨rfl,rfl,rfl,rfl,rfl,rfl,rfl,rfl,rfl,trivial⟩,hm,h⟩
       refine wp_exit ?_;refine b9 (b9 (dF ?_));exact f_ _ _ ⟨I.sub ⟨rfl,rfl,rfl,rfl,rfl,trivial⟩,hm,(Option.some.inj h).symm⟩
     rintro a w ⟨I,hm,bf⟩;subst Ks;have h:=IP;clear IP;dsimp only [Cin.kX] at h;exact dk _ _ ⟨I.sub ⟨rfl,rfl,rfl,rfl,rfl,trivial⟩,hm,(Option.some.inj h).symm⟩
   refine wp_skip ?_;exact dk _ _ ⟨I.sub ⟨rfl,rfl,rfl,rfl,rfl,trivial⟩,hm,(Option.some.inj h).symm⟩
 rintro a w ⟨I,hm,bf⟩;subst Q1;have h:=A1;clear A1;dsimp only [Cin.fm] at h;refine wp_seq_k fun K iN=>?_;refine a5 ?_;refine bj 5 [0,0,1,0] [(3,.J bN),(4,.J c2),(11,.i bg.Length),(107,.agg #[.slice aj h_.Words.length ar,.i h_.ai,.i h_.ak,.i h_.aB,.i h_.aA,.slice aJ h_.al.length aO,.i h_.Next]),(108,.agg #[.slice a8 ah.aK.length ba,.slice b0 ah.aI.length b1,.slice bP ah.Fields.length bR,.slice cA ah.Names.length cB,.slice cw ah.aH.length cx]),(109,.i bg.Tag),(110,.i bg.Length),(111,.bool bg.ak)] [c2,0,bN,0] (aQ (bh (hm.e 5 rfl)) (aQ (bh (hm.e 4 rfl)) aS)) I fun a I=>?_;obtain ⟨cH,aea,h⟩:=Cin.aV h
 have hc:=hm;refine b4 (vs:=[.agg #[.slice aj h_.Words.length ar,.i h_.ai,.i h_.ak,.i h_.aB,.i h_.aA,.slice aJ h_.al.length aO,.i h_.Next],.agg #[.slice a8 ah.aK.length ba,.slice b0 ah.aI.length b1,.slice bP ah.Fields.length bR,.slice cA ah.Names.length cB,.slice cw ah.aH.length cx],.i bg.Tag,.i bg.Length,.bool bg.ak]) (av rfl) rfl Try.call11 ⟨(I.g rfl),(I.g rfl),(I.g rfl),(I.g rfl),(I.g rfl),trivial⟩ (OX ((hc.into 0).pick ⟨⟨2,rfl⟩,⟨3,rfl⟩,⟨4,rfl⟩,⟨5,rfl⟩,⟨6,rfl⟩,⟨7,rfl⟩,⟨8,rfl⟩,trivial⟩) aea) I rfl rfl ?_;rintro _ w ⟨oW,o9,FX,oX,o_,FY,rfl,ad⟩;refine ⟨_,rfl,?_⟩;intro a I;have U:aX [] _ w:=ad.ev;have hm:=hc.back 0 ad
 dsimp only [List.drop,List.cons_append,List.nil_append,HAppend.hAppend,Append.append,List.append] at hm;clear ad hc;clear U;refine aN 4 [] [(3,.J bN),(4,.J c2),(11,.i bg.Length),(113,.agg #[.slice oW cH.1.Words.length o9,.i cH.1.ai,.i cH.1.ak,.i cH.1.aB,.i cH.1.aA,.slice oX cH.1.al.length o_,.i cH.1.Next]),(114,.i cH.2.1),(115,.i cH.2.2)] I fun a I=>?_;refine c5 (cs:=[.slice none 0 0,.i 0,.i 0,.i 0,.i 0,.slice none 0 0,.i 0]) (av rfl) (e3 Try.zeroValue24 rfl rfl) I hm rfl rfl ?_;intro a nV w U I hm;clear U
 refine c1 (vs:=[.slice oW cH.1.Words.length o9,.i cH.1.ai,.i cH.1.ak,.i cH.1.aB,.i cH.1.aA,.slice oX cH.1.al.length o_,.i cH.1.Next]) 0 hm rfl (av rfl) rfl Try.sizeOf24 rfl rfl rfl rfl (I.g rfl) (I.g rfl) rfl ?_;intro w hm;simp only [List.set,lay,List.drop,List.length,List.cons_append,List.nil_append] at hm;refine aN 2 [] [(3,.J bN),(4,.J c2),(11,.i bg.Length),(14,.i cH.2.2),(18,.J nV),(19,.i cH.2.1)] I fun a I=>wpList_nil (iN _ _ ?_);refine wp_seq_k fun K jP=>?_;refine wp_seq_k fun K k1=>?_
 refine c6 [] [(3,.J bN),(4,.J c2),(11,.i bg.Length),(18,.J nV),(19,.i cH.2.1),(117,.bool (!decide (cH.2.2 = 0)))] I fun a I=>k1 _ _ ?_;refine bH (I.g rfl) h (fun YB h=>?_) (fun YB h=>?_)
 · refine aP [] [(6,.bool (decide (cH.2.1 = 0)))] I fun a I=>?_;refine wp_ret ?_;obtain rfl:=Option.some.inj h;refine aW ?_;refine bE Try.results4 I rfl ?_;exact ⟨rfl,(hm.a7 [] rfl rfl).pick trivial⟩
 refine wp_skip ?_;refine jP _ _ ?_;refine wp_seq_k fun K k2=>?_;refine a5 ?_;refine bj 3 [0,0,1,0] [(3,.J bN),(4,.J c2),(11,.i bg.Length),(18,.J nV),(121,.agg #[.slice oW cH.1.Words.length o9,.i cH.1.ai,.i cH.1.ak,.i cH.1.aB,.i cH.1.aA,.slice oX cH.1.al.length o_,.i cH.1.Next]),(122,.agg #[.slice a8 ah.aK.length ba,.slice b0 ah.aI.length b1,.slice bP ah.Fields.length bR,.slice cA ah.Names.length cB,.slice cw ah.aH.length cx]),(123,.i cH.2.1)] [c2,0,nV,0] (aQ (bh (hm.e 0 rfl)) (aQ (bh (hm.e 7 rfl)) aS)) I fun a I=>?_;obtain ⟨gf,aec,h⟩:=Cin.aV h;have hc:=hm
 have ag:=hc.freeze 1 0 rfl rfl;dsimp only [List.eraseIdx] at ag;have ag:=ag.freeze 1 2 rfl rfl;dsimp only [List.eraseIdx] at ag;refine b4 (vs:=[.agg #[.slice oW cH.1.Words.length o9,.i cH.1.ai,.i cH.1.ak,.i cH.1.aB,.i cH.1.aA,.slice oX cH.1.al.length o_,.i cH.1.Next],.agg #[.slice a8 ah.aK.length ba,.slice b0 ah.aI.length b1,.slice bP ah.Fields.length bR,.slice cA ah.Names.length cB,.slice cw ah.aH.length cx],.i cH.2.1]) (av rfl) rfl Try.call12 ⟨(I.g rfl),(I.g rfl),(I.g rfl),trivial⟩ (Uj ((ag.into 0).pick ⟨⟨1,rfl⟩,⟨0,rfl⟩,⟨8,rfl⟩,⟨9,rfl⟩,⟨10,rfl⟩,⟨11,rfl⟩,⟨12,rfl⟩,trivial⟩) aec) I rfl rfl ?_;rintro _ w ⟨j7,lF,pT,rfl,ad⟩;refine ⟨_,rfl,?_⟩;intro a I;have U:aX [] _ w:=ad.ev
 have hm:=hc.fL 0 (by exact ⟨lv (fun _ _ _ _ _ _ h=>h),trivial⟩) ad;dsimp only [List.drop,List.cons_append,List.nil_append,HAppend.hAppend,Append.append,List.append] at hm;clear ad hc ag;clear U;refine aN 5 [] [(3,.J bN),(4,.J c2),(11,.i bg.Length),(14,.i gf.2),(18,.J nV),(20,.slice j7 gf.1.length lF)] I fun a I=>wpList_nil (k2 _ _ ?_);refine wp_seq_k fun K qu=>?_;refine wp_seq_k fun K mY=>?_;refine a5 ?_
 refine aN 9 [0,0,0,0,0] [(3,.J bN),(4,.J c2),(11,.i bg.Length),(18,.J nV),(20,.slice j7 gf.1.length lF),(135,.bool ((!decide (gf.2 = 0)) || (!decide ((gf.1.length:Int)=bg.Length))))] I fun a I=>?_;rcases Bool.eq_false_or_eq_true ((!decide (gf.2 = 0)) || (!decide ((gf.1.length:Int)=bg.Length))) with AC | AC
 · have h:=Cin.ew AC h;have I:=I.cS 135 rfl AC;refine aN 13 [1,1,1,1,1,1,1,1,1,1,1,1] [(11,.i bg.Length),(20,.slice j7 gf.1.length lF),(148,.bool true)] I fun a I=>wpList_nil (mY _ _ ?_);refine ft (I.g rfl) rfl ?_;refine aP [] [(6,.bool false)] I fun a I=>?_;refine wp_ret ?_;obtain rfl:=Option.some.inj h;refine aW ?_;refine bE Try.results4 I rfl ?_;exact ⟨rfl,(hm.a7 [] rfl rfl).pick trivial⟩
 have h:=Cin.eu AC h;have I:=I.cS 135 rfl AC;refine bj 2 [1,0,0,1,1,0] [(3,.J bN),(11,.i bg.Length),(18,.J nV),(20,.slice j7 gf.1.length lF),(135,.bool false),(136,.agg #[.slice oW cH.1.Words.length o9,.i cH.1.ai,.i cH.1.ak,.i cH.1.aB,.i cH.1.aA,.slice oX cH.1.al.length o_,.i cH.1.Next]),(137,.agg #[.slice a8 ah.aK.length ba,.slice b0 ah.aI.length b1,.slice bP ah.Fields.length bR,.slice cA ah.Names.length cB,.slice cw ah.aH.length cx])] [c2,0,nV,0] (aQ (bh (hm.e 1 rfl)) (aQ (bh (hm.e 8 rfl)) aS)) I fun a I=>?_;obtain ⟨LY,aee,h⟩:=Cin.aV h;have hc:=hm;have ag:=hc.freeze 2 1 rfl rfl
 dsimp only [List.eraseIdx] at ag;have ag:=ag.freeze 2 3 rfl rfl;dsimp only [List.eraseIdx] at ag;refine b4 (vs:=[.agg #[.slice oW cH.1.Words.length o9,.i cH.1.ai,.i cH.1.ak,.i cH.1.aB,.i cH.1.aA,.slice oX cH.1.al.length o_,.i cH.1.Next],.agg #[.slice a8 ah.aK.length ba,.slice b0 ah.aI.length b1,.slice bP ah.Fields.length bR,.slice cA ah.Names.length cB,.slice cw ah.aH.length cx]]) (ep I rfl rfl rfl rfl) rfl Try.call10 ⟨(I.g rfl),(I.g rfl),trivial⟩ (OV ((ag.into 0).pick ⟨⟨1,rfl⟩,⟨0,rfl⟩,⟨9,rfl⟩,⟨10,rfl⟩,⟨11,rfl⟩,⟨12,rfl⟩,⟨13,rfl⟩,trivial⟩) aee) I rfl rfl ?_;rintro _ w ⟨rfl,ad⟩;refine ⟨_,rfl,?_⟩;intro a I;have U:aX [] _ w:=ad.ev;have hm:=hc.fL 0 (by exact trivial) ad
 dsimp only [List.drop,List.cons_append,List.nil_append,HAppend.hAppend,Append.append,List.append] at hm;clear ad hc ag;clear U;refine bj 10 [1,1,0,0,0,6,0,0,1,6,0,0,0] [(11,.i bg.Length),(20,.slice j7 gf.1.length lF),(148,.bool ((!decide (LY= 0)) || (!decide (cH.1.Next=(Cin.ay (h_.Next+ 1))))))] [bN,6,nV,6] (aQ (bh (hm.e 1 rfl)) (aQ (bh (hm.e 9 rfl)) aS)) I fun a I=>wpList_nil (mY _ _ ?_);refine bH (I.g rfl) h (fun YC h=>?_) (fun YC h=>?_)
 · refine aP [] [(6,.bool false)] I fun a I=>?_;refine wp_ret ?_;obtain rfl:=Option.some.inj h;refine aW ?_;refine bE Try.results4 I rfl ?_;exact ⟨rfl,(hm.a7 [] rfl rfl).pick trivial⟩
 refine wp_skip ?_;refine qu _ _ ?_;refine wp_seq_k fun K m0=>?_;refine aP [] [(11,.i bg.Length),(20,.slice j7 gf.1.length lF),(21,.i 0)] I fun a I=>?_;obtain ⟨KD,h,I2⟩:=Cin.fA h
 refine dj (fun a w=>Fr ⟨159,[]⟩ [] a/\aD W aR X w [aw.row 3 1 (.slice j7 gf.1.length lF) gf.1 pT,aw.br nV 24 [.slice oW cH.1.Words.length o9,.i cH.1.ai,.i cH.1.ak,.i cH.1.aB,.i cH.1.aA,.slice oX cH.1.al.length o_,.i cH.1.Next],aw.row 3 1 (.slice oW cH.1.Words.length o9) cH.1.Words FX,aw.row 3 1 (.slice oX cH.1.al.length o_) cH.1.al FY,aw.br gR 24 [.slice dY bp.1.Words.length ej,.i bp.1.ai,.i bp.1.ak,.i bp.1.aB,.i bp.1.aA,.slice fT bp.1.al.length fU,.i bp.1.Next],aw.row 3 1 (.slice dY bp.1.Words.length ej) bp.1.Words oS,aw.row 3 1 (.slice fT bp.1.al.length fU) bp.1.al mS,aw.br cU 38 [.i bg.db,.i bg.N,.i bg.Value,.i bg.Tag,.i bg.Length,.bool bg.ak],aw.br c2 36 [.slice a8 ah.aK.length ba,.slice b0 ah.aI.length b1,.slice bP ah.Fields.length bR,.slice cA ah.Names.length cB,.slice cw ah.aH.length cx],aw.br bN 24 [.slice aj h_.Words.length ar,.i h_.ai,.i h_.ak,.i h_.aB,.i h_.aA,.slice aJ h_.al.length aO,.i h_.Next]] [ap.rows (ax .i64) pT gf.1,ap.rows (ax .i64) FX cH.1.Words,ap.rows (ax .i64) FY cH.1.al,ap.rows (ax .i64) oS bp.1.Words,ap.rows (ax .i64) mS bp.1.al,aa (ax .i64) aj ar h_.Words,aa (ax .i64) aJ aO h_.al,aa Cin.bL a8 ba ah.aK,aa (ax .i64) b0 b1 ah.aI,aa (aU Cin.bJ) bP bR ah.Fields,aa (aU bZ) cA cB ah.Names,aa (aU Cin.cz) cw cx ah.aH]/\KD=(.go ())) (fun K vb=>?_) ?_
 · refine dV (fun (dd:Nat) a w=>∃ (kt:Int),Fr ⟨159,[]⟩ [(11,.i bg.Length),(20,.slice j7 gf.1.length lF),(21,.i kt)] a/\aD W aR X w [aw.row 3 1 (.slice j7 gf.1.length lF) gf.1 pT,aw.br nV 24 [.slice oW cH.1.Words.length o9,.i cH.1.ai,.i cH.1.ak,.i cH.1.aB,.i cH.1.aA,.slice oX cH.1.al.length o_,.i cH.1.Next],aw.row 3 1 (.slice oW cH.1.Words.length o9) cH.1.Words FX,aw.row 3 1 (.slice oX cH.1.al.length o_) cH.1.al FY,aw.br gR 24 [.slice dY bp.1.Words.length ej,.i bp.1.ai,.i bp.1.ak,.i bp.1.aB,.i bp.1.aA,.slice fT bp.1.al.length fU,.i bp.1.Next],aw.row 3 1 (.slice dY bp.1.Words.length ej) bp.1.Words oS,aw.row 3 1 (.slice fT bp.1.al.length fU) bp.1.al mS,aw.br cU 38 [.i bg.db,.i bg.N,.i bg.Value,.i bg.Tag,.i bg.Length,.bool bg.ak],aw.br c2 36 [.slice a8 ah.aK.length ba,.slice b0 ah.aI.length b1,.slice bP ah.Fields.length bR,.slice cA ah.Names.length cB,.slice cw ah.aH.length cx],aw.br bN 24 [.slice aj h_.Words.length ar,.i h_.ai,.i h_.ak,.i h_.aB,.i h_.aA,.slice aJ h_.al.length aO,.i h_.Next]] [ap.rows (ax .i64) pT gf.1,ap.rows (ax .i64) FX cH.1.Words,ap.rows (ax .i64) FY cH.1.al,ap.rows (ax .i64) oS bp.1.Words,ap.rows (ax .i64) mS bp.1.al,aa (ax .i64) aj ar h_.Words,aa (ax .i64) aJ aO h_.al,aa Cin.bL a8 ba ah.aK,aa (ax .i64) b0 b1 ah.aI,aa (aU Cin.bJ) bP bR ah.Fields,aa (aU bZ) cA cB ah.Names,aa (aU Cin.cz) cw cx ah.aH]/\Cin.p7 bg gf dd kt=some KD) F ⟨0,I.sub ⟨rfl,rfl,rfl,trivial⟩,hm,h⟩ ?_ ?_
   · rintro a w ⟨kt,I,hm,h⟩;exact absurd h (by simp [Cin.p7])
   rintro dd a w ⟨kt,I,hm,h⟩ K sX;rw [Cin.p7] at h;refine wp_seq_k fun K qv=>?_;refine aP [] [(11,.i bg.Length),(20,.slice j7 gf.1.length lF),(21,.i kt),(151,.bool (decide (kt <bg.Length)))] I fun a I=>?_;refine bH (I.g rfl) h (fun Ia h=>?_) (fun Ia h=>?_)
   · refine wp_skip ?_;refine qv _ _ ?_;refine wp_seq_k fun K nX=>?_;refine wp_block ?_;refine wp_seq_k fun K vd=>?_;refine a5 ?_;refine aN 2 [] [(11,.i bg.Length),(20,.slice j7 gf.1.length lF),(21,.i kt),(154,.slice j7 gf.1.length lF),(155,.i kt)] I fun a I=>?_;obtain ⟨lA,Kb,h⟩:=Cin.aV h;obtain ⟨HY,IC,_,rfl,Il⟩:=h' (hm.e 0 rfl) (hm.d 0 rfl) Kb;refine bW (av rfl) (cv Try.underlying22 Try.sizeOf3 rfl (I.g rfl) (I.g rfl) HY IC) I rfl rfl fun a I=>?_;refine bj 2 [0,0] [(11,.i bg.Length),(20,.slice j7 gf.1.length lF),(21,.i kt),(158,.bool (!decide (lA= 0)))] [ct j7,cy j7+(kt).toNat* 1] (aQ Il aS) I fun a I=>wpList_nil (vd _ _ ?_)
     refine bH (I.g rfl) h (fun YH h=>?_) (fun YH h=>?_)
     · refine aP [] [(6,.bool false)] I fun a I=>?_;refine wp_ret ?_;obtain rfl:=Option.some.inj h;obtain rfl:=Option.some.inj (show some (_)=some _ from I2);refine bO (aW (aW (bO (aW (aW ?_)))));refine bE Try.results4 I rfl ?_;exact ⟨rfl,(hm.a7 [] rfl rfl).pick trivial⟩
     refine wp_skip ?_;refine nX _ _ ?_;refine c6 [] [(11,.i bg.Length),(20,.slice j7 gf.1.length lF),(21,.i (Cin.ay (kt+ 1)))] I fun a I=>?_;exact sX _ _ ⟨Cin.ay (kt+ 1),I.sub ⟨rfl,rfl,rfl,trivial⟩,hm,h⟩
   refine wp_exit ?_;refine b9 (b9 (dF ?_));exact vb _ _ ⟨I.sub trivial,hm,(Option.some.inj h).symm⟩
 rintro a w ⟨I,hm,bf⟩;subst KD;have h:=I2;clear I2;dsimp only [Cin.fm] at h;refine m0 _ _ ?_;refine aP [] [(6,.bool true)] I fun a I=>?_;refine wp_ret ?_;obtain rfl:=Option.some.inj h;refine bE Try.results4 I rfl ?_;exact ⟨rfl,(hm.a7 [] rfl rfl).pick trivial⟩
end Go.Proofs.Ytpkhpagplommoaa
namespace Cin
def sm (s_:List UInt8):Nat->Int->Option (Way (Bool) (Unit))
 | 0,_=>none
 | bq+ 1,Lt=>
   cond (decide (Lt <(s_.length:Int))) ((idx s_ Lt).bind fun uP=>
   cond (!(((((decide (97 <=(uP.toNat:Int))) && (decide ((uP.toNat:Int)<= 122))) || ((decide (65 <=(uP.toNat:Int))) && (decide ((uP.toNat:Int)<= 90)))) || ((decide (48 <=(uP.toNat:Int))) && (decide ((uP.toNat:Int)<= 57)))) || (decide ((uP.toNat:Int)= 95)))) (some (.out false)) (sm s_ bq (ay (Lt+ 1)))) (some (.go ()))
def nI (F:Nat) (s_:List UInt8):Option (Bool):=
 dp (α:=Unit) (sm s_ F 0) fun (_:Unit)=>
 some ((decide (1 <=(s_.length:Int))) && (decide ((s_.length:Int)<= 20)))
def uK (F:Nat) (ah:Kind):Option (Bool):=
 cond ((decide (ah.Kind= 1)) || (decide (ah.Kind= 2))) (some (decide (ah.aG= []))) (cond ((decide (ah.Kind= 3)) || (decide (ah.Kind= 4))) ((nI F ah.aG).bind fun jD=>
 some jD) (some false))
def yU (F:Nat) (gC:aG):Nat->Int->Option (Way (Int) (Unit))
 | 0,_=>none
 | dd+ 1,EN=>
   cond (decide (EN <(gC.Fields.length:Int))) ((idx gC.Fields EN).bind fun ak6=>
   (nI F ak6.Name).bind fun ai8=>
   cond (!ai8) (some (.out 1)) ((idx gC.Fields EN).bind fun S5=>
   (uK F (⟨S5.Kind.Kind,S5.Kind.aG⟩:Kind)).bind fun ai9=>
   cond (!ai9) (some (.out 7)) (yU F gC dd (ay (EN+ 1))))) (some (.go ()))
def uM (bs:Int) (lg:Int) (ll:Int):Option (Bool):=
 some ((decide (lg<=bs)) && (decide (bs<=ll)))
def za (F:Nat) (m_:Method):Nat->Int->Option (Way (Int) (Unit))
 | 0,_=>none
 | bq+ 1,LC=>
   cond (decide (LC <(m_.bA.length:Int))) ((idx m_.bA LC).bind fun alm=>
   (uK F alm).bind fun aja=>
   cond (!aja) (some (.out 7)) (za F m_ bq (ay (LC+ 1)))) (some (.go ()))
def zb (F:Nat) (m_:Method):Nat->Int->Option (Way (Int) (Unit))
 | 0,_=>none
 | dd+ 1,Ln=>
   cond (decide (Ln <(m_.bi.length:Int))) ((idx m_.bi Ln).bind fun FI=>
   (nI F FI.aG).bind fun aiY=>
   cond (!aiY) (some (.out 1)) ((uM FI.From 0 200).bind fun ai0=>
   cond (!ai0) (some (.out 3)) ((uM FI.To 0 200).bind fun ai1=>
   cond (!ai1) (some (.out 3)) ((uM FI.db 0 200).bind fun ai2=>
   cond (!ai2) (some (.out 3)) (zb F m_ dd (ay (Ln+ 1))))))) (some (.go ()))
def y' (F:Nat) (m_:Method):Option (Int):=
 (nI F m_.Name).bind fun cY=>
 cond (!cY) (some 1) (cond (((decide (4 <(m_.bA.length:Int))) || (decide (200 <(m_.Code.length:Int)))) || (decide (4 <(m_.bi.length:Int)))) (some 2) ((uM m_.c9 0 10).bind fun g6=>
 cond (!g6) (some 3) ((uM m_.c8 0 10).bind fun lX=>
 cond (!lX) (some 3) (dp (α:=Unit) (za F m_ F 0) fun (_:Unit)=>
 (uK F (⟨m_.Returns.Kind,m_.Returns.aG⟩:Kind)).bind fun mK=>
 cond ((!mK) && ((!decide (m_.Returns.Kind= 0)) || (!decide (m_.Returns.aG= [])))) (some 7) (dp (α:=Unit) (zb F m_ F 0) fun (_:Unit)=>
 some 0)))))
def yV (F:Nat) (gC:aG):Nat->Int->Option (Way (Int) (Unit))
 | 0,_=>none
 | e6+ 1,LA=>
   cond (decide (LA <(gC.aE.length:Int))) ((idx gC.aE LA).bind fun ak7=>
   (y' F ak7).bind fun R2=>
   cond (!decide (R2= 0)) (some (.out R2)) (yV F gC e6 (ay (LA+ 1)))) (some (.go ()))
def yW (F:Nat) (gC:aG):Nat->Int->Option (Way (Int) (Unit))
 | 0,_=>none
 | g3+ 1,EO=>
   cond (decide (EO <(gC.Fields.length:Int))) ((idx gC.Fields EO).bind fun ak8=>
   (nI F ak8.Name).bind fun ai_=>
   cond (!ai_) (some (.out 1)) ((idx gC.Fields EO).bind fun S6=>
   (uK F (⟨S6.Kind.Kind,S6.Kind.aG⟩:Kind)).bind fun ai'=>
   cond (!ai') (some (.out 7)) (yW F gC g3 (ay (EO+ 1))))) (some (.go ()))
def yX (F:Nat) (gC:aG):Nat->Int->Option (Way (Int) (Unit))
 | 0,_=>none
 | pA+ 1,LB=>
   cond (decide (LB <(gC.aE.length:Int))) ((idx gC.aE LB).bind fun ak9=>
   (y' F ak9).bind fun R3=>
   cond (!decide (R3= 0)) (some (.out R3)) (yX F gC pA (ay (LB+ 1)))) (some (.go ()))
def yT (F:Nat) (a6:List aG):Nat->Int->Option (Way (Int) (Unit))
 | 0,_=>none
 | bq+ 1,Lv=>
   cond (decide (Lv <(a6.length:Int))) (dG (α:=Unit) ((idx a6 Lv).bind fun gC=>
   (nI F gC.Name).bind fun ai6=>
   cond (!ai6) (some (.out 1)) (cond (!decide (gC.bY= [])) ((nI F gC.bY).bind fun ai7=>
   cond (!ai7) (some (.out 1)) (cond ((decide (6 <(gC.Fields.length:Int))) || (decide (8 <(gC.aE.length:Int)))) (some (.out 2)) (dG (α:=Unit) (yU F gC F 0) fun (_:Unit)=>
   dG (α:=Unit) (yV F gC F 0) fun (_:Unit)=>
   some (.go ())))) (cond ((decide (6 <(gC.Fields.length:Int))) || (decide (8 <(gC.aE.length:Int)))) (some (.out 2)) (dG (α:=Unit) (yW F gC F 0) fun (_:Unit)=>
   dG (α:=Unit) (yX F gC F 0) fun (_:Unit)=>
   some (.go ()))))) fun (_:Unit)=>
   yT F a6 bq (ay (Lv+ 1))) (some (.go ()))
def GO (F:Nat) (a6:List aG):Option (Int):=
 cond (decide (10 <(a6.length:Int))) (some 2) (dp (α:=Unit) (yT F a6 F 0) fun (_:Unit)=>
 some 0)
def zc (a6:List aG) (EU:List UInt8):Nat->Int->Option (Way (Int) (Unit))
 | 0,_=>none
 | bq+ 1,EP=>
   cond (decide (EP <(a6.length:Int))) ((idx a6 EP).bind fun aln=>
   cond (decide (aln.Name=EU)) (some (.out EP)) (zc a6 EU bq (ay (EP+ 1)))) (some (.go ()))
def nH (F:Nat) (a6:List aG) (EU:List UInt8):Option (Int):=
 dp (α:=Unit) (zc a6 EU F 0) fun (_:Unit)=>
 some (-1)
def uI (F:Nat) (a6:List aG):Nat->Int->Option (Way (Int) (Unit))
 | 0,_=>none
 | bq+ 1,ea=>
   cond (decide (ea <(a6.length:Int))) ((idx a6 ea).bind fun alv=>
   (nH F a6 alv.Name).bind fun aiM=>
   cond (!decide (aiM=ea)) (some (.out 6)) (uI F a6 bq (ay (ea+ 1)))) (some (.go ()))
def y5 (a6:List aG):Nat->Int->Option (Way (Int) (Unit))
 | 0,_=>none
 | dd+ 1,EK=>
   cond (decide (EK <(a6.length:Int))) ((idx a6 EK).bind fun akL=>
   (idx a6 EK).bind fun akO=>
   cond (!((decide (akL.Name= [79,98,106,101,99,116])) == (decide (akO.bY= [])))) (some (.out 4)) (y5 a6 dd (ay (EK+ 1)))) (some (.go ()))
def wM (F:Nat) (a6:List aG):Nat->Int->Option (Way (Int) (Unit))
 | 0,_=>none
 | e6+ 1,BO=>
   cond (decide (BO <(a6.length:Int))) ((idx a6 BO).bind fun ak0=>
   cond (!decide (ak0.bY= [])) ((idx a6 BO).bind fun ak3=>
   (nH F a6 ak3.bY).bind fun ai4=>
   cond (decide (ai4 < 0)) (some (.out 5)) (wM F a6 e6 (ay (BO+ 1)))) (wM F a6 e6 (ay (BO+ 1)))) (some (.go ()))
def zr (F:Nat) (a6:List aG):Nat->Int->(List Int)->Option (Way (List Int) (List Int))
 | 0,_,_=>none
 | bq+ 1,Lm,K5=>
   cond (decide (0 <=Lm)) (cond (decide ((a6.length:Int) <(K5.length:Int))) (some (.out [])) ((ei 8 [Lm] K5).bind fun Rq=>
   (idx a6 Lm).bind fun S0=>
   (nH F a6 S0.bY).bind fun aiZ=>
   zr F a6 bq aiZ Rq)) (some (.go K5))
def wQ (F:Nat) (a6:List aG) (bs:Int):Option (List Int):=
 dp (α:=List Int) (zr F a6 F bs []) fun (ahf:List Int)=>
 some ahf
def y6 (F:Nat) (a6:List aG):Nat->Int->Option (Way (Int) (Unit))
 | 0,_=>none
 | g3+ 1,Ly=>
   cond (decide (Ly <(a6.length:Int))) ((wQ F a6 Ly).bind fun ai5=>
   cond (decide ((ai5.length:Int)= 0)) (some (.out 4)) (y6 F a6 g3 (ay (Ly+ 1)))) (some (.go ()))
def sk (a6:List aG) (hT:List Int):Nat->(List Field)->Int->Option (List Field)
 | 0,_,_=>none
 | bq+ 1,Rr,Lu=>
   cond (decide (Lu <(hT.length:Int))) ((idx hT Lu).bind fun akN=>
   (idx a6 akN).bind fun akP=>
   (ei 40 Rr akP.Fields).bind fun ahs=>
   sk a6 hT bq ahs (ay (Lu+ 1))) (some Rr)
def yS (F:Nat) (a6:List aG) (bs:Int):Option (List Field):=
 (wQ F a6 bs).bind fun hT=>
 Option.bind (α:=List Field) (sk a6 hT F [] 0) fun (ahr:List Field)=>
 some ahr
def wP (F:Nat) (vN:List Kind) (a6:List aG):Nat->Int->Option (Way (Bool) (Unit))
 | 0,_=>none
 | bq+ 1,BQ=>
   cond (decide (BQ <(vN.length:Int))) ((idx vN BQ).bind fun alw=>
   cond (!decide (alw.aG= [])) ((idx vN BQ).bind fun akB=>
   (nH F a6 akB.aG).bind fun aiO=>
   cond (decide (aiO < 0)) (some (.out false)) (wP F vN a6 bq (ay (BQ+ 1)))) (wP F vN a6 bq (ay (BQ+ 1)))) (some (.go ()))
def zq (F:Nat) (a6:List aG) (vN:List Kind):Option (Bool):=
 dp (α:=Unit) (wP F vN a6 F 0) fun (_:Unit)=>
 some true
def y7 (F:Nat) (a6:List aG) (nl:Int):Nat->Int->Option (Way (Int) (Unit))
 | 0,_=>none
 | tu+ 1,Lp=>
   (idx a6 nl).bind fun akC=>
   cond (decide (Lp <(akC.Fields.length:Int))) ((idx a6 nl).bind fun akD=>
   (idx akD.Fields Lp).bind fun SZ=>
   (zq F a6 [(⟨SZ.Kind.Kind,SZ.Kind.aG⟩:Kind)]).bind fun aiS=>
   cond (!aiS) (some (.out 5)) (y7 F a6 nl tu (ay (Lp+ 1)))) (some (.go ()))
def y9 (F:Nat) (a6:List aG) (uk:Method):Nat->Int->Option (Way (Int) (Unit))
 | 0,_=>none
 | ag_+ 1,Lr=>
   cond (decide (Lr <(uk.bi.length:Int))) ((idx uk.bi Lr).bind fun akJ=>
   (nH F a6 akJ.aG).bind fun aiX=>
   cond (decide (aiX < 0)) (some (.out 5)) (y9 F a6 uk ag_ (ay (Lr+ 1)))) (some (.go ()))
def y8 (F:Nat) (a6:List aG) (nl:Int):Nat->Int->Option (Way (Int) (Unit))
 | 0,_=>none
 | ag9+ 1,Lq=>
   (idx a6 nl).bind fun akH=>
   cond (decide (Lq <(akH.aE.length:Int))) (dG (α:=Unit) ((idx a6 nl).bind fun akI=>
   (idx akI.aE Lq).bind fun uk=>
   (zq F a6 uk.bA).bind fun aiV=>
   cond (!aiV) (some (.out 5)) ((zq F a6 [(⟨uk.Returns.Kind,uk.Returns.aG⟩:Kind)]).bind fun aiW=>
   cond (!aiW) (some (.out 5)) (dG (α:=Unit) (y9 F a6 uk F 0) fun (_:Unit)=>
   some (.go ())))) fun (_:Unit)=>
   y8 F a6 nl ag9 (ay (Lq+ 1))) (some (.go ()))
def wN (F:Nat) (a6:List aG):Nat->Int->Option (Way (Int) (Unit))
 | 0,_=>none
 | pA+ 1,nl=>
   cond (decide (nl <(a6.length:Int))) (dG (α:=Unit) (dG (α:=Unit) (y7 F a6 nl F 0) fun (_:Unit)=>
   dG (α:=Unit) (y8 F a6 nl F 0) fun (_:Unit)=>
   some (.go ())) fun (_:Unit)=>
   wN F a6 pA (ay (nl+ 1))) (some (.go ()))
def yZ (rI:List Field) (vV:Int):Nat->Int->Option (Way (Int) (Unit))
 | 0,_=>none
 | ag2+ 1,Lw=>
   cond (decide (Lw <vV)) ((idx rI Lw).bind fun akY=>
   (idx rI vV).bind fun akZ=>
   cond (decide (akY.Name=akZ.Name)) (some (.out 6)) (yZ rI vV ag2 (ay (Lw+ 1)))) (some (.go ()))
def yY (F:Nat) (rI:List Field):Nat->Int->Option (Way (Int) (Unit))
 | 0,_=>none
 | ag1+ 1,vV=>
   cond (decide (vV <(rI.length:Int))) (dG (α:=Unit) (dG (α:=Unit) (yZ rI vV F 0) fun (_:Unit)=>
   some (.go ())) fun (_:Unit)=>
   yY F rI ag1 (ay (vV+ 1))) (some (.go ()))
def y1 (rX:aG) (vW:Int):Nat->Int->Option (Way (Int) (Unit))
 | 0,_=>none
 | ag4+ 1,Lx=>
   cond (decide (Lx <vW)) ((idx rX.aE Lx).bind fun ak1=>
   (idx rX.aE vW).bind fun ak2=>
   cond (decide (ak1.Name=ak2.Name)) (some (.out 6)) (y1 rX vW ag4 (ay (Lx+ 1)))) (some (.go ()))
def y0 (F:Nat) (rX:aG):Nat->Int->Option (Way (Int) (Unit))
 | 0,_=>none
 | ag3+ 1,vW=>
   cond (decide (vW <(rX.aE.length:Int))) (dG (α:=Unit) (dG (α:=Unit) (y1 rX vW F 0) fun (_:Unit)=>
   some (.go ())) fun (_:Unit)=>
   y0 F rX ag3 (ay (vW+ 1))) (some (.go ()))
def y_ (F:Nat) (a6:List aG):Nat->Int->Option (Way (Int) (Unit))
 | 0,_=>none
 | ag'+ 1,EL=>
   cond (decide (EL <(a6.length:Int))) (dG (α:=Unit) ((yS F a6 EL).bind fun rI=>
   dG (α:=Unit) (yY F rI F 0) fun (_:Unit)=>
   (idx a6 EL).bind fun rX=>
   dG (α:=Unit) (y0 F rX F 0) fun (_:Unit)=>
   some (.go ())) fun (_:Unit)=>
   y_ F a6 ag' (ay (EL+ 1))) (some (.go ()))
def o6 (a_:List Kind) (b_:List Kind):Nat->Int->Option (Way (Bool) (Unit))
 | 0,_=>none
 | bq+ 1,b6=>
   cond (decide (b6 <(a_.length:Int))) ((idx a_ b6).bind fun fi=>
   (idx b_ b6).bind fun gq=>
   cond (!decide (fi=gq)) (some (.out false)) (o6 a_ b_ bq (ay (b6+ 1)))) (some (.go ()))
def uL (F:Nat) (a_:List Kind) (b_:List Kind):Option (Bool):=
 cond (!decide ((a_.length:Int)=(b_.length:Int))) (some false) (dp (α:=Unit) (o6 a_ b_ F 0) fun (_:Unit)=>
 some true)
def wL (F:Nat) (a6:List aG) (lq:Int) (mL:List Int) (oz:Int) (vY:Int):Nat->Int->Option (Way (Int) (Unit))
 | 0,_=>none
 | Rk+ 1,ET=>
   (idx mL oz).bind fun alp=>
   (idx a6 alp).bind fun alq=>
   cond (decide (ET <(alq.aE.length:Int))) ((idx a6 lq).bind fun alr=>
   (idx alr.aE vY).bind fun Cv=>
   (idx mL oz).bind fun als=>
   (idx a6 als).bind fun alu=>
   (idx alu.aE ET).bind fun Cw=>
   cond (decide (Cv.Name=Cw.Name)) (cond (Cv.Static || Cw.Static) (some (.out 4)) ((uL F Cv.bA Cw.bA).bind fun ajb=>
   cond (!ajb) (some (.out 4)) (cond (!decide ((⟨Cv.Returns.Kind,Cv.Returns.aG⟩:Kind)=(⟨Cw.Returns.Kind,Cw.Returns.aG⟩:Kind))) (some (.out 4)) (wL F a6 lq mL oz vY Rk (ay (ET+ 1)))))) (wL F a6 lq mL oz vY Rk (ay (ET+ 1)))) (some (.go ()))
def y4 (F:Nat) (a6:List aG) (lq:Int) (mL:List Int) (oz:Int):Nat->Int->Option (Way (Int) (Unit))
 | 0,_=>none
 | ag7+ 1,vY=>
   (idx a6 lq).bind fun alo=>
   cond (decide (vY <(alo.aE.length:Int))) (dG (α:=Unit) (dG (α:=Unit) (wL F a6 lq mL oz vY F 0) fun (_:Unit)=>
   some (.go ())) fun (_:Unit)=>
   y4 F a6 lq mL oz ag7 (ay (vY+ 1))) (some (.go ()))
def y3 (F:Nat) (a6:List aG) (lq:Int) (mL:List Int):Nat->Int->Option (Way (Int) (Unit))
 | 0,_=>none
 | ag6+ 1,oz=>
   cond (decide (oz <(ay ((mL.length:Int) - 1)))) (dG (α:=Unit) (dG (α:=Unit) (y4 F a6 lq mL oz F 0) fun (_:Unit)=>
   some (.go ())) fun (_:Unit)=>
   y3 F a6 lq mL ag6 (ay (oz+ 1))) (some (.go ()))
def y2 (F:Nat) (a6:List aG):Nat->Int->Option (Way (Int) (Unit))
 | 0,_=>none
 | ag5+ 1,lq=>
   cond (decide (lq <(a6.length:Int))) (dG (α:=Unit) ((wQ F a6 lq).bind fun mL=>
   dG (α:=Unit) (y3 F a6 lq mL F 0) fun (_:Unit)=>
   some (.go ())) fun (_:Unit)=>
   y2 F a6 ag5 (ay (lq+ 1))) (some (.go ()))
def GQ (F:Nat) (a6:List aG):Option (Int):=
 (GO F a6).bind fun hT=>
 cond (!decide (hT= 0)) (some hT) (dp (α:=Unit) (uI F a6 F 0) fun (_:Unit)=>
 (nH F a6 [79,98,106,101,99,116]).bind fun aiN=>
 cond (decide (aiN < 0)) (some 5) ((nH F a6 [69,114,114,111,114]).bind fun aiP=>
 cond (decide (aiP < 0)) (some 5) (dp (α:=Unit) (y5 a6 F 0) fun (_:Unit)=>
 dp (α:=Unit) (wM F a6 F 0) fun (_:Unit)=>
 dp (α:=Unit) (y6 F a6 F 0) fun (_:Unit)=>
 (nH F a6 [69,114,114,111,114]).bind fun R0=>
 (yS F a6 R0).bind fun R1=>
 (idx a6 R0).bind fun ak4=>
 cond ((!decide (ak4.bY= [79,98,106,101,99,116])) || (decide ((R1.length:Int)= 0))) (some 4) ((idx R1 0).bind fun ak5=>
 cond (!decide (ak5.Kind.Kind= 1)) (some 4) (dp (α:=Unit) (wN F a6 F 0) fun (_:Unit)=>
 dp (α:=Unit) (y_ F a6 F 0) fun (_:Unit)=>
 dp (α:=Unit) (y2 F a6 F 0) fun (_:Unit)=>
 some 0)))))
def wO (q':List (List UInt8)) (Cu:Method):Nat->Int->Option (Int)
 | 0,_=>none
 | e6+ 1,BP=>
   cond (decide (BP <(q'.length:Int))) ((idx q' BP).bind fun alc=>
   cond (!decide (alc=Cu.Name)) (wO q' Cu e6 (ay (BP+ 1))) (some BP)) (some BP)
def zp (F:Nat) (a6:List aG) (hT:List Int) (tK:Int):Nat->(List Target)->(List (List UInt8))->Int->Option ((List Target) × (List (List UInt8)))
 | 0,_,_,_=>none
 | dd+ 1,La,q',EQ=>
   (idx hT tK).bind fun ak_=>
   (idx a6 ak_).bind fun ak'=>
   cond (decide (EQ <(ak'.aE.length:Int))) (Option.bind (α:=(List Target) × (List (List UInt8))) ((idx hT tK).bind fun ala=>
   (idx a6 ala).bind fun alb=>
   (idx alb.aE EQ).bind fun Cu=>
   Option.bind (α:=Int) (wO q' Cu F 0) fun (LD:Int)=>
   Option.bind (α:=(List Target) × (List (List UInt8))) (cond (decide (LD=(q'.length:Int))) ((ei 16 q' [Cu.Name]).bind fun ahC=>
   (ei 16 La [(⟨0,0⟩:Target)]).bind fun ahD=>
   some (ahD,ahC)) (some (La,q'))) fun ((Rx,ahB):(List Target) × (List (List UInt8)))=>
   (idx hT tK).bind fun ald=>
   (idx Rx LD).bind fun anP=>
   (some (Rx.set (LD).toNat (⟨ald,EQ⟩:Target))).bind fun ahE=>
   some (ahE,ahB)) fun ((ahz,ahA):(List Target) × (List (List UInt8)))=>
   zp F a6 hT tK dd ahz ahA (ay (EQ+ 1))) (some (La,q'))
def zo (F:Nat) (a6:List aG) (hT:List Int):Nat->(List Target)->(List (List UInt8))->Int->Option ((List Target) × (List (List UInt8)))
 | 0,_,_,_=>none
 | bq+ 1,Rt,Ru,tK=>
   cond (decide (tK <(hT.length:Int))) (Option.bind (α:=(List Target) × (List (List UInt8))) (Option.bind (α:=(List Target) × (List (List UInt8))) (zp F a6 hT tK F Rt Ru 0) fun ((ahx,ahy):(List Target) × (List (List UInt8)))=>
   some (ahx,ahy)) fun ((ahv,ahw):(List Target) × (List (List UInt8)))=>
   zo F a6 hT bq ahv ahw (ay (tK+ 1))) (some (Rt,Ru))
def GV (F:Nat) (a6:List aG) (bs:Int):Option ((List (List UInt8)) × (List Target)):=
 (wQ F a6 bs).bind fun hT=>
 Option.bind (α:=(List Target) × (List (List UInt8))) (zo F a6 hT F [] [] 0) fun ((aht,ahu):(List Target) × (List (List UInt8)))=>
 some (ahu,aht)
def sn (F:Nat) (a6:List aG):Nat->(List (List Target))->(List (List (List UInt8)))->(List (List Field))->(List Int)->Int->Option (Way (bb × Int) ((List (List Target)) × (List (List (List UInt8))) × (List (List Field)) × (List Int)))
 | 0,_,_,_,_,_=>none
 | bq+ 1,Rm,Rn,Ro,Rp,BN=>
   cond (decide (BN <(a6.length:Int))) ((yS F a6 BN).bind fun RZ=>
   (GV F a6 BN).bind fun LV=>
   cond ((decide (12 <(RZ.length:Int))) || (decide (16 <(LV.1.length:Int)))) (some (.out ((⟨[],[],[],[],[]⟩:bb),2))) ((idx a6 BN).bind fun akE=>
   (nH F a6 akE.bY).bind fun aiU=>
   (ei 8 Rp [aiU]).bind fun ahn=>
   (ei 24 Ro [RZ]).bind fun aho=>
   (ei 24 Rn [LV.1]).bind fun ahp=>
   (ei 24 Rm [LV.2]).bind fun ahq=>
   sn F a6 bq ahq ahp aho ahn (ay (BN+ 1)))) (some (.go (Rm,Rn,Ro,Rp)))
def GR (F:Nat) (a6:List aG):Option (bb × Int):=
 (GQ F a6).bind fun jD=>
 cond (!decide (jD= 0)) (some ((⟨[],[],[],[],[]⟩:bb),jD)) (dp (α:=(List (List Target)) × (List (List (List UInt8))) × (List (List Field)) × (List Int)) (sn F a6 F [] [] [] [] 0) fun ((ahi,ahj,ahk,ahl):(List (List Target)) × (List (List (List UInt8))) × (List (List Field)) × (List Int))=>
 some ((⟨a6,ahl,ahk,ahj,ahi⟩:bb),0))
def zh (a_:List Field) (b_:List Field):Nat->Int->Option (Way (Bool) (Unit))
 | 0,_=>none
 | bq+ 1,b6=>
   cond (decide (b6 <(a_.length:Int))) ((idx a_ b6).bind fun fi=>
   (idx b_ b6).bind fun gq=>
   cond (!decide (fi=gq)) (some (.out false)) (zh a_ b_ bq (ay (b6+ 1)))) (some (.go ()))
def Dj (F:Nat) (a_:List Field) (b_:List Field):Option (Bool):=
 cond (!decide ((a_.length:Int)=(b_.length:Int))) (some false) (dp (α:=Unit) (zh a_ b_ F 0) fun (_:Unit)=>
 some true)
def zg (l5:Method) (mQ:Method):Nat->Int->Option (Way (Bool) (Unit))
 | 0,_=>none
 | e6+ 1,EI=>
   cond (decide (EI <(l5.bi.length:Int))) ((idx l5.bi EI).bind fun akF=>
   (idx mQ.bi EI).bind fun akG=>
   cond (!decide (akF=akG)) (some (.out false)) (zg l5 mQ e6 (ay (EI+ 1)))) (some (.go ()))
def zf (F:Nat) (rW:aG) (ui:aG):Nat->Int->Option (Way (Bool) (Unit))
 | 0,_=>none
 | dd+ 1,EH=>
   cond (decide (EH <(rW.aE.length:Int))) (dG (α:=Unit) ((idx rW.aE EH).bind fun l5=>
   (idx ui.aE EH).bind fun mQ=>
   cond ((!decide (l5.Name=mQ.Name)) || (!(l5.Static == mQ.Static))) (some (.out false)) ((uL F l5.bA mQ.bA).bind fun aiT=>
   cond (!aiT) (some (.out false)) (cond (((((!decide ((⟨l5.Returns.Kind,l5.Returns.aG⟩:Kind)=(⟨mQ.Returns.Kind,mQ.Returns.aG⟩:Kind))) || (!decide (l5.c9=mQ.c9))) || (!decide (l5.c8=mQ.c8))) || (!decide (l5.Code=mQ.Code))) || (!decide ((l5.bi.length:Int)=(mQ.bi.length:Int)))) (some (.out false)) (dG (α:=Unit) (zg l5 mQ F 0) fun (_:Unit)=>
   some (.go ()))))) fun (_:Unit)=>
   zf F rW ui dd (ay (EH+ 1))) (some (.go ()))
def zd (F:Nat) (a_:List aG) (b_:List aG):Nat->Int->Option (Way (Bool) (Unit))
 | 0,_=>none
 | bq+ 1,EG=>
   cond (decide (EG <(a_.length:Int))) (dG (α:=Unit) ((idx a_ EG).bind fun rW=>
   (idx b_ EG).bind fun ui=>
   cond ((!decide (rW.Name=ui.Name)) || (!decide (rW.bY=ui.bY))) (some (.out false)) ((Dj F rW.Fields ui.Fields).bind fun aiR=>
   cond ((!aiR) || (!decide ((rW.aE.length:Int)=(ui.aE.length:Int)))) (some (.out false)) (dG (α:=Unit) (zf F rW ui F 0) fun (_:Unit)=>
   some (.go ())))) fun (_:Unit)=>
   zd F a_ b_ bq (ay (EG+ 1))) (some (.go ()))
def Di (F:Nat) (a_:List aG) (b_:List aG):Option (Bool):=
 cond (!decide ((a_.length:Int)=(b_.length:Int))) (some false) (dp (α:=Unit) (zd F a_ b_ F 0) fun (_:Unit)=>
 some true)
def zi (a_:bb) (b_:bb):Nat->Int->Option (Way (Bool) (Unit))
 | 0,_=>none
 | bq+ 1,ES=>
   cond (decide (ES <(a_.aI.length:Int))) ((idx a_.aI ES).bind fun akA=>
   (idx b_.aI ES).bind fun ww=>
   cond (!decide (akA=ww)) (some (.out false)) (zi a_ b_ bq (ay (ES+ 1)))) (some (.go ()))
def zj (F:Nat) (a_:bb) (b_:bb):Nat->Int->Option (Way (Bool) (Unit))
 | 0,_=>none
 | dd+ 1,EJ=>
   cond (decide (EJ <(a_.Fields.length:Int))) ((idx a_.Fields EJ).bind fun akK=>
   (idx b_.Fields EJ).bind fun akM=>
   (Dj F akK akM).bind fun ai3=>
   cond (!ai3) (some (.out false)) (zj F a_ b_ dd (ay (EJ+ 1)))) (some (.go ()))
def zl (a_:bb) (b_:bb) (pJ:Int):Nat->Int->Option (Way (Bool) (Unit))
 | 0,_=>none
 | g3+ 1,EM=>
   (idx a_.Names pJ).bind fun akT=>
   cond (decide (EM <(akT.length:Int))) ((idx a_.Names pJ).bind fun akU=>
   (idx akU EM).bind fun akV=>
   (idx b_.Names pJ).bind fun akW=>
   (idx akW EM).bind fun akX=>
   cond (!decide (akV=akX)) (some (.out false)) (zl a_ b_ pJ g3 (ay (EM+ 1)))) (some (.go ()))
def zk (F:Nat) (a_:bb) (b_:bb):Nat->Int->Option (Way (Bool) (Unit))
 | 0,_=>none
 | e6+ 1,pJ=>
   cond (decide (pJ <(a_.Names.length:Int))) (dG (α:=Unit) ((idx a_.Names pJ).bind fun akR=>
   (idx b_.Names pJ).bind fun akS=>
   cond (!decide ((akR.length:Int)=(akS.length:Int))) (some (.out false)) (dG (α:=Unit) (zl a_ b_ pJ F 0) fun (_:Unit)=>
   some (.go ()))) fun (_:Unit)=>
   zk F a_ b_ e6 (ay (pJ+ 1))) (some (.go ()))
def zn (a_:bb) (b_:bb) (pK:Int):Nat->Int->Option (Way (Bool) (Unit))
 | 0,_=>none
 | tu+ 1,ER=>
   (idx a_.aH pK).bind fun alg=>
   cond (decide (ER <(alg.length:Int))) ((idx a_.aH pK).bind fun alh=>
   (idx alh ER).bind fun ali=>
   (idx b_.aH pK).bind fun alj=>
   (idx alj ER).bind fun alk=>
   cond (!decide (ali=alk)) (some (.out false)) (zn a_ b_ pK tu (ay (ER+ 1)))) (some (.go ()))
def zm (F:Nat) (a_:bb) (b_:bb):Nat->Int->Option (Way (Bool) (Unit))
 | 0,_=>none
 | pA+ 1,pK=>
   cond (decide (pK <(a_.aH.length:Int))) (dG (α:=Unit) ((idx a_.aH pK).bind fun ale=>
   (idx b_.aH pK).bind fun alf=>
   cond (!decide ((ale.length:Int)=(alf.length:Int))) (some (.out false)) (dG (α:=Unit) (zn a_ b_ pK F 0) fun (_:Unit)=>
   some (.go ()))) fun (_:Unit)=>
   zm F a_ b_ pA (ay (pK+ 1))) (some (.go ()))
def Dk (F:Nat) (a_:bb) (b_:bb):Option (Bool):=
 (Di F a_.aK b_.aK).bind fun x2=>
 cond (((((!x2) || (!decide ((b_.aI.length:Int)=(a_.aI.length:Int)))) || (!decide ((a_.Fields.length:Int)=(b_.Fields.length:Int)))) || (!decide ((a_.Names.length:Int)=(b_.Names.length:Int)))) || (!decide ((a_.aH.length:Int)=(b_.aH.length:Int)))) (some false) (dp (α:=Unit) (zi a_ b_ F 0) fun (_:Unit)=>
 dp (α:=Unit) (zj F a_ b_ F 0) fun (_:Unit)=>
 dp (α:=Unit) (zk F a_ b_ F 0) fun (_:Unit)=>
 dp (α:=Unit) (zm F a_ b_ F 0) fun (_:Unit)=>
 some true)
def NW (F:Nat) (ah:bb):Option (Int):=
 (GR F ah.aK).bind fun dB=>
 cond (!decide (dB.2 = 0)) (some 4) ((Dk F (⟨ah.aK,ah.aI,ah.Fields,ah.Names,ah.aH⟩:bb) (⟨dB.1.aK,dB.1.aI,dB.1.Fields,dB.1.Names,dB.1.aH⟩:bb)).bind fun oD=>
 cond (!oD) (some 4) (some 0))
end Cin
namespace Cin
theorem dJ {n:Int} (bk: -9223372036854775808 <=n) (aq:n<= 9223372036854775807):ay n=n:=by unfold ay;omega
theorem gB {i n:Nat} (hi:i <n) (ad:n<= 140737488355328):ay ((i:Int)+ 1)=((i+ 1 :Nat):Int):=by
 rw [dJ (by omega) (by omega)];omega
theorem b3 {α:Type} {l:List α} {i:Nat} {x:α} (h:l[i]? =some x):idx l (i:Int)=some x:=by
 unfold idx;rw [if_pos (by omega)];simpa using h
theorem cL {i n:Nat} (h:i <n):decide ((i:Int) <(n:Int))=true:=decide_eq_true (by omega)
theorem cK (n:Nat):decide ((n:Int) <(n:Int))=false:=decide_eq_false (by omega)
def dv {ρ:Type}:Option ρ->Way ρ Unit
 | some r=>.out r
 | none=>.go ()
def hV {ρ:Type} (o:Option ρ) (y:Option (Way ρ Unit)):Option (Way ρ Unit):=match o with
 | some r=>some (.out r)
 | none=>y
theorem each {α ρ:Type} {l:List α} {L:Nat->Int->Option (Way ρ Unit)} (g:α->Option ρ) (ag:l.length<= 140737488355328)
 (aY:∀ k (i:Nat) x,l[i]? =some x->L (k+ 1) (i:Int)=hV (g x) (L k (ay ((i:Int)+ 1))))
 (he:∀ k,L (k+ 1) (l.length:Int)=some (.go ())) {F:Nat} (bu:l.length <F):L F 0 =some (dv (l.findSome? g)):=by
 have key:∀ (d i k:Nat),i+d=l.length->d <k->L k (i:Int)=some (dv ((l.drop i).findSome? g)):=by
  intro d
  induction d with
  | zero=>
    intro i k h aZ
    obtain ⟨k,rfl⟩:∃ k',k=k'+ 1 :=⟨k - 1,by omega⟩
    have hi:i=l.length:=by omega
    subst hi
    rw [he];simp [dv]
  | succ d cb=>
    intro i k h aZ
    obtain ⟨k,rfl⟩:∃ k',k=k'+ 1 :=⟨k - 1,by omega⟩
    have hi:i <l.length:=by omega
    rw [aY k i l[i] (List.getElem?_eq_getElem hi),List.drop_eq_getElem_cons hi,List.findSome?_cons]
    cases c0:g l[i] with
    | some r=>rfl
    | none=>
      simp only [hV]
      rw [gB hi ag]
      exact cb (i+ 1) k (by omega) (by omega)
 have:=key l.length 0 F (by omega) bu
 simpa using this
theorem kd {ρ:Type} {n:Nat} {L:Nat->Int->Option (Way ρ Unit)} (g:Nat->Option ρ) (ag:n<= 140737488355328)
 (aY:∀ k (i:Nat),i <n->L (k+ 1) (i:Int)=hV (g i) (L k (ay ((i:Int)+ 1))))
 (he:∀ k,L (k+ 1) (n:Int)=some (.go ())) {F:Nat} (bu:n <F):L F 0 =some (dv ((List.range n).findSome? g)):=by
 have h:=each (l:=List.range n) (L:=L) g (by simpa using ag) (fun k i x af=>by
  have hi:i <n:=by have:=(List.getElem?_eq_some_iff.1 af).1;simpa using this
  rw [List.getElem?_range hi] at af
  simp only [Option.some.injEq] at af
  subst af
  exact aY k i hi) (fun k=>by simpa using he k) (F:=F) (by simpa using bu)
 exact h
theorem Li {oT:Type} {n:Nat} (T:Nat->Nat->Option oT) (fin:oT) (aY:∀ k i,i <n->T (k+ 1) i=T k (i+ 1)) (he:∀ k,T (k+ 1) n=some fin) {F:Nat} (bu:n <F):T F 0 =some fin:=by
 have key:∀ (d i k:Nat),i+d=n->d <k->T k i=some fin:=by
  intro d
  induction d with
  | zero=>
    intro i k h aZ
    obtain ⟨k,rfl⟩:∃ k',k=k'+ 1 :=⟨k - 1,by omega⟩
    have hi:i=n:=by omega
    subst hi
    exact he k
  | succ d cb=>
    intro i k h aZ
    obtain ⟨k,rfl⟩:∃ k',k=k'+ 1 :=⟨k - 1,by omega⟩
    rw [aY k i (by omega)]
    exact cb (i+ 1) k (by omega) (by omega)
 exact key n 0 F (by omega) bu
abbrev Small (F n:Nat):Prop:=n<= 140737488355328 /\n <F
end Cin
namespace Cin
def pd (b:UInt8):Bool:=((((decide (97 <=(b.toNat:Int))) && (decide ((b.toNat:Int)<= 122))) || ((decide (65 <=(b.toNat:Int))) && (decide ((b.toNat:Int)<= 90)))) || ((decide (48 <=(b.toNat:Int))) && (decide ((b.toNat:Int)<= 57)))) || (decide ((b.toNat:Int)= 95))
def gU (s:List UInt8):Bool:=(s.findSome? fun b=>if pd b then none else some ()).isNone && decide (s≠ []) && decide (s.length<= 20)
theorem uJ {F:Nat} {s:List UInt8} (h:Small F s.length):nI F s=some (gU s):=by
 unfold nI
 have l1:=each (l:=s) (L:=sm s) (fun b=>if pd b then none else some false) h.1 (fun k i x af=>by
  rw [sm,cL (List.getElem?_eq_some_iff.1 af).1,cond_true,b3 af,Option.bind_some]
  show cond (!pd x) _ _=_
  cases pd x <;> rfl) (fun k=>by rw [sm,cK];rfl) h.2
 rw [l1]
 unfold gU
 have e:∀ s:List UInt8,s.findSome? (fun b=>if pd b then none else some false)=(s.findSome? (fun b=>if pd b then none else some ())).map (fun _=>false):=by
  intro s
  induction s with
  | nil=>rfl
  | cons b r cb=>simp only [List.findSome?_cons];cases pd b <;> simp [cb]
 rw [e]
 cases s.findSome? (fun b=>if pd b then none else some ()) with
 | some _=>rfl
 | none=>
   simp only [Option.map_none,dv,oJ,Option.isNone_none,Bool.true_and]
   congr 1
   rw [Bool.eq_iff_iff]
   cases s <;> first | (simp;done) | (simp;omega)
theorem xE {F:Nat} {s:List UInt8} (h:Small F s.length):lO F s=some (gU s):=by
 rw [<-uJ h]
 unfold lO nI bytesOf
 rw [if_pos h.1,Option.bind_some]
 have e:∀ k n,vI s k n=sm s k n:=by
  intro k
  induction k with
  | zero=>intro n;rfl
  | succ k cb=>
    intro n
    rw [vI,sm]
    simp only [cb]
    congr 1
    congr 1
    funext b
    have hc:(((((decide ((b.toNat:Int) < 97)) || (decide (122 <(b.toNat:Int)))) && ((decide ((b.toNat:Int) < 65)) || (decide (90 <(b.toNat:Int))))) && ((decide ((b.toNat:Int) < 48)) || (decide (57 <(b.toNat:Int))))) && (!decide ((b.toNat:Int)= 95)))= !pd b:=by
     unfold pd
     rw [Bool.eq_iff_iff]
     first | (simp;done) | (simp;omega)
    rw [hc];rfl
 rw [e]
 cases sm s F 0 with
 | none=>rfl
 | some w=>
   cases w with
   | out r=>rfl
   | go u=>
     simp only [oJ]
     congr 1
     rw [Bool.eq_iff_iff]
     cases s <;> first | (simp;done) | (simp;omega)
def kindOk (k:Kind):Bool:=if k.Kind= 3 \/k.Kind= 4 then gU k.aG else (decide (k.Kind= 1) || decide (k.Kind= 2)) && decide (k.aG= [])
theorem Kg {F:Nat} {k:Kind} (h:Small F k.aG.length):qV F k=some (kindOk k):=by
 unfold qV Em kindOk
 simp only [Option.bind_some,xE h]
 by_cases bw:k.Kind= 3 \/k.Kind= 4
 · rw [if_pos bw]
   rcases bw with e | e <;> simp [e]
 · rw [if_neg bw]
   have df: ¬ k.Kind= 3 :=fun e=>bw (.inl e)
   have fu: ¬ k.Kind= 4 :=fun e=>bw (.inr e)
   simp [df,fu]
theorem GU {F:Nat} {k:Kind} (h:Small F k.aG.length):uK F k=some (kindOk k):=by
 unfold uK kindOk
 simp only [uJ h,Option.bind_some]
 by_cases bw:k.Kind= 3 \/k.Kind= 4
 · rw [if_pos bw]
   rcases bw with e | e <;> simp [e]
 · rw [if_neg bw]
   have df: ¬ k.Kind= 3 :=fun e=>bw (.inl e)
   have fu: ¬ k.Kind= 4 :=fun e=>bw (.inr e)
   by_cases aq:k.Kind= 1
   · simp [aq]
   · by_cases aC:k.Kind= 2
     · simp [aC]
     · simp [df,fu,aq,aC]
def hl (n a b:Int):Bool:=decide (a<=n) && decide (n<=b)
def pk (h:Handler):Option Int:=if gU h.aG then (if hl h.From 0 200 && hl h.To 0 200 && hl h.db 0 200 then none else some 3) else some 1
def qY (k:Kind):Option Int:=if kindOk k then none else some 7
def vT (m:Method):Int:=
 if gU m.Name then
  if 4 <m.bA.length\/ 200 <m.Code.length\/ 4 <m.bi.length then 2
  else if hl m.c9 0 10 && hl m.c8 0 10 then
   match m.bA.findSome? qY with
   | some e=>e
   | none=>if m.Returns=⟨0,[]⟩\/kindOk m.Returns=true then (m.bi.findSome? pk).getD 0 else 7
  else 3
 else 1
structure Method.Fits (F:Nat) (m:Method):Prop where
 name:Small F m.Name.length
 args:Small F m.bA.length
 arg:∀ k ∈ m.bA,Small F k.aG.length
 ret:Small F m.Returns.aG.length
 sZ:Small F m.bi.length
 hand:∀ h ∈ m.bi,Small F h.aG.length
structure aG.Fits (F:Nat) (c:aG):Prop where
 name:Small F c.Name.length
 super:Small F c.bY.length
 fields:Small F c.Fields.length
 field:∀ f ∈ c.Fields,Small F f.Name.length/\Small F f.Kind.aG.length
 methods:Small F c.aE.length
 method:∀ m ∈ c.aE,m.Fits F
def Fits (F:Nat) (l:List aG):Prop:=Small F l.length/\ ∀ c ∈ l,c.Fits F
theorem SN {F:Nat} (o:Option Int) (d:Int):dp (α:=Unit) (some (dv o)) (fun _=>some d)=some (o.getD d):=by cases o <;> rfl
theorem SP {o:Option Int} {k:Option Int}:dp (α:=Unit) (some (dv o)) (fun _=>k)=(match o with | some e=>some e | none=>k):=by cases o <;> rfl
theorem agI {F:Nat} {m:Method} (h:m.Fits F):vJ F m=some (vT m):=by
 have l1:tp F m F 0 =some (dv (m.bA.findSome? qY)):=each qY h.args.1 (fun k i x af=>by
  rw [tp,cL (List.getElem?_eq_some_iff.1 af).1,cond_true,b3 af,Option.bind_some,Kg (h.arg x (List.mem_of_getElem? af)),Option.bind_some]
  unfold qY
  show cond (!kindOk x) _ _=_
  cases kindOk x <;> rfl) (fun k=>by rw [tp,cK];rfl) h.args.2
 have ag:∀ {x:Handler} (_:x ∈ m.bi) (Y:Option (Way Int Unit)),((lO F x.aG).bind fun B3=>
  cond (!B3) (some (.out 1)) ((k_ x.From 0 200).bind fun iX=>
  cond (!iX) (some (.out 3)) ((k_ x.To 0 200).bind fun x1=>
  cond (!x1) (some (.out 3)) ((k_ x.db 0 200).bind fun B5=>
  cond (!B5) (some (.out 3)) Y))))=hV (pk x) Y:=by
  intro x af Y
  rw [xE (h.hand x af)]
  unfold pk k_
  simp only [Option.bind_some]
  show cond (!gU x.aG) _ (cond (!hl x.From 0 200) _ (cond (!hl x.To 0 200) _ (cond (!hl x.db 0 200) _ _)))=_
  cases gU x.aG <;> cases hl x.From 0 200 <;> cases hl x.To 0 200 <;> cases hl x.db 0 200 <;> rfl
 have gy:tq F m F 0 =some (dv (m.bi.findSome? pk)):=each pk h.sZ.1 (fun k i x af=>by
  rw [tq,cL (List.getElem?_eq_some_iff.1 af).1,cond_true,b3 af,Option.bind_some]
  exact ag (List.mem_of_getElem? af) _) (fun k=>by rw [tq,cK];rfl) h.sZ.2
 have mE:tr F m F 0 =some (dv (m.bi.findSome? pk)):=each pk h.sZ.1 (fun k i x af=>by
  rw [tr,cL (List.getElem?_eq_some_iff.1 af).1,cond_true,b3 af,Option.bind_some]
  exact ag (List.mem_of_getElem? af) _) (fun k=>by rw [tr,cK];rfl) h.sZ.2
 unfold vJ k_ vT
 rw [xE h.name,l1,gy,mE]
 have aZ:=Kg (F:=F) (k:=(⟨m.Returns.Kind,m.Returns.aG⟩:Kind)) h.ret
 simp only [Option.bind_some,aZ,SN (F:=F),SP]
 cases gU m.Name with
 | false=>rfl
 | true=>
   simp only [Bool.not_true,cond_false,if_true]
   by_cases hm:4 <m.bA.length\/ 200 <m.Code.length\/ 4 <m.bi.length
   · rw [if_pos hm]
     have:((decide (4 <(m.bA.length:Int))) || (decide (200 <(m.Code.length:Int))) || (decide (4 <(m.bi.length:Int))))=true:=by
      simp;omega
     rw [this];rfl
   · rw [if_neg hm]
     have:((decide (4 <(m.bA.length:Int))) || (decide (200 <(m.Code.length:Int))) || (decide (4 <(m.bi.length:Int))))=false:=by
      simp;omega
     rw [this]
     show cond (!hl m.c9 0 10) _ (cond (!hl m.c8 0 10) _ _)=_
     cases hl m.c9 0 10 <;> cases hl m.c8 0 10 <;> try rfl
     simp only [Bool.not_true,cond_false,Bool.and_self,if_true]
     cases m.bA.findSome? qY with
     | some e=>rfl
     | none=>
       simp only
       by_cases bm:m.Returns=⟨0,[]⟩
       · rw [if_pos (.inl bm),show (decide ((⟨m.Returns.Kind,m.Returns.aG⟩:Kind)=⟨0,[]⟩))=true from decide_eq_true bm]
         rfl
       · rw [show (decide ((⟨m.Returns.Kind,m.Returns.aG⟩:Kind)=⟨0,[]⟩))=false from decide_eq_false bm]
         simp only [Bool.not_false,cond_true]
         show cond (!kindOk m.Returns) _ _=_
         cases acW:kindOk m.Returns with
         | true=>rw [if_pos (.inr rfl)];rfl
         | false=>rw [if_neg (by simp [bm])];rfl
theorem TL {F:Nat} {m:Method} (h:m.Fits F):y' F m=some (vT m):=by
 have l1:za F m F 0 =some (dv (m.bA.findSome? qY)):=each qY h.args.1 (fun k i x af=>by
  rw [za,cL (List.getElem?_eq_some_iff.1 af).1,cond_true,b3 af,Option.bind_some,GU (h.arg x (List.mem_of_getElem? af)),Option.bind_some]
  unfold qY
  cases kindOk x <;> rfl) (fun k=>by rw [za,cK];rfl) h.args.2
 have gy:zb F m F 0 =some (dv (m.bi.findSome? pk)):=each pk h.sZ.1 (fun k i x af=>by
  rw [zb,cL (List.getElem?_eq_some_iff.1 af).1,cond_true,b3 af,Option.bind_some,uJ (h.hand x (List.mem_of_getElem? af))]
  unfold pk uM
  simp only [Option.bind_some]
  show cond (!gU x.aG) _ (cond (!hl x.From 0 200) _ (cond (!hl x.To 0 200) _ (cond (!hl x.db 0 200) _ _)))=_
  cases gU x.aG <;> cases hl x.From 0 200 <;> cases hl x.To 0 200 <;> cases hl x.db 0 200 <;> rfl) (fun k=>by rw [zb,cK];rfl) h.sZ.2
 unfold y' uM vT
 rw [uJ h.name,l1,gy]
 have aZ:=GU (F:=F) (k:=(⟨m.Returns.Kind,m.Returns.aG⟩:Kind)) h.ret
 simp only [Option.bind_some,aZ,SN (F:=F),SP]
 cases gU m.Name with
 | false=>rfl
 | true=>
   simp only [Bool.not_true,cond_false,if_true]
   by_cases hm:4 <m.bA.length\/ 200 <m.Code.length\/ 4 <m.bi.length
   · rw [if_pos hm]
     have:((decide (4 <(m.bA.length:Int))) || (decide (200 <(m.Code.length:Int))) || (decide (4 <(m.bi.length:Int))))=true:=by
      simp;omega
     rw [this];rfl
   · rw [if_neg hm]
     have:((decide (4 <(m.bA.length:Int))) || (decide (200 <(m.Code.length:Int))) || (decide (4 <(m.bi.length:Int))))=false:=by
      simp;omega
     rw [this]
     show cond (!hl m.c9 0 10) _ (cond (!hl m.c8 0 10) _ _)=_
     cases hl m.c9 0 10 <;> cases hl m.c8 0 10 <;> try rfl
     simp only [Bool.not_true,cond_false,Bool.and_self,if_true]
     cases m.bA.findSome? qY with
     | some e=>rfl
     | none=>
       simp only
       show cond ((!kindOk m.Returns) && _) _ _=_
       by_cases bm:m.Returns=⟨0,[]⟩
       · rw [if_pos (.inl bm),bm]
         simp
       · have eS:((!decide (m.Returns.Kind= 0)) || (!decide (m.Returns.aG= [])))=true:=by
          rcases hf:m.Returns with ⟨a,b⟩
          rw [hf] at bm
          by_cases a':a= 0
          · by_cases aM:b= []
            · subst a';subst aM;exact absurd rfl bm
            · simp [aM]
          · simp [a']
         rw [eS]
         cases acW:kindOk m.Returns with
         | true=>rw [if_pos (.inr rfl)];rfl
         | false=>rw [if_neg (by simp [bm])];rfl
end Cin
namespace Cin
def hJ (f:Field):Option Int:=if gU f.Name then (if kindOk f.Kind then none else some 7) else some 1
def h8 (e:Int):Option Int:=if e= 0 then none else some e
def iT (m:Method):Option Int:=h8 (vT m)
def w7 (c:aG):Int:=
 if gU c.Name && (decide (c.bY= []) || gU c.bY) then
  if 6 <c.Fields.length\/ 8 <c.aE.length then 2
  else (c.Fields.findSome? hJ).getD ((c.aE.findSome? iT).getD 0)
 else 1
def nR (c:aG):Option Int:=h8 (w7 c)
def mr (l:List aG):Int:=if 10 <l.length then 2 else (l.findSome? nR).getD 0
def pL {ρ:Type} (o:Option ρ) (y:Option ρ):Option ρ:=match o with
 | some e=>some e
 | none=>y
theorem LG {e:Int} {Y:Option (Way Int Unit)}:cond (!decide (e= 0)) (some (.out e)) Y=hV (h8 e) Y:=by
 unfold h8 hV
 by_cases h:e= 0
 · rw [if_pos h,decide_eq_true h];rfl
 · rw [if_neg h,decide_eq_false h];rfl
theorem PA {a b:Nat} (x y:Nat):((decide ((x:Int) <(a:Int))) || (decide ((y:Int) <(b:Int))))=decide (x <a\/y <b):=by
 rw [Bool.eq_iff_iff];simp
theorem l0 {o:Option Int} {k:Unit->Option (Way Int Unit)}:dG (α:=Unit) (some (dv o)) k=hV o (k ()):=by cases o <;> rfl
theorem l2 {ρ:Type} {o:Option ρ} {k:Unit->Option ρ}:dp (α:=Unit) (some (dv o)) k=pL o (k ()):=by cases o <;> rfl
theorem ns {o:Option Int} {Y:Option (Way Int Unit)} {k:Unit->Option (Way Int Unit)}:dG (α:=Unit) (hV o Y) k=hV o (dG (α:=Unit) Y k):=by cases o <;> rfl
section
variable {F:Nat}
theorem agH {c:aG} (h:c.Fits F):Bt F c=some (w7 c):=by
 have I:∀ {x:Field} (_:x ∈ c.Fields) (Y:Option (Way Int Unit)),((lO F x.Name).bind fun wc=>
  cond (!wc) (some (.out 1)) ((qV F (⟨x.Kind.Kind,x.Kind.aG⟩:Kind)).bind fun jo=>
  cond (!jo) (some (.out 7)) Y))=hV (hJ x) Y:=by
  intro x af Y
  rw [xE (h.field x af).1,Kg (k:=(⟨x.Kind.Kind,x.Kind.aG⟩:Kind)) (h.field x af).2]
  unfold hJ
  simp only [Option.bind_some]
  show cond (!gU x.Name) _ (cond (!kindOk x.Kind) _ _)=_
  cases gU x.Name <;> cases kindOk x.Kind <;> rfl
 have hm:∀ {x:Method} (_:x ∈ c.aE) (Y:Option (Way Int Unit)),((vJ F (⟨x.Name,x.Static,x.bA,(⟨x.Returns.Kind,x.Returns.aG⟩:Kind),x.c9,x.c8,x.Code,x.bi⟩:Method)).bind fun iX=>
  cond (!decide (iX= 0)) (some (.out iX)) Y)=hV (iT x) Y:=by
  intro x af Y
  have:=agI (F:=F) (m:=(⟨x.Name,x.Static,x.bA,(⟨x.Returns.Kind,x.Returns.aG⟩:Kind),x.c9,x.c8,x.Code,x.bi⟩:Method)) (h.method x af)
  rw [this,Option.bind_some]
  exact LG
 have l1:tk F c F 0 =some (dv (c.Fields.findSome? hJ)):=each hJ h.fields.1 (fun k i x af=>by
  rw [tk,cL (List.getElem?_eq_some_iff.1 af).1,cond_true,b3 af,Option.bind_some];exact I (List.mem_of_getElem? af) _) (fun k=>by rw [tk,cK];rfl) h.fields.2
 have mE:tm F c F 0 =some (dv (c.Fields.findSome? hJ)):=each hJ h.fields.1 (fun k i x af=>by
  rw [tm,cL (List.getElem?_eq_some_iff.1 af).1,cond_true,b3 af,Option.bind_some];exact I (List.mem_of_getElem? af) _) (fun k=>by rw [tm,cK];rfl) h.fields.2
 have gy:tl F c F 0 =some (dv (c.aE.findSome? iT)):=each iT h.methods.1 (fun k i x af=>by
  rw [tl,cL (List.getElem?_eq_some_iff.1 af).1,cond_true,b3 af,Option.bind_some];exact hm (List.mem_of_getElem? af) _) (fun k=>by rw [tl,cK];rfl) h.methods.2
 have Bz:tn F c F 0 =some (dv (c.aE.findSome? iT)):=each iT h.methods.1 (fun k i x af=>by
  rw [tn,cL (List.getElem?_eq_some_iff.1 af).1,cond_true,b3 af,Option.bind_some];exact hm (List.mem_of_getElem? af) _) (fun k=>by rw [tn,cK];rfl) h.methods.2
 unfold Bt w7
 rw [xE h.name,xE h.super,l1,gy,mE,Bz]
 simp only [Option.bind_some,l2,show (6 :Int)=((6 :Nat):Int) from rfl,show (8 :Int)=((8 :Nat):Int) from rfl,PA]
 cases gU c.Name with
 | false=>rfl
 | true=>
   simp only [Bool.not_true,cond_false,Bool.true_and]
   have vG:∀ p:Bool,p=decide (6 <c.Fields.length\/ 8 <c.aE.length)->cond p (some (2 :Int)) (pL (c.Fields.findSome? hJ) (pL (c.aE.findSome? iT) (some 0))) =
    some (if 6 <c.Fields.length\/ 8 <c.aE.length then 2 else (c.Fields.findSome? hJ).getD ((c.aE.findSome? iT).getD 0)):=by
    intro p bD
    subst bD
    by_cases hf:6 <c.Fields.length\/ 8 <c.aE.length
    · rw [if_pos hf,decide_eq_true hf];rfl
    · rw [if_neg hf,decide_eq_false hf]
      cases c.Fields.findSome? hJ with
      | some e=>rfl
      | none=>cases c.aE.findSome? iT <;> rfl
   by_cases aY:c.bY= []
   · rw [decide_eq_true aY]
     simp only [Bool.not_true,cond_false,Bool.true_or,if_true]
     exact vG _ rfl
   · rw [decide_eq_false aY]
     simp only [Bool.not_false,cond_true,Bool.false_or]
     cases gU c.bY with
     | false=>rfl
     | true=>
       simp only [Bool.not_true,cond_false,if_true]
       exact vG _ rfl
theorem agG {l:List aG} (h:Fits F l):Bs F l=some (mr l):=by
 have l1:tj F l F 0 =some (dv (l.findSome? nR)):=each nR h.1.1 (fun k i x af=>by
  rw [tj,cL (List.getElem?_eq_some_iff.1 af).1,cond_true,b3 af,Option.bind_some,agH (c:=(⟨x.Name,x.bY,x.Fields,x.aE⟩:aG)) (h.2 x (List.mem_of_getElem? af)),Option.bind_some]
  exact LG) (fun k=>by rw [tj,cK];rfl) h.1.2
 unfold Bs mr
 rw [l1,l2]
 by_cases ag:10 <l.length
 · rw [if_pos ag,decide_eq_true (show (10 :Int) <(l.length:Int) by omega)];rfl
 · rw [if_neg ag,decide_eq_false (show ¬ (10 :Int) <(l.length:Int) by omega)]
   cases l.findSome? nR <;> rfl
theorem TK {l:List aG} (h:Fits F l):GO F l=some (mr l):=by
 have body:∀ {c:aG} (_:c.Fits F),yU F c F 0 =some (dv (c.Fields.findSome? hJ))/\yW F c F 0 =some (dv (c.Fields.findSome? hJ))/\yV F c F 0 =some (dv (c.aE.findSome? iT))/\yX F c F 0 =some (dv (c.aE.findSome? iT)):=by
  intro c hc
  have I:∀ {x:Field} (_:x ∈ c.Fields) (i:Int) (_:idx c.Fields i=some x) (Y:Option (Way Int Unit)),((nI F x.Name).bind fun wc=>
   cond (!wc) (some (.out 1)) ((idx c.Fields i).bind fun x=>(uK F (⟨x.Kind.Kind,x.Kind.aG⟩:Kind)).bind fun jo=>
   cond (!jo) (some (.out 7)) Y))=hV (hJ x) Y:=by
   intro x af i hi Y
   rw [uJ (hc.field x af).1,hi]
   unfold hJ
   simp only [Option.bind_some]
   rw [GU (k:=(⟨x.Kind.Kind,x.Kind.aG⟩:Kind)) (hc.field x af).2,Option.bind_some]
   show cond (!gU x.Name) _ (cond (!kindOk x.Kind) _ _)=_
   cases gU x.Name <;> cases kindOk x.Kind <;> rfl
  have hm:∀ {x:Method} (_:x ∈ c.aE) (Y:Option (Way Int Unit)),((y' F x).bind fun iX=>
   cond (!decide (iX= 0)) (some (.out iX)) Y)=hV (iT x) Y:=by
   intro x af Y
   rw [TL (hc.method x af),Option.bind_some]
   exact LG
  refine ⟨each hJ hc.fields.1 (fun k i x af=>?_) (fun k=>by rw [yU,cK];rfl) hc.fields.2,each hJ hc.fields.1 (fun k i x af=>?_) (fun k=>by rw [yW,cK];rfl) hc.fields.2,
   each iT hc.methods.1 (fun k i x af=>?_) (fun k=>by rw [yV,cK];rfl) hc.methods.2,each iT hc.methods.1 (fun k i x af=>?_) (fun k=>by rw [yX,cK];rfl) hc.methods.2⟩
  · rw [yU,cL (List.getElem?_eq_some_iff.1 af).1,cond_true,b3 af,Option.bind_some];rw [<-b3 af];exact I (List.mem_of_getElem? af) _ (b3 af) _
  · rw [yW,cL (List.getElem?_eq_some_iff.1 af).1,cond_true,b3 af,Option.bind_some];rw [<-b3 af];exact I (List.mem_of_getElem? af) _ (b3 af) _
  · rw [yV,cL (List.getElem?_eq_some_iff.1 af).1,cond_true,b3 af,Option.bind_some];exact hm (List.mem_of_getElem? af) _
  · rw [yX,cL (List.getElem?_eq_some_iff.1 af).1,cond_true,b3 af,Option.bind_some];exact hm (List.mem_of_getElem? af) _
 have l1:yT F l F 0 =some (dv (l.findSome? nR)):=each nR h.1.1 (fun k i c af=>by
  have hc:=h.2 c (List.mem_of_getElem? af)
  obtain ⟨su,TP,zu,TQ⟩:=body hc
  rw [yT,cL (List.getElem?_eq_some_iff.1 af).1,cond_true,b3 af,Option.bind_some,uJ hc.name,uJ hc.super,su,zu,TP,TQ]
  simp only [Option.bind_some,l0,show (6 :Int)=((6 :Nat):Int) from rfl,show (8 :Int)=((8 :Nat):Int) from rfl,PA]
  unfold nR w7
  cases gU c.Name with
  | false=>rfl
  | true=>
    simp only [Bool.not_true,cond_false,Bool.true_and]
    have vG:∀ (p:Bool) (Y:Option (Way Int Unit)),p=decide (6 <c.Fields.length\/ 8 <c.aE.length)->dG (α:=Unit) (cond p (some (.out (2 :Int))) (hV (c.Fields.findSome? hJ) (hV (c.aE.findSome? iT) (some (.go ()))))) (fun _=>Y) =
     hV (h8 (if 6 <c.Fields.length\/ 8 <c.aE.length then 2 else (c.Fields.findSome? hJ).getD ((c.aE.findSome? iT).getD 0))) Y:=by
     intro p Y bD
     subst bD
     by_cases hf:6 <c.Fields.length\/ 8 <c.aE.length
     · rw [if_pos hf,decide_eq_true hf];rfl
     · rw [if_neg hf,decide_eq_false hf,cond_false]
       have abD:∀ e,c.Fields.findSome? hJ=some e->h8 e=some e:=by
        intro e he
        obtain ⟨x,_,af⟩:=List.exists_of_findSome?_eq_some he
        unfold hJ at af
        split at af
        · split at af
          · cases af
          · injection af with af;subst af;rfl
        · injection af with af;subst af;rfl
       have JI:∀ e,c.aE.findSome? iT=some e->h8 e=some e:=by
        intro e he
        obtain ⟨x,_,af⟩:=List.exists_of_findSome?_eq_some he
        unfold iT at af
        unfold h8 at af ⊢
        split at af
        · cases af
        · rename_i ad;injection af with af;subst af;rw [if_neg ad]
       cases I:c.Fields.findSome? hJ with
       | some e=>simp only [Option.getD_some,abD e I];rfl
       | none=>
         cases hm:c.aE.findSome? iT with
         | some e=>simp only [Option.getD_some,Option.getD_none,JI e hm];rfl
         | none=>rfl
    by_cases aY:c.bY= []
    · rw [decide_eq_true aY]
      simp only [Bool.not_true,cond_false,Bool.true_or,if_true]
      exact vG _ _ rfl
    · rw [decide_eq_false aY]
      simp only [Bool.not_false,cond_true,Bool.false_or]
      cases gU c.bY with
      | false=>rfl
      | true=>
        simp only [Bool.not_true,cond_false,if_true]
        exact vG _ _ rfl) (fun k=>by rw [yT,cK];rfl) h.1.2
 unfold GO mr
 rw [l1,l2]
 by_cases ag:10 <l.length
 · rw [if_pos ag,decide_eq_true (show (10 :Int) <(l.length:Int) by omega)];rfl
 · rw [if_neg ag,decide_eq_false (show ¬ (10 :Int) <(l.length:Int) by omega)]
   cases l.findSome? nR <;> rfl
end
structure Right (l:List aG):Prop where
 len:l.length<= 10
 name:∀ c ∈ l,gU c.Name=true
 fields:∀ c ∈ l,c.Fields.length<= 6
 methods:∀ c ∈ l,c.aE.length<= 8
 method:∀ c ∈ l,∀ m ∈ c.aE,m.bA.length<= 4 /\m.bi.length<= 4
theorem ahV {m:Method} (h:vT m= 0):m.bA.length<= 4 /\m.bi.length<= 4 :=by
 unfold vT at h
 split at h
 · split at h
   · exact absurd h (by decide)
   · rename_i aq;exact ⟨by omega,by omega⟩
 · exact absurd h (by decide)
theorem aii {e:Int} (h:h8 e=none):e= 0 :=by
 unfold h8 at h
 split at h
 · assumption
 · cases h
theorem aij {e x:Int} (h:h8 e=some x):x≠ 0 :=by
 unfold h8 at h
 split at h
 · cases h
 · rename_i cT;injection h with h;subst h;exact cT
theorem agW {s:List UInt8} (h:gU s=true):s≠ []:=by
 unfold gU at h
 simp only [Bool.and_eq_true,decide_eq_true_eq] at h
 exact h.1.2
theorem U4 {l:List aG} (h:mr l= 0):Right l:=by
 unfold mr at h
 by_cases ag:10 <l.length
 · rw [if_pos ag] at h;exact absurd h (by decide)
 · rw [if_neg ag] at h
   have ad:∀ c ∈ l,w7 c= 0 :=by
    intro c hc
    cases I:l.findSome? nR with
    | some e=>
      rw [I] at h
      simp only [Option.getD_some] at h
      subst h
      obtain ⟨x,_,af⟩:=List.exists_of_findSome?_eq_some I
      unfold nR h8 at af
      split at af
      · cases af
      · rename_i cT;injection af with af;exact absurd af cT
    | none=>
      have:=List.findSome?_eq_none_iff.1 I c hc
      unfold nR h8 at this
      split at this
      · assumption
      · cases this
   have key:∀ c ∈ l,gU c.Name=true/\c.Fields.length<= 6 /\c.aE.length<= 8 /\ ∀ m ∈ c.aE,m.bA.length<= 4 /\m.bi.length<= 4 :=by
    intro c hc
    have bk:=ad c hc
    unfold w7 at bk
    split at bk
    · rename_i aq
      simp only [Bool.and_eq_true] at aq
      split at bk
      · exact absurd bk (by decide)
      · rename_i aC
        refine ⟨aq.1,by omega,by omega,fun m hm=>?_⟩
        cases I:c.Fields.findSome? hJ with
        | some e=>
          rw [I] at bk
          simp only [Option.getD_some] at bk
          subst bk
          obtain ⟨x,_,af⟩:=List.exists_of_findSome?_eq_some I
          unfold hJ at af
          split at af
          · split at af
            · cases af
            · injection af with af;exact absurd af (by decide)
          · injection af with af;exact absurd af (by decide)
        | none=>
          rw [I] at bk
          simp only [Option.getD_none] at bk
          cases gx:c.aE.findSome? iT with
          | some e=>
            rw [gx] at bk
            simp only [Option.getD_some] at bk
            subst bk
            obtain ⟨x,_,af⟩:=List.exists_of_findSome?_eq_some gx
            exact absurd rfl (aij af)
          | none=>exact ahV (aii (List.findSome?_eq_none_iff.1 gx m hm))
    · exact absurd bk (by decide)
   exact ⟨by omega,fun c hc=>(key c hc).1,fun c hc=>(key c hc).2.1,fun c hc=>(key c hc).2.2.1,fun c hc=>(key c hc).2.2.2⟩
end Cin
namespace Cin
def eT {α:Type} (p:α->Bool):List α->Option Nat
 | []=>none
 | x::r=>if p x then some 0 else (eT p r).map (· + 1)
theorem BW {α:Type} {p:α->Bool}:∀ {l:List α} {i:Nat},eT p l=some i-> ∃ x,l[i]? =some x/\p x=true/\ ∀ j y,j <i->l[j]? =some y->p y=false
 | [],i,h=>by simp [eT] at h
 | x::r,i,h=>by
   simp only [eT] at h
   split at h
   · rename_i bD
     injection h with h
     subst h
     exact ⟨x,rfl,bD,fun j y bf=>absurd bf (by omega)⟩
   · rename_i bD
     cases bm:eT p r with
     | none=>rw [bm] at h;cases h
     | some k=>
       rw [bm] at h
       simp only [Option.map_some,Option.some.injEq] at h
       subst h
       obtain ⟨y,aq,aC,bw⟩:=BW bm
       refine ⟨y,by simpa using aq,aC,fun j z bf cT=>?_⟩
       cases j with
       | zero=>
         simp only [List.getElem?_cons_zero,Option.some.injEq] at cT
         subst cT
         simpa using bD
       | succ j=>exact bw j z (by omega) (by simpa using cT)
theorem LQ {α:Type} {p:α->Bool}:∀ {l:List α},eT p l=none-> ∀ x ∈ l,p x=false
 | [],_,x,af=>by cases af
 | y::r,h,x,af=>by
   simp only [eT] at h
   split at h
   · cases h
   · rename_i bD
     have bm:eT p r=none:=by simpa using h
     rcases List.mem_cons.1 af with rfl | e
     · simpa using bD
     · exact LQ bm x e
theorem aiz {α:Type} {p:α->Bool} {l:List α} {i:Nat} {x:α} (hi:l[i]? =some x) (bD:p x=true) (aM:∀ j y,j <i->l[j]? =some y->p y=false):eT p l=some i:=by
 cases h:eT p l with
 | none=>have:=LQ h x (List.mem_of_getElem? hi);rw [bD] at this;cases this
 | some j=>
   obtain ⟨y,aq,aC,bw⟩:=BW h
   rcases Nat.lt_trichotomy i j with e | e | e
   · have:=bw i x e hi;rw [bD] at this;cases this
   · rw [e]
   · have:=aM j y e aq;rw [aC] at this;cases this
theorem LP {α:Type} {p:α->Bool} {l:List α} {i:Nat} (h:eT p l=some i):i <l.length:=by
 obtain ⟨x,aq,_⟩:=BW h
 exact (List.getElem?_eq_some_iff.1 aq).1
theorem HM {α ρ:Type} {l:List α} {L:Nat->Int->Option (Way ρ Unit)} (p:α->Bool) (f:Nat->ρ) (ag:l.length<= 140737488355328)
 (aY:∀ k (i:Nat) x,l[i]? =some x->L (k+ 1) (i:Int)=cond (p x) (some (.out (f i))) (L k (ay ((i:Int)+ 1))))
 (he:∀ k,L (k+ 1) (l.length:Int)=some (.go ())) {F:Nat} (bu:l.length <F):L F 0 =some (dv ((eT p l).map f)):=by
 have key:∀ (d i k:Nat),i+d=l.length->d <k->L k (i:Int)=some (dv ((eT p (l.drop i)).map fun j=>f (i+j))):=by
  intro d
  induction d with
  | zero=>
    intro i k h aZ
    obtain ⟨k,rfl⟩:∃ k',k=k'+ 1 :=⟨k - 1,by omega⟩
    have hi:i=l.length:=by omega
    subst hi
    rw [he];simp [dv,eT]
  | succ d cb=>
    intro i k h aZ
    obtain ⟨k,rfl⟩:∃ k',k=k'+ 1 :=⟨k - 1,by omega⟩
    have hi:i <l.length:=by omega
    rw [aY k i l[i] (List.getElem?_eq_getElem hi),List.drop_eq_getElem_cons hi,eT]
    cases c0:p l[i] with
    | true=>simp [dv]
    | false=>
      simp only [cond_false,Bool.false_eq_true,if_false]
      rw [gB hi ag,cb (i+ 1) k (by omega) (by omega)]
      congr 2
      rw [Option.map_map]
      congr 1
      funext j
      simp only [Function.comp]
      congr 1
      omega
 have:=key l.length 0 F (by omega) bu
 simpa using this
def iP (nm:List UInt8) (c:aG):Bool:=decide (c.Name=nm)
def dm (l:List aG) (nm:List UInt8):Int:=((eT (iP nm) l).map fun n:Nat=>(n:Int)).getD (-1)
theorem sl {F:Nat} {l:List aG} (h:Small F l.length) (nm:List UInt8):nH F l nm=some (dm l nm):=by
 unfold nH dm
 have l1:zc l nm F 0 =some (dv ((eT (iP nm) l).map fun n:Nat=>(n:Int))):=HM (iP nm) _ h.1 (fun k i x af=>by
  rw [zc,cL (List.getElem?_eq_some_iff.1 af).1,cond_true,b3 af,Option.bind_some];rfl) (fun k=>by rw [zc,cK];rfl) h.2
 rw [l1,l2]
 cases eT (iP nm) l <;> rfl
theorem HB {l:List aG} {nm:List UInt8}:dm l nm <l.length:=by
 unfold dm
 cases h:eT (iP nm) l with
 | none=>simp only [Option.map_none,Option.getD_none];omega
 | some i=>have:=LP h;simp only [Option.map_some,Option.getD_some];omega
theorem U5 {l:List aG} {nm:List UInt8}:dm l nm < 0 ↔ eT (iP nm) l=none:=by
 unfold dm
 cases h:eT (iP nm) l with
 | none=>simp
 | some i=>simp only [Option.map_some,Option.getD_some];constructor <;> intro h <;> first | omega | cases h
theorem ajZ {α:Type} {l:List α} {i:Nat} {x:α} (h:l[i]? =some x):l.set i x=l:=by
 obtain ⟨ag,e⟩:=List.getElem?_eq_some_iff.1 h
 rw [<-e,List.set_getElem_self]
theorem DM {α:Type} {b:Nat} {l:List α} (h:l.length*b<= 140737488355328):(ei b ([]:List α) l).bind (fun l=>some l)=some l:=by
 unfold ei
 rw [if_pos (by simpa using h)]
 simp
theorem aip {F:Nat} {l:List aG} (bu:100 <F) (h:Right l):BH F l=some l:=by
 have dU:∀ (ff:List Method),ff.length<= 8 ->(∀ m ∈ ff,m.bA.length<= 4 /\m.bi.length<= 4)->ov F ff (ff.length:Int) 0 =some ff:=by
  intro ff anx hm
  refine Li (n:=ff.length) (fun k i=>ov k ff (ff.length:Int) (i:Int)) ff (fun k i hi=>?_) (fun k=>?_) (F:=F) (by omega)
  · obtain ⟨x,af⟩:∃ x,ff[i]? =some x:=⟨ff[i],List.getElem?_eq_getElem hi⟩
    have aM:=hm x (List.mem_of_getElem? af)
    show ov (k+ 1) ff (ff.length:Int) (i:Int)=_
    rw [ov,cL hi,cond_true,b3 af,Option.bind_some]
    unfold Fj Fi
    rw [DM (by omega),Option.bind_some,DM (by omega),Option.bind_some,Option.bind_some,Option.bind_some]
    have bn:ff.set (i:Int).toNat (⟨x.Name,x.Static,x.bA,(⟨x.Returns.Kind,x.Returns.aG⟩:Kind),x.c9,x.c8,x.Code,x.bi⟩:Method)=ff:=ajZ (i:=i) af
    simp only [bn,b3 af,Option.bind_some]
    rw [gB hi (by omega)]
  · show ov (k+ 1) ff (ff.length:Int) (ff.length:Int)=_
    rw [ov,cK];rfl
 unfold BH
 have dL:ou F l F [] 0 =some l:=by
  refine Li (n:=l.length) (fun k i=>ou F l k (l.take i) (i:Int)) l (fun k i hi=>?_) (fun k=>?_) (F:=F) (by have:=h.len;omega)
  · obtain ⟨x,af⟩:∃ x,l[i]? =some x:=⟨l[i],List.getElem?_eq_getElem hi⟩
    have pu:=List.mem_of_getElem? af
    have I:=h.fields x pu
    have hm:=h.methods x pu
    have hlen:=h.len
    show ou F l (k+ 1) (l.take i) (i:Int)=_
    rw [ou,cL hi,cond_true,b3 af,Option.bind_some]
    unfold Fh Fk
    rw [DM (by omega),Option.bind_some,DM (by omega),Option.bind_some,dU x.aE hm (h.method x pu),Option.bind_some]
    unfold ei
    rw [if_pos (by simp only [List.length_take,List.length_cons,List.length_nil];omega)]
    simp only [Option.bind_some]
    rw [gB hi (by omega)]
    have e:l.take i++[(⟨x.Name,x.bY,x.Fields,x.aE⟩:aG)]=l.take (i+ 1):=by
     rw [List.take_add_one,af];rfl
    rw [e]
  · show ou F l (k+ 1) (l.take l.length) (l.length:Int)=_
    rw [ou,cK,List.take_length];rfl
 rw [dL];rfl
def fg:Nat->List aG->List (List UInt8 × Int)
 | _,[]=>[]
 | k,c::r=>(c.Name,(k:Int))::fg (k+ 1) r
theorem xW (nm:List UInt8):∀ (l:List aG) (k:Nat),cW (fg k l) nm=(eT (iP nm) l).map fun n:Nat=>((n+k:Nat):Int)
 | [],k=>rfl
 | c::r,k=>by
   simp only [fg,cW,eT,iP]
   by_cases h:c.Name=nm
   · simp [h]
   · simp only [h,if_false,decide_false,Bool.false_eq_true]
     rw [xW nm r (k+ 1),Option.map_map]
     congr 1
     funext j
     simp only [Function.comp]
     congr 1
     omega
theorem RK (c:aG):∀ (l:List aG) (k:Nat),fg k (l++[c])=fg k l++[(c.Name,((k+l.length:Nat):Int))]
 | [],k=>by simp [fg]
 | d::r,k=>by
   simp only [List.cons_append,fg,List.length_cons]
   rw [RK c r (k+ 1)]
   congr 4
   omega
theorem Lk {κ β:Type} [DecidableEq κ] {k:κ} {v:β}:∀ {m:List (κ × β)},cW m k=none->gW m k v=m++[(k,v)]
 | [],_=>rfl
 | p::r,h=>by
   simp only [cW] at h
   split at h
   · cases h
   · rename_i eS
     simp only [gW,if_neg eS,List.cons_append]
     rw [Lk h]
def uH (l:List aG):Prop:=∀ (i j:Nat) (x y:aG),l[i]? =some x->l[j]? =some y->x.Name=y.Name->i=j
theorem aim {l:List aG} (h:uH l) {i:Nat} {x:aG} (hi:l[i]? =some x):dm l x.Name=(i:Int):=by
 unfold dm
 rw [aiz (i:=i) hi (by simp [iP]) (fun j y bf hy=>by
  simp only [iP,decide_eq_false_iff_not]
  intro e
  have:=h j i y x hy hi e
  omega)]
 rfl
theorem aib {F:Nat} {l:List aG} (bu:100 <F) (h:Right l) :
 (uH l/\oq ⟨l,[],[]⟩ F [] 0 =some (.go (fg 0 l))/\uI F l F 0 =some (.go ())) \/
 (¬ uH l/\(∃ m,oq ⟨l,[],[]⟩ F [] 0 =some (.out (6,m)))/\uI F l F 0 =some (.out 6)):=by
 have hlen:=h.len
 have hA:uI F l F 0 =some (dv ((List.range l.length).findSome? fun i:Nat=>(l[i]?).bind fun x:aG=>if dm l x.Name=(i:Int) then none else some 6)):=kd _ (by omega) (fun k i hi=>by
  obtain ⟨x,af⟩:∃ x,l[i]? =some x:=⟨l[i],List.getElem?_eq_getElem hi⟩
  rw [uI,cL hi,cond_true,b3 af,Option.bind_some,sl ⟨by omega,by omega⟩,Option.bind_some,af,Option.bind_some]
  by_cases e:dm l x.Name=(i:Int)
  · rw [if_pos e,decide_eq_true e];rfl
  · rw [if_neg e,decide_eq_false e];rfl) (fun k=>by rw [uI,cK];rfl) (by omega)
 have key:∀ (d i k:Nat),i+d=l.length->d <k->uH (l.take i) ->
  (uH l/\oq ⟨l,[],[]⟩ k (fg 0 (l.take i)) i=some (.go (fg 0 l)))\/(¬ uH l/\ ∃ m,oq ⟨l,[],[]⟩ k (fg 0 (l.take i)) i=some (.out (6,m))):=by
  intro d
  induction d with
  | zero=>
    intro i k hi aZ bc
    obtain ⟨k,rfl⟩:∃ k',k=k'+ 1 :=⟨k - 1,by omega⟩
    have e:i=l.length:=by omega
    subst e
    rw [List.take_length] at bc ⊢
    left
    refine ⟨bc,?_⟩
    rw [oq,cK];rfl
  | succ d cb=>
    intro i k hi aZ bc
    obtain ⟨k,rfl⟩:∃ k',k=k'+ 1 :=⟨k - 1,by omega⟩
    have fw:i <l.length:=by omega
    obtain ⟨x,af⟩:∃ x,l[i]? =some x:=⟨l[i],List.getElem?_eq_getElem fw⟩
    rw [oq,cL fw,cond_true,b3 af,Option.bind_some,xW]
    cases bD:eT (iP x.Name) (l.take i) with
    | some j=>
      right
      obtain ⟨y,aq,aC,_⟩:=BW bD
      refine ⟨fun jQ=>?_,_,rfl⟩
      have iO:j <i:=by have:=(List.getElem?_eq_some_iff.1 aq).1;simp only [List.length_take] at this;omega
      have hy:l[j]? =some y:=by rw [List.getElem?_take] at aq;rw [if_pos iO] at aq;exact aq
      have:=jQ j i y x hy af (by simpa [iP] using aC)
      omega
    | none=>
      simp only [Option.map_none,Option.isSome_none,cond_false]
      have adH:cW (fg 0 (l.take i)) x.Name=none:=by rw [xW,bD];rfl
      rw [Lk adH,gB fw (by omega)]
      have bn:l.take (i+ 1)=l.take i++[x]:=by rw [List.take_add_one,af];rfl
      have bI:fg 0 (l.take i)++[(x.Name,(i:Int))]=fg 0 (l.take (i+ 1)):=by
       rw [bn,RK]
       congr 4
       simp only [List.length_take];omega
      rw [bI]
      refine cb (i+ 1) k (by omega) (by omega) ?_
      intro a b u v a' aM J_
      rw [List.getElem?_take] at a' aM
      split at a'
      · split at aM
        · rename_i ans hN
          have adN:=LQ bD
          have m5:∀ (q:Nat) (z:aG),q <i->l[q]? =some z->z.Name≠x.Name:=fun q z dX cT e=>by
           have:=adN z (List.mem_of_getElem? (i:=q) (by rw [List.getElem?_take,if_pos dX];exact cT))
           simp [iP,e] at this
          by_cases XS:a=i
          · by_cases Qb:b=i
            · omega
            · subst XS
              rw [af] at a';injection a' with a';subst a'
              exact absurd J_.symm (m5 b v (by omega) aM)
          · by_cases Qb:b=i
            · subst Qb
              rw [af] at aM;injection aM with aM;subst aM
              exact absurd J_ (m5 a u (by omega) a')
            · exact bc a b u v (by rw [List.getElem?_take,if_pos (by omega)];exact a') (by rw [List.getElem?_take,if_pos (by omega)];exact aM) J_
        · cases aM
      · cases a'
 have bk:=key l.length 0 F (by omega) (by omega) (fun i j x y hi=>by simp at hi)
 have gQ:fg 0 (l.take 0)= []:=by simp [fg]
 rw [gQ] at bk
 rcases bk with ⟨jQ,aq⟩ | ⟨jQ,aq⟩
 · left
   refine ⟨jQ,aq,?_⟩
   rw [hA]
   have:((List.range l.length).findSome? fun i:Nat=>(l[i]?).bind fun x:aG=>if dm l x.Name=(i:Int) then none else some (6 :Int))=none:=by
    rw [List.findSome?_eq_none_iff]
    intro i hi
    obtain ⟨x,af⟩:∃ x,l[i]? =some x:=⟨l[i]'(by simpa using hi),List.getElem?_eq_getElem _⟩
    rw [af,Option.bind_some,if_pos (aim jQ af)]
   rw [this];rfl
 · right
   refine ⟨jQ,aq,?_⟩
   rw [hA]
   cases I:((List.range l.length).findSome? fun i:Nat=>(l[i]?).bind fun x:aG=>if dm l x.Name=(i:Int) then none else some (6 :Int)) with
   | some e=>
     obtain ⟨i,_,hi⟩:=List.exists_of_findSome?_eq_some I
     cases af:l[i]? with
     | none=>rw [af] at hi;cases hi
     | some x=>
       rw [af,Option.bind_some] at hi
       split at hi
       · cases hi
       · injection hi with hi;subst hi;rfl
   | none=>
     exfalso
     apply jQ
     have mx:∀ (i:Nat) (x:aG),l[i]? =some x->dm l x.Name=(i:Int):=by
      intro i x af
      have:=List.findSome?_eq_none_iff.1 I i (by have:=(List.getElem?_eq_some_iff.1 af).1;simpa using this)
      rw [af,Option.bind_some] at this
      split at this
      · assumption
      · cases this
     intro i j x y af hy e
     have aq:=mx i x af
     have aC:=mx j y hy
     rw [e] at aq
     omega
end Cin
namespace Cin
def wv {ρ oT:Type} (o:Option ρ) (a:oT):Way ρ oT:=match o with
 | some r=>.out r
 | none=>.go a
def SR {ρ oT:Type} (o:Option ρ) (y:Option (Way ρ oT)):Option (Way ρ oT):=match o with
 | some r=>some (.out r)
 | none=>y
theorem G0 {ρ oT:Type} {n:Nat} (T:Nat->Nat->Option (Way ρ oT)) (g:Nat->Option ρ) (fin:oT) (aY:∀ k i,i <n->T (k+ 1) i=SR (g i) (T k (i+ 1))) (he:∀ k,T (k+ 1) n=some (.go fin)) {F:Nat} (bu:n <F) :
 T F 0 =some (wv ((List.range n).findSome? g) fin):=by
 have key:∀ (d i k:Nat),i+d=n->d <k->T k i=some (wv (((List.range n).drop i).findSome? g) fin):=by
  intro d
  induction d with
  | zero=>
    intro i k h aZ
    obtain ⟨k,rfl⟩:∃ k',k=k'+ 1 :=⟨k - 1,by omega⟩
    have hi:i=n:=by omega
    subst hi
    rw [he,List.drop_of_length_le (by simp)];rfl
  | succ d cb=>
    intro i k h aZ
    obtain ⟨k,rfl⟩:∃ k',k=k'+ 1 :=⟨k - 1,by omega⟩
    have hi:i <n:=by omega
    rw [aY k i hi,List.drop_eq_getElem_cons (by simpa using hi),List.findSome?_cons]
    simp only [List.getElem_range]
    cases c0:g i with
    | some r=>rfl
    | none=>
      simp only [SR]
      exact cb (i+ 1) k (by omega) (by omega)
 have:=key n 0 F (by omega) bu
 simpa using this
theorem DY {α β Nb:Type} (g:α->Option β) (f:β->Nb):∀ l:List α,l.findSome? (fun c=>(g c).map f)=(l.findSome? g).map f
 | []=>rfl
 | c::r=>by
   simp only [List.findSome?_cons]
   cases g c with
   | some e=>rfl
   | none=>simp only [Option.map_none];exact DY g f r
def dC (l:List aG):List Int:=l.map fun c=>dm l c.bY
theorem MD {l:List aG} {i:Nat} {x:aG} (h:l[i]? =some x):(dC l)[i]? =some (dm l x.bY):=by simp [dC,h]
def pQ (c:aG):Option Int:=if (decide (c.Name= [79,98,106,101,99,116])) == (decide (c.bY= [])) then none else some 4
def nk (l:List aG) (c:aG):Option Int:=if c.bY= []\/ 0 <=dm l c.bY then none else some 5
section
variable {F:Nat} {l:List aG}
theorem akd (bu:100 <F) (h:Right l):y5 l F 0 =some (dv (l.findSome? pQ)):=each pQ (by have:=h.len;omega) (fun k i x af=>by
 rw [y5,cL (List.getElem?_eq_some_iff.1 af).1,cond_true,b3 af,Option.bind_some,Option.bind_some]
 unfold pQ
 cases (decide (x.Name= [79,98,106,101,99,116])) == (decide (x.bY= [])) <;> rfl) (fun k=>by rw [y5,cK];rfl) (by have:=h.len;omega)
theorem akc (bu:100 <F) (h:Right l) (m:List (List UInt8 × Int)) (s:List Int):rk ⟨l,m,s⟩ F 0 =some (dv ((l.findSome? pQ).map fun e=>(e,(⟨l,m,s⟩:cZ)))):=by
 have:=each (l:=l) (L:=rk ⟨l,m,s⟩) (fun c=>(pQ c).map fun e=>(e,(⟨l,m,s⟩:cZ))) (by have:=h.len;omega) (fun k i x af=>by
  rw [rk]
  show cond (decide ((i:Int) <(l.length:Int))) ((idx l (i:Int)).bind _) _=_
  rw [cL (List.getElem?_eq_some_iff.1 af).1,cond_true,b3 af,Option.bind_some]
  unfold pQ
  cases (decide (x.Name= [79,98,106,101,99,116])) == (decide (x.bY= [])) <;> rfl) (fun k=>by
   rw [rk]
   show cond (decide ((l.length:Int) <(l.length:Int))) _ _=_
   rw [cK];rfl) (F:=F) (by have:=h.len;omega)
 rw [this,DY]
theorem ah9 (bu:100 <F) (h:Right l):wM F l F 0 =some (dv (l.findSome? (nk l))):=each (nk l) (by have:=h.len;omega) (fun k i x af=>by
 have hlen:=h.len
 rw [wM,cL (List.getElem?_eq_some_iff.1 af).1,cond_true,b3 af,Option.bind_some,Option.bind_some,sl ⟨by omega,by omega⟩,Option.bind_some]
 unfold nk
 by_cases aY:x.bY= []
 · rw [if_pos (.inl aY),decide_eq_true aY];rfl
 · rw [decide_eq_false aY]
   by_cases hc:0 <=dm l x.bY
   · rw [if_pos (.inr hc),decide_eq_false (show ¬ dm l x.bY < 0 by omega)];rfl
   · rw [if_neg (by simp [aY,hc]),decide_eq_true (show dm l x.bY < 0 by omega)];rfl) (fun k=>by rw [wM,cK];rfl) (by have:=h.len;omega)
theorem U6 (h:Right l):dm l []= -1 :=by
 unfold dm
 cases bD:eT (iP []) l with
 | none=>rfl
 | some i=>
   obtain ⟨x,aq,aC,_⟩:=BW bD
   have:=agW (h.name x (List.mem_of_getElem? aq))
   simp [iP] at aC
   exact absurd aC this
theorem ah8 (bu:100 <F) (h:Right l):∃ o:Option (Int × cZ),o.map (·.1)=l.findSome? (nk l)/\mF ⟨l,fg 0 l,[]⟩ F [] 0 =some (wv o (dC l)):=by
 have hlen:=h.len
 refine ⟨(List.range l.length).findSome? fun i=>((l[i]?).bind (nk l)).map fun e=>(e,(⟨l,fg 0 l,(dC l).take i⟩:cZ)),?_,?_⟩
 · have bn:∀ (n:Nat),n<=l.length->((List.range' (l.length - n) n).findSome? fun i=>((l[i]?).bind (nk l)).map fun e=>(e,(⟨l,fg 0 l,(dC l).take i⟩:cZ))).map (·.1)=(l.drop (l.length - n)).findSome? (nk l):=by
    intro n
    induction n with
    | zero=>intro _;simp
    | succ n cb=>
      intro ad
      have hi:l.length - (n+ 1) <l.length:=by omega
      rw [List.range'_succ,List.findSome?_cons,List.drop_eq_getElem_cons hi,List.findSome?_cons,List.getElem?_eq_getElem hi,Option.bind_some]
      cases nk l l[l.length - (n+ 1)] with
      | some e=>rfl
      | none=>
        simp only [Option.map_none]
        rw [show l.length - (n+ 1)+ 1 =l.length - n by omega]
        exact cb (by omega)
   have:=bn l.length (Nat.le_refl _)
   simpa [List.range_eq_range'] using this
 · refine G0 (n:=l.length) (fun k i=>mF ⟨l,fg 0 l,[]⟩ k ((dC l).take i) (i:Int)) _ (dC l) (fun k i hi=>?_) (fun k=>?_) (F:=F) (by omega)
   · obtain ⟨x,af⟩:∃ x,l[i]? =some x:=⟨l[i],List.getElem?_eq_getElem hi⟩
     show mF ⟨l,fg 0 l,[]⟩ (k+ 1) ((dC l).take i) (i:Int)=_
     rw [mF]
     show cond (decide ((i:Int) <(l.length:Int))) (dG (α:=List Int) ((idx l (i:Int)).bind _) _) _=_
     rw [cL hi,cond_true,b3 af,Option.bind_some,af,Option.bind_some]
     have Qm:cW (fg 0 l) x.bY=(eT (iP x.bY) l).map fun n:Nat=>((n+ 0 :Nat):Int):=xW x.bY l 0
     have df:(dC l).take (i+ 1)=(dC l).take i++[dm l x.bY]:=by rw [List.take_add_one,MD af];rfl
     have H3:ei 8 ((dC l).take i) [dm l x.bY]=some ((dC l).take (i+ 1)):=by
      unfold ei
      rw [if_pos (by simp only [List.length_take,List.length_cons,List.length_nil];omega),df]
     have fin:∀ n:Int,n=dm l x.bY->dG (α:=List Int) (dG (α:=Int) (ρ:=Int × cZ) (some (.go n)) fun (oy:Int)=>(ei 8 ((dC l).take i) [oy]).bind fun vR=>some (.go vR)) (fun (oi:List Int)=>mF ⟨l,fg 0 l,[]⟩ k oi (ay ((i:Int)+ 1)))=mF ⟨l,fg 0 l,[]⟩ k ((dC l).take (i+ 1)) ((i+ 1 :Nat):Int):=by
      intro n ad
      subst ad
      rw [lY,H3,Option.bind_some,lY,gB hi (by omega)]
     unfold nk
     by_cases aY:x.bY= []
     · rw [if_pos (.inl aY),decide_eq_true aY,cond_true]
       exact fin (-1) (by rw [aY,U6 h])
     · rw [decide_eq_false aY,cond_false]
       cases bD:eT (iP x.bY) l with
       | none=>
         have A9:dm l x.bY < 0 :=U5.2 bD
         rw [if_neg (by simp [aY];omega),Qm,bD]
         rfl
       | some j=>
         have tf:dm l x.bY=(j:Int):=by unfold dm;rw [bD];rfl
         rw [if_pos (.inr (by omega)),Qm,bD]
         exact fin _ (by rw [tf];simp)
   · show mF ⟨l,fg 0 l,[]⟩ (k+ 1) ((dC l).take l.length) (l.length:Int)=_
     rw [mF]
     show cond (decide ((l.length:Int) <(l.length:Int))) _ _=_
     rw [cK,cond_false,List.take_of_length_le (by simp [dC])]
def dQ (S:List Int):Nat->Int->Option (List Int)
 | 0,n=>if n < 0 then some [] else none
 | k+ 1,n=>if n < 0 then some [] else (idx S n).bind fun m=>(dQ S k m).map (n:: ·)
theorem SH {S:List Int}:∀ {k:Nat} {n:Int} {c:List Int},dQ S k n=some c->dQ S (k+ 1) n=some c
 | 0,n,c,h=>by
   simp only [dQ] at h ⊢
   split at h
   · rename_i ad;rw [if_pos ad];exact h
   · cases h
 | k+ 1,n,c,h=>by
   rw [dQ] at h ⊢
   split at h
   · rename_i ad;rw [if_pos ad];exact h
   · rename_i ad
     rw [if_neg ad]
     cases hi:idx S n with
     | none=>rw [hi] at h;cases h
     | some m=>
       rw [hi,Option.bind_some] at h
       rw [Option.bind_some]
       cases hu:dQ S k m with
       | none=>rw [hu] at h;cases h
       | some dw=>rw [hu] at h;rw [SH hu];exact h
theorem Fx {S:List Int} {k k':Nat} {n:Int} {c:List Int} (h:dQ S k n=some c) (aZ:k<=k'):dQ S k' n=some c:=by
 obtain ⟨d,rfl⟩:∃ d,k'=k+d:=⟨k' - k,by omega⟩
 clear aZ
 induction d with
 | zero=>exact h
 | succ d cb=>exact SH cb
theorem akq {S:List Int} {k k':Nat} {n:Int} {c dw:List Int} (h:dQ S k n=some c) (dh:dQ S k' n=some dw):c=dw:=by
 have aq:=Fx h (Nat.le_max_left k k')
 have aC:=Fx dh (Nat.le_max_right k k')
 rw [aq] at aC
 exact Option.some.inj aC
theorem SG {S:List Int}:∀ {k:Nat} {n:Int} {c:List Int},dQ S k n=some c->c.length<=k/\dQ S c.length n=some c
 | 0,n,c,h=>by
   simp only [dQ] at h
   split at h
   · rename_i ad
     injection h with h
     subst h
     simp [dQ,ad]
   · cases h
 | k+ 1,n,c,h=>by
   have bk:=h
   rw [dQ] at h
   split at h
   · rename_i ad
     injection h with h
     subst h
     simp [dQ,ad]
   · rename_i ad
     cases hi:idx S n with
     | none=>rw [hi] at h;cases h
     | some m=>
       rw [hi,Option.bind_some] at h
       cases hu:dQ S k m with
       | none=>rw [hu] at h;cases h
       | some dw=>
         rw [hu] at h
         simp only [Option.map_some,Option.some.injEq] at h
         subst h
         obtain ⟨aq,aC⟩:=SG hu
         refine ⟨by simpa using aq,?_⟩
         rw [List.length_cons,dQ,if_neg ad,hi,Option.bind_some,aC];rfl
theorem Fy {S:List Int}:∀ {k:Nat} {n:Int} {c:List Int},dQ S k n=some c-> ∀ x ∈ c,(0 <=x/\x <S.length)/\ ∃ k' dw,dQ S k' x=some dw/\dw.length<=c.length/\dw≠ []
 | 0,n,c,h,x,af=>by
   simp only [dQ] at h
   split at h
   · injection h with h;subst h;cases af
   · cases h
 | k+ 1,n,c,h,x,af=>by
   have bk:=h
   rw [dQ] at h
   split at h
   · injection h with h;subst h;cases af
   · rename_i ad
     cases hi:idx S n with
     | none=>rw [hi] at h;cases h
     | some m=>
       rw [hi,Option.bind_some] at h
       cases hu:dQ S k m with
       | none=>rw [hu] at h;cases h
       | some dw=>
         rw [hu] at h
         simp only [Option.map_some,Option.some.injEq] at h
         subst h
         obtain ⟨anc,h1,_⟩:=ti hi
         rcases List.mem_cons.1 af with rfl | e
         · exact ⟨⟨by omega,by omega⟩,k+ 1,_,bk,Nat.le_refl _,by simp⟩
         · obtain ⟨aq,k',dU,aC,bw,dz⟩:=Fy hu x e
           exact ⟨aq,k',dU,aC,by simp only [List.length_cons];omega,dz⟩
theorem SF {S:List Int}:∀ {k:Nat} {n:Int} {c:List Int},dQ S k n=some c->c.Nodup
 | 0,n,c,h=>by
   simp only [dQ] at h
   split at h
   · injection h with h;subst h;simp
   · cases h
 | k+ 1,n,c,h=>by
   have bk:=h
   rw [dQ] at h
   split at h
   · injection h with h;subst h;simp
   · cases hi:idx S n with
     | none=>rw [hi] at h;cases h
     | some m=>
       rw [hi,Option.bind_some] at h
       cases hu:dQ S k m with
       | none=>rw [hu] at h;cases h
       | some dw=>
         rw [hu] at h
         simp only [Option.map_some,Option.some.injEq] at h
         subst h
         refine List.nodup_cons.2 ⟨fun m5=>?_,SF hu⟩
         obtain ⟨_,k',dU,aC,bw,_⟩:=Fy hu n m5
         have:=akq bk aC
         subst this
         simp only [List.length_cons] at bw
         omega
theorem LN:∀ (n:Nat) (c:List Nat),c.Nodup->(∀ x ∈ c,x <n)->c.length<=n
 | 0,c,_,h=>by
   cases c with
   | nil=>simp
   | cons x r=>exact absurd (h x (by simp)) (by omega)
 | n+ 1,c,bG,h=>by
   by_cases ad:n ∈ c
   · have aq:=LN n (c.erase n) (bG.erase n) (fun x af=>by
      have aC:=(bG.mem_erase_iff).1 af
      have:=h x aC.2
      omega)
     rw [List.length_erase_of_mem ad] at aq
     omega
   · have:=LN n c bG (fun x af=>by
      have aq:=h x af
      have:x≠n:=fun e=>ad (e ▸ af)
      omega)
     omega
theorem SE {S:List Int} {k:Nat} {n:Int} {c:List Int} (h:dQ S k n=some c):c.length<=S.length:=by
 have bD:=Fy h
 have bG:=SF h
 have:=LN S.length (c.map Int.toNat) (by
  rw [List.Nodup,List.pairwise_map]
  refine List.Pairwise.imp_of_mem ?_ bG
  intro a b a' aM xi e
  have aq:=(bD a a').1
  have aC:=(bD b aM).1
  exact xi (by omega)) (fun x af=>by
  obtain ⟨y,hy,rfl⟩:=List.mem_map.1 af
  have aq:=(bD y hy).1
  omega)
 simpa using this
theorem akp {S:List Int} {k:Nat} {n:Int} (aZ:S.length<=k):dQ S k n=dQ S S.length n:=by
 cases h:dQ S k n with
 | some c=>
   obtain ⟨_,aC⟩:=SG h
   exact (Fx aC (SE h)).symm
 | none=>
   cases dh:dQ S S.length n with
   | none=>rfl
   | some c=>rw [Fx dh aZ] at h;cases h
theorem U1 {m:List (List UInt8 × Int)} {S:List Int} {k:Nat} {n:Int} {c:List Int} (h:dQ S k n=some c) (hc:c.length<= 1000) (bu:1001 <F):rm F ⟨l,m,S⟩ n=some c:=by
 have key:∀ (k:Nat) (n:Int) (c acc:List Int) (f:Nat),dQ S k n=some c->c.length <f->acc.length+c.length<= 1000 ->rn ⟨l,m,S⟩ f acc n=some (acc++c):=by
  intro k
  induction k with
  | zero=>
    intro n c acc f h I _
    obtain ⟨f,rfl⟩:∃ eU,f=eU+ 1 :=⟨f - 1,by omega⟩
    simp only [dQ] at h
    split at h
    · injection h with h
      subst h
      rw [rn,decide_eq_false (by omega)]
      simp
    · cases h
  | succ k cb=>
    intro n c acc f h I ag
    obtain ⟨f,rfl⟩:∃ eU,f=eU+ 1 :=⟨f - 1,by omega⟩
    rw [dQ] at h
    split at h
    · injection h with h
      subst h
      rw [rn,decide_eq_false (by omega)]
      simp
    · rename_i ad
      cases hi:idx S n with
      | none=>rw [hi] at h;cases h
      | some x=>
        rw [hi,Option.bind_some] at h
        cases hu:dQ S k x with
        | none=>rw [hu] at h;cases h
        | some dw=>
          rw [hu] at h
          simp only [Option.map_some,Option.some.injEq] at h
          subst h
          simp only [List.length_cons] at I ag
          rw [rn,decide_eq_true (by omega),cond_true]
          unfold ei
          rw [if_pos (by simp only [List.length_cons,List.length_nil];omega)]
          show ((some (acc++[n])).bind fun vP=>(idx S n).bind fun eX=>_)=_
          rw [Option.bind_some,hi,Option.bind_some,cb x dw (acc++[n]) f hu (by omega) (by simp only [List.length_append,List.length_cons,List.length_nil];omega)]
          simp
 unfold rm
 rw [key k n c [] F h (by omega) (by simp;omega)]
 rfl
end
end Cin
