/- Part 6 of the proof that is ended in the last text: small logic, what the functions compute, walks, plain laws. -/
import Derived.Test.YteeliipnilghaaaGreatFl5
import Derived.Maps.RangeRun
import Derived.KernelRfl
namespace bn
open Go Go.RowKit au J Go.ChangeMaps
section
variable {P:Program} {ops:Array Oper} {o:Oper} {rest:List Oper} {a:Act} {w w':World} {v:Value} {Q:Exit->Act->World->Prop}
theorem gk (ax:o.guard=none) (hy:bb P o a w v w') (k:wpList P ops Q rest (a.put o.dst v) w'):wpList P ops Q (o::rest) a w:=by
 refine wpList_plain ax fun X9 zw=>?_
 unfold Oper.wp
 rw [show (execOp a.eval o).run P w= .ok (.value v) w' from hy]
 exact zw _ _ k
structure X8 (w:World) (r bm since clock:Nat) (es:Array MapEntry) (acc:List MapEntry):Prop where
 it:∃ eS,since<=eS/\w.heap[r]? =some (.mapIter (some bm) since ⟨acc.map (·.born)⟩ eS)
 mp:w.heap[bm]? =some (.map es clock)
theorem axV {l:List MapEntry} (h:(l.map (·.born)).Nodup):∀ {x y:MapEntry},x ∈ l->y ∈ l->x.born=y.born->x=y:=by
 induction l with
 | nil=>intro x y ad;simp at ad
 | cons z r bq=>
   intro x y ad hy e
   rw [List.map_cons] at h
   have aJ:=List.nodup_cons.1 h
   rcases List.mem_cons.1 ad with ex | zP
   · rcases List.mem_cons.1 hy with vS | tC
     · rw [ex,vS]
     · refine absurd ?_ aJ.1
       rw [<-ex,e]
       exact List.mem_map_of_mem (f:=(·.born)) tC
   · rcases List.mem_cons.1 hy with vS | tC
     · refine absurd ?_ aJ.1
       rw [<-vS,<-e]
       exact List.mem_map_of_mem (f:=(·.born)) zP
     · exact bq aJ.2 zP tC e
theorem TA {α β:Type} {f:α->β}:∀ {l:List α},(l.map f).Nodup->l.Nodup
 | [],_=>List.nodup_nil
 | a::r,h=>by
   have aJ:=List.nodup_cons.1 (show (f a::r.map f).Nodup from h)
   exact List.nodup_cons.2 ⟨fun hm=>aJ.1 (List.mem_map_of_mem hm),TA aJ.2⟩
theorem adK:∀ {o Y:List Nat},o.Nodup->(∀ a ∈ o,a ∈ Y)->o.length<=Y.length
 | [],Y,_,_=>Nat.zero_le _
 | a::r,Y,aJ,ao=>by
   have aJ:=List.nodup_cons.1 aJ
   have aK:a ∈ Y:=ao a (by simp)
   have I:=adK (o:=r) (Y:=Y.erase a) aJ.2 fun b ag=>(List.mem_erase_of_ne fun e=>by subst e;exact aJ.1 ag).2 (ao b (by simp [ag]))
   rw [List.length_erase_of_mem aK] at I
   have:0 <Y.length:=List.length_pos_of_mem aK
   simp only [List.length_cons]
   omega
theorem auV {es:List MapEntry} {acc:List MapEntry} (aJ:(es.map (·.born)).Nodup) (aK:(acc.map (·.born)).Nodup) (ao:∀ e ∈ acc,e ∈ es) (aq:∀ e ∈ es,e.born ∈ acc.map (·.born)):acc.Perm es:=by
 have axp:acc.Nodup:=TA aK
 have ne:es.Nodup:=TA aJ
 refine (List.perm_ext_iff_of_nodup axp ne).2 fun e=>⟨ao e,fun he=>?_⟩
 obtain ⟨x,ad,ak⟩:=List.mem_map.1 (aq e he)
 have:=axV aJ (ao x ad) he ak
 exact this ▸ ad
def Vl (sM zl gM mP:Nat) (tok:Nat) (ku nH mN k6 nI:Oper) (c:Code):Code:=
 .block sM (.loop (.seq (.region gM #[ku,nH] false) (.seq (.cond (.tmp tok) .skip (.exit sM)) (.block zl (.seq (.region mP #[mN,k6,nI] false) c)))))
theorem uv {d:Option Nat} {v:Value}:(a.put d v).tmps.size=a.tmps.size:=by
 cases d <;> simp [Act.put]
theorem E4 {d t:Nat} {v:Value} (h:d≠t):(a.put (some d) v).tmps.getD t undef=a.tmps.getD t undef:=by
 simp only [Act.put,Array.getD_eq_getD_getElem?,Array.getElem?_setIfInBounds,if_neg h]
theorem v3 {d:Nat} {v:Value} (h:d <a.tmps.size):(a.put (some d) v).tmps.getD d undef=v:=by
 rw [v0 h,if_pos rfl]
theorem zq {t:Nat}:a.eval (.tmp t)=a.tmps.getD t undef:=rfl
def qP (l:List Nat) (a aX:Act):Prop:=aX.tmps.size=a.tmps.size/\aX.defers=a.defers/\ ∀ t,t ∉ l->aX.tmps.getD t undef=a.tmps.getD t undef
theorem qP.refl {l:List Nat} {a:Act}:qP l a a:=⟨rfl,rfl,fun _ _=>rfl⟩
theorem qP.put {l:List Nat} {a aX:Act} {d:Nat} {v:Value} (h:qP l a aX) (aM:d ∈ l):qP l a (aX.put (some d) v):=
 ⟨uv.trans h.1,h.2.1,fun t aO=>by rw [E4 (fun (e:d=t)=>aO (by rw [<-e];exact aM))];exact h.2.2 t aO⟩
theorem auW {n sM zl gM mP r bm since clock ti tn tok te tk tv:Nat} {ku nH mN k6 nI:Oper} {c:Code} {es:Array MapEntry} (iP:List MapEntry->Act->World->Prop)
 (nj:ku.op= .next (.tmp ti) false/\ku.dst=some tn/\ku.guard=none) (a3:nH.op= .extract (.tmp tn) 0 /\nH.dst=some tok/\nH.guard=none)
 (ar2:mN.op= .entry (.tmp ti)/\mN.dst=some te/\mN.guard=none) (cG:k6.op= .extract (.tmp te) 0 /\k6.dst=some tk/\k6.guard=none) (oq:nI.op= .assign (.tmp tk)/\nI.dst=some tv/\nI.guard=none)
 (ag:(Nat.blt tn n && Nat.blt tok n && Nat.blt te n && Nat.blt tk n)=true) (b3:(!(Nat.beq tn ti) && !(Nat.beq tok ti) && !(Nat.beq te ti) && !(Nat.beq tk ti) && !(Nat.beq tok tn) && !(Nat.beq tk te))=true)
 (hold:∀ x ∈ es.toList,x.born <since) (at7:since<=clock) (ow:(es.toList.map (·.born)).Nodup)
 (kR:∀ acc a w,iP acc a w->a.tmps.size=n/\a.tmps.getD ti undef= .pointer (some ⟨r,0,none⟩)/\X8 w r bm since clock es acc/\(acc.map (·.born)).Nodup/\ ∀ e ∈ acc,e ∈ es.toList)
 (at3:∀ acc e a aX w w',iP acc a w->e ∈ es.toList->e.born ∉ acc.map (·.born)->qP [tn,tok,te,tk,tv] a aX->(tv <n->aX.tmps.getD tv undef=e.key)->bp [r] w w'->w'.heap.size=w.heap.size->(∃ eS,since<=eS/\w'.heap[r]? =some (.mapIter (some bm) since ⟨(acc++[e]).map (·.born)⟩ eS)) ->
  c.wp P (fun x aX w'=>x= .normal/\iP (acc++[e]) aX w') aX w')
 (zE:∀ acc a aX w,iP acc a w->acc.Perm es.toList->qP [tn,tok] a aX->Q .normal aX w) (aQ:iP [] a w):(Vl sM zl gM mP tok ku nH mN k6 nI c).wp P Q a w:=by
 simp only [Bool.and_eq_true,Bool.not_eq_true'] at ag b3
 obtain ⟨⟨⟨bY,eA⟩,hJ⟩,hZ⟩:=ag
 have bY:tn <n:=Nat.le_of_ble_eq_true bY
 have eA:tok <n:=Nat.le_of_ble_eq_true eA
 have hJ:te <n:=Nat.le_of_ble_eq_true hJ
 have hZ:tk <n:=Nat.le_of_ble_eq_true hZ
 obtain ⟨⟨⟨⟨⟨rJ,rM⟩,adG⟩,aHg⟩,aHh⟩,aHi⟩:=b3
 have rJ:tn≠ti:=fun e=>by subst e;simp at rJ
 have rM:tok≠ti:=fun e=>by subst e;simp at rM
 have adG:te≠ti:=fun e=>by subst e;simp at adG
 obtain ⟨v7,abv,abw⟩:=nj
 obtain ⟨abn,abo,abp⟩:=a3
 obtain ⟨ar3,ar4,ar5⟩:=ar2
 obtain ⟨s3,s4,pJ⟩:=cG
 obtain ⟨asm,asn,aso⟩:=oq
 unfold Vl
 refine wp_block (wp_loop_ghost (fun m a w=>∃ acc,iP acc a w/\m=es.size - acc.length) _ ⟨[],aQ,rfl⟩ fun m a w hm=>?_)
 obtain ⟨acc,hi,CB⟩:=hm
 obtain ⟨sz,aca,⟨⟨eS,kU,wb⟩,ki⟩,aJ,ao⟩:=kR acc a w hi
 refine wp_seq (wp_region_list ?_)
 have im:a.eval (.tmp ti)= .pointer (some ⟨r,0,none⟩):=aca
 rcases run_next_at (P:=P) w ku.type r bm since eS ⟨acc.map (·.born)⟩ es clock wb ki hold kU with ⟨aq,fO⟩ | ⟨e,he,er,CH,fO⟩
 · have cL:bb P ku a w (.tuple #[.bool false]) w:=by
    simp only [bb,execOp,v7,im,Sem.run_bind,fO,Result.andThen];rfl
   refine gk abw cL ?_
   rw [abv]
   refine gk abp (Iw (vs:=[.bool false]) (i:=0) (v:=.bool false) abn (by rw [zq,v3 (by rw [sz];exact bY)]) rfl) ?_
   rw [abo]
   have Rv:(((a.put (some tn) (.tuple #[.bool false])).put (some tok) (.bool false)).eval (.tmp tok))= .bool false:=by rw [zq,v3 (by rw [uv,sz];exact eA)]
   refine wp_seq (wp_cond_split Rv (fun h=>by cases h) fun _=>wp_exit ?_)
   simp only [Exit.then,Exit.inBlock,if_true]
   refine zE acc a _ w hi (auV ow aJ ao fun e he=>?_) ((qP.refl.put (by simp)).put (by simp))
   have pP:leftOf es ⟨acc.map (·.born)⟩= #[]:=Array.eq_empty_of_size_eq_zero aq
   apply Classical.byContradiction
   intro hc
   have:e ∈ (leftOf es ⟨acc.map (·.born)⟩).toList:=by
    unfold leftOf
    simp only [Array.toList_filter,List.mem_filter]
    exact ⟨he,by simpa using hc⟩
   rw [pP] at this
   simp at this
 · have Rr:e ∈ es.toList/\e.born ∉ acc.map (·.born):=by
    unfold leftOf at he
    simp only [Array.toList_filter,List.mem_filter] at he
    exact ⟨he.1,by simpa using he.2⟩
   obtain ⟨Fs,CC⟩:=Rr
   obtain ⟨db,mE⟩:∃ db,db=setBlock er r (.mapIter (some bm) since ((⟨acc.map (·.born)⟩:Array Nat).push e.born) clock):=⟨_,rfl⟩
   rw [<-mE] at fO
   have Cz:er.heap=w.heap:=by rcases CH with rfl | rfl <;> rfl
   have CG:r <w.heap.size:=by
    rcases Nat.lt_or_ge r w.heap.size with h | h
    · exact h
    · rw [Array.getElem?_eq_none h] at wb;cases wb
   have atP:((⟨acc.map (·.born)⟩:Array Nat).push e.born)=⟨(acc++[e]).map (·.born)⟩:=by simp
   have oy:db.heap[r]? =some (.mapIter (some bm) since ((⟨acc.map (·.born)⟩:Array Nat).push e.born) clock):=by
    rw [mE]
    simp only [setBlock,Cz]
    rw [Array.getElem?_setIfInBounds,if_pos rfl,if_pos CG]
   have ab3:∀ k,k≠r->db.heap[k]? =w.heap[k]? :=fun k aj=>by
    rw [mE]
    simp only [setBlock,Cz]
    rw [Array.getElem?_setIfInBounds,if_neg (fun e=>aj e.symm)]
   have asG:bm≠r:=fun e=>by rw [e,wb] at ki;cases ki
   have FX:db.heap.size=w.heap.size:=by rw [mE];simp [setBlock,Cz]
   have lD:bp [r] w db:=⟨by rw [mE];rcases CH with rfl | rfl <;> rfl,by rw [mE];rcases CH with rfl | rfl <;> rfl,by rw [mE];rcases CH with rfl | rfl <;> rfl,by rw [FX];exact Nat.le_refl _,fun k _ aj=>ab3 k (by simpa using aj)⟩
   have cL:bb P ku a w (.tuple #[.bool true,e.key,e.val]) db:=by
    simp only [bb,execOp,v7,im,Sem.run_bind,fO,Result.andThen];rfl
   refine gk abw cL ?_
   rw [abv]
   refine gk abp (Iw (vs:=[.bool true,e.key,e.val]) (i:=0) (v:=.bool true) abn (by rw [zq,v3 (by rw [sz];exact bY)]) rfl) ?_
   rw [abo]
   have Rv:(((a.put (some tn) (.tuple #[.bool true,e.key,e.val])).put (some tok) (.bool true)).eval (.tmp tok))= .bool true:=by rw [zq,v3 (by rw [uv,sz];exact eA)]
   refine wp_seq (wp_cond_split Rv (fun _=>wp_skip ?_) fun h=>by cases h)
   refine wp_block (wp_seq (wp_region_list ?_))
   obtain ⟨cQ,Kg⟩:∃ cQ,cQ=(a.put (some tn) (.tuple #[.bool true,e.key,e.val])).put (some tok) (.bool true):=⟨_,rfl⟩
   rw [<-Kg]
   have VI:cQ.tmps.size=n:=by rw [Kg,uv,uv,sz]
   have aue:cQ.eval (.tmp ti)= .pointer (some ⟨r,0,none⟩):=by rw [Kg,zq,E4 rM,E4 rJ];exact aca
   have as2:=run_entry_at (P:=P) db r bm since ⟨acc.map (·.born)⟩ es clock e oy (by rw [ab3 bm asG];exact ki) Fs ow
   have qJ:bb P mN cQ db (.tuple #[e.key,e.val]) db:=by
    simp only [bb,execOp,ar3,aue,Sem.run_bind,as2,Result.andThen];rfl
   refine gk ar5 qJ ?_
   rw [ar4]
   refine gk pJ (Iw (vs:=[e.key,e.val]) (i:=0) (v:=e.key) s3 (by rw [zq,v3 (by rw [VI];exact hJ)]) rfl) ?_
   rw [s4]
   refine gk aso (Xy asm (v:=e.key) (by rw [zq,v3 (by rw [uv,VI];exact hZ)])) ?_
   rw [asn]
   have ox:qP [tn,tok,te,tk,tv] a (((cQ.put (some te) (.tuple #[e.key,e.val])).put (some tk) e.key).put (some tv) e.key):=by
    rw [Kg]
    exact ((((qP.refl.put (by simp)).put (by simp)).put (by simp)).put (by simp)).put (by simp)
   have:=at3 acc e a _ w db hi Fs CC ox (fun R7=>v3 (by rw [uv,uv,VI];exact R7)) lD FX ⟨clock,at7,by rw [oy,atP]⟩
   refine Code.wp_mono (fun x aX w' aT=>?_) this
   obtain ⟨rfl,aT⟩:=aT
   refine ⟨es.size - (acc++[e]).length,?_,acc++[e],aT,rfl⟩
   have bE:acc.length <es.size:=by
    have I:((acc++[e]).map (·.born)).Nodup:=(kR _ _ _ aT).2.2.2.1
    have aa:=adK I (Y:=es.toList.map (·.born)) fun x ad=>by
     obtain ⟨z,ai,rfl⟩:=List.mem_map.1 ad
     exact List.mem_map_of_mem ((kR _ _ _ aT).2.2.2.2 z ai)
    simp at aa
    omega
   simp
   omega
end
end bn
namespace bn
open Go Go.RowKit au J
section
variable {E:Env}
@[reducible] def aHn {T:bT} (e8:List Nat) (bt:List cO) (pbs:List bI) (gD:j7) (fn:dp T.El bt × cF T.El pbs->Option (Ek T.El gD)):fI T:=⟨e8,bt,pbs,[gD],fun _ d=>fn d⟩
end
end bn
namespace bn
open Go Go.RowKit au J
section
variable {E:Env} {br:e6 E} {W:World} {M0:List Nat} {X:Nat->Prop} {n:cE} {b0:List (aC E.T.El)} {ρ0:List Value} {w0:World} {ops:Array Oper} {Q:Exit->Act->World->Prop}
theorem TJ (a3:c8 E) (aD:j4 E br) {rest:List Oper}:∀ (os:List Oper) {s:eG E.T.El} {t:cf E.T.El} {ρ:List Value} {a:Act} {w:World},(opsL E br ops n.n os s).out t->t.x= .nm->ig E W M0 X n b0 ρ0 w0 s ρ a w->(∀ ρ' aX w',ig E W M0 X n b0 ρ0 w0 t.s ρ' aX w'->wpList E.P ops Q rest aX w')->wpList E.P ops Q (os++rest) a w
 | [],s,t,ρ,a,w,ai,_,h,k=>by
   have ai:(⟨.nm,s⟩:cf E.T.El)=t:=ai
   subst ai
   exact k ρ a w h
 | o::r,s,t,ρ,a,w,ai,FP,h,k=>by
   simp only [opsL] at ai
   show wpList E.P ops Q (o::(r++rest)) a w
   split at ai
   · obtain ⟨q,I,aa⟩:=D.ja ai
     rw [Aw] at aa
     obtain ⟨d,aM,u,aE,hy⟩:=T2 (ops:=ops) a3 h.r I
     have next:=TJ a3 aD r aa FP (ρ:=ρ) (a:=a.put (some d) u) (w:=w) ⟨aE,h.to,h.wr⟩ k
     refine wpList_step fun K cG=>?_
     rcases hy with ⟨hw,hy⟩ | ⟨hw,hy⟩
     · rw [if_pos hw]
       unfold Oper.wp
       rw [show (execOp a.eval o).run E.P w=_ from hy.now]
       show K (a.put o.dst u) w
       rw [aM]
       exact cG _ _ next
     · rw [if_neg (by simp [hw]),aM,<-hy]
       exact cG _ _ next
   · exact ai.elim
   · obtain ⟨t1,I,aa⟩:=D.ja ai
     have ad:=Xv a3 aD h.r I
     have ad:=ad (wpList E.P ops Q (r++rest)) Q fun ρ' aX w' aE aO hw=>by
      have ao:=h.next aE aO hw
      cases jR:t1.x with
      | nm=>
        rw [jR] at aa
        simp only [Aw,Lz] at aa
        exact TJ a3 aD r aa FP ao k
      | ex id=>
        rw [jR] at aa
        have aa:(⟨.ex id,t1.s.f,t1.s.bl,t1.s.ws++s.ws⟩:cf E.T.El)=t:=aa
        subst aa
        cases FP
      | rt=>
        rw [jR] at aa
        have aa:(⟨.rt,t1.s.f,t1.s.bl,t1.s.ws++s.ws⟩:cf E.T.El)=t:=aa
        subst aa
        cases FP
      | hl y=>
        rw [jR] at aa
        have aa:(⟨.hl y,t1.s.f,t1.s.bl,t1.s.ws++s.ws⟩:cf E.T.El)=t:=aa
        subst aa
        cases FP
     unfold wpList
     split
     · rename_i hw
       rw [if_pos hw] at ad
       exact .inl ad
     · rename_i hw
       rw [if_neg hw] at ad
       exact ad
def Om (E:Env):e6 E:=fun _ _ _=>.no
theorem ard:j4 E (Om E):=⟨fun _ _ _ _ h=>h.elim⟩
theorem arN (dZ:E.cZ= []) {lq:Nat->Prop} {bl':List (aC E.T.El)} {ρ':List Value} {w':World}:∀ g y,cJ E.cZ g=some y->ar E.T (bh lq bl' ρ' w') w' ρ' bl' y (.pointer (some ⟨g,0,none⟩)):=fun g y ax=>by rw [dZ] at ax;simp [cJ] at ax
theorem aw6 (dZ:E.cZ= []) {bl:List (aC E.T.El)} {ρ:List Value} {a:Act} {w:World} {fr:List (Nat × aF E.T.El)} (hm:Mem E.T W M0 X bl ρ w) (I:a.tmps.size=n.n) (aa:a.defers=n.ds) (aw:∀ t y,cJ fr t=some y->ar E.T (bh X bl ρ w) w ρ bl y (a.tmps.getD t undef)):R E W M0 X n ⟨fr,[],[]⟩ bl ρ a w:=
 ⟨hm,⟨⟨I,aa,aw⟩,fun p aN=>by simp at aN,fun p aN=>by simp at aN⟩,arN dZ⟩
theorem aw7 {f:cu E.T.El} {bl:List (aC E.T.El)} {ρ:List Value} {a:Act} {w:World} (h:R E W M0 X n f bl ρ a w):ig E W M0 X n bl ρ w ⟨f,bl,[]⟩ ρ a w:=⟨h,.refl,.nil⟩
end
end bn
namespace bn
open Go Go.RowKit au J Go.ChangeMaps
structure yz where
 Vm:Nat
 ops:Array Oper
 sM:Nat
 zl:Nat
 gM:Nat
 mP:Nat
 tok:Nat
 ku:Oper
 nH:Oper
 mN:Oper
 k6:Oper
 nI:Oper
 c5:Nat
 AA:Array Oper
 gz:Nat
 G':Array Oper
def yz.x (d:yz):Code:=.seq (.region d.Vm d.ops false) (Vl d.sM d.zl d.gM d.mP d.tok d.ku d.nH d.mN d.k6 d.nI (.region d.c5 d.AA false))
def yz.r (d:yz):Code:=.region d.gz d.G' false
def LI:Code->Code->Option yz
 | .seq (.region Vm ops false) (.block sM (.loop (.seq (.region gM ⟨[ku,nH]⟩ false) (.seq (.cond (.tmp tok) .skip (.exit an8)) (.block zl (.seq (.region mP ⟨[mN,k6,nI]⟩ false) (.region c5 AA false))))))),.region gz G' false=>match Nat.beq sM an8 with
   | true=>some ⟨Vm,ops,sM,zl,gM,mP,tok,ku,nH,mN,k6,nI,c5,AA,gz,G'⟩
   | false=>none
 | _,_=>none
theorem aym {x r:Code} {d:yz} (h:LI x r=some d):x=d.x/\r=d.r:=by
 unfold LI at h
 split at h
 · split at h
   · rename_i ag
     cases h
     rw [<-Nat.eq_of_beq_eq_true ag]
     exact ⟨rfl,rfl⟩
   · cases h
 · cases h
section
variable {E:Env} {br:e6 E} {W:World} {M0:List Nat} {X:Nat->Prop} {n:cE} {ops:Array Oper} {Q:Exit->Act->World->Prop}
theorem Mem.aaB {bl bl':List (aC E.T.El)} {ρ ρ':List Value} {w w':World} (h:Mem E.T W M0 X bl ρ w) (h':Mem E.T W M0 X bl' ρ' w') (ao:w.heap.size<=w'.heap.size) (ag:∀ k,k <w.heap.size->w'.heap[k]? =w.heap[k]?):bp [] w w':=
 ⟨h'.bV.os.trans h.bV.os.symm,h'.bV.tape.trans h.bV.tape.symm,h'.bV.output.trans h.bV.output.symm,ao,fun k aj _=>ag k aj⟩
theorem Vd (a3:c8 E) (dZ:E.cZ= []) {bl:List (aC E.T.El)} {ρ:List Value} {a:Act} {w:World} {fr:List (Nat × aF E.T.El)} {os rest:List Oper} {α:Type} {K:cf E.T.El->Option α} {z:α}
 (hm:Mem E.T W M0 X bl ρ w) (I:a.tmps.size=n.n) (aa:a.defers=n.ds) (aw:∀ t y,cJ fr t=some y->ar E.T (bh X bl ρ w) w ρ bl y (a.tmps.getD t undef))
 (ai:(opsL E (Om E) ops n.n os ⟨⟨fr,[],[]⟩,bl,[]⟩).run K=some z) (cG:∀ t,K t=some z->t.x= .nm/\t.s.ws= [])
 (k:∀ t ρ' aX w',K t=some z->R E W M0 X n t.s.f t.s.bl ρ' aX w'->To X bl t.s.bl ρ ρ' w w'->bp [] w w'->wpList E.P ops Q rest aX w'):wpList E.P ops Q (os++rest) a w:=by
 obtain ⟨t,gX,dc⟩:=D.r2 ai
 obtain ⟨ad,CI⟩:=cG t dc
 refine TJ a3 ard os gX ad (aw7 (aw6 dZ hm I aa aw)) fun ρ' aX w' ao=>?_
 refine k t ρ' aX w' dc ao.r ao.to (hm.aaB ao.r.mem ao.to.sz fun q aT=>ao.wr q aT fun i hi=>?_)
 rw [CI] at hi
 simp at hi
end
def jB (W:List Int):List Int->Int->Option Int
 | [],n=>some n
 | k::r,n=>(idx W (aA (k+ 1))).bind fun v=>jB W r (aA (n+aA (3 +v)))
theorem afY {W:List Int} {x:Int}:∀ {l:List Int} {n:Int},jB W (l++[x]) n=(jB W l n).bind fun m=>(idx W (aA (x+ 1))).bind fun v=>some (aA (m+aA (3 +v)))
 | [],n=>rfl
 | k::r,n=>by
   simp only [List.cons_append,jB]
   cases idx W (aA (k+ 1)) with
   | none=>rfl
   | some v=>exact afY
theorem afX {W:List Int}:∀ {l:List Int} {n m:Int},jB W l n=some m-> ∀ x ∈ l,∃ v,idx W (aA (x+ 1))=some v
 | [],n,m,_,x,ad=>by simp at ad
 | k::r,n,m,h,x,ad=>by
   obtain ⟨v,I,aa⟩:=fx h
   rcases List.mem_cons.1 ad with rfl | ad
   · exact ⟨v,I⟩
   · exact afX aa x ad
theorem af0 {W:List Int} {l l':List Int} (h:l.Perm l'):∀ n,jB W l n=jB W l' n:=by
 induction h with
 | nil=>intro n;rfl
 | cons x _ bq=>
   intro n
   simp only [jB]
   cases idx W (aA (x+ 1)) with
   | none=>rfl
   | some v=>exact bq _
 | swap x y l=>
   intro n
   simp only [jB]
   cases ad:idx W (aA (x+ 1)) with
   | none=>
     cases hy:idx W (aA (y+ 1)) with
     | none=>rfl
     | some v=>simp [ad]
   | some u=>
     cases hy:idx W (aA (y+ 1)) with
     | none=>simp [hy]
     | some v=>
       simp only [Option.bind_some,ad,hy]
       congr 1
       unfold aA
       omega
 | trans _ _ auC auD=>intro n;rw [auC,auD]
def rz (e:MapEntry):Int:=match e.key with
 | .int _ x=>x
 | _=>0
end bn
namespace bn
open Go Go.RowKit au J
theorem ado {α:Type}:∀ {fr:List (Nat × α)} {t:Nat} {y:α},cJ fr t=some y->(t,y) ∈ fr
 | [],t,y,h=>by simp [cJ] at h
 | p::r,t,y,h=>by
   unfold cJ at h
   split at h
   · rename_i ag
     simp only [Option.some.injEq] at h
     have:=Nat.eq_of_beq_eq_true ag
     subst this;subst h
     exact List.mem_cons_self
   · exact List.mem_cons_of_mem _ (ado h)
def lC {El:Nat->Type} (f:cu El) (s:Nat):Option Value:=match cJ f.fr s with
 | some (.p v)=>some v
 | _=>none
theorem arO {El:Nat->Type} {f:cu El} {s:Nat} {v:Value} (h:lC f s=some v):cJ f.fr s=some (.p v):=by
 unfold lC at h
 split at h
 · rename_i e
   simp only [Option.some.injEq] at h
   rw [e,h]
 · cases h
def E7 {El:Nat->Type} (f:cu El):List Nat->Option (List Value)
 | []=>some []
 | s::r=>(lC f s).bind fun v=>(E7 f r).bind fun vs=>some (v::vs)
theorem abg {T:bT} {F:Nat->Prop} {w:World} {ρ:List Value} {bl:List (aC T.El)} {n:cE} {f:cu T.El} {a:Act} (aD:pc T F w ρ bl n f.fr a):∀ {e8:List Nat} {vs:List Value},E7 f e8=some vs->e8.map (fun s=>a.tmps.getD s undef)=vs
 | [],vs,h=>by
   simp only [E7,Option.some.injEq] at h
   subst h;rfl
 | s::r,vs,h=>by
   obtain ⟨v,I,aa⟩:=fx h
   obtain ⟨us,aw,bi⟩:=fx aa
   simp only [Option.some.injEq] at bi
   subst bi
   have:=aD.get s _ (arO I)
   simp only [ar] at this
   rw [List.map_cons,this,abg aD aw]
section
variable {T:bT} {W w w':World} {M0:List Nat} {X:Nat->Prop} {bl bl':List (aC T.El)} {ρ ρ':List Value}
theorem Mem.aqW {M:List Nat} (h:Mem T W M0 X bl ρ w) (h':Mem T W M0 X bl' ρ' w') (ao:w.heap.size<=w'.heap.size) (ag:∀ k,k <w.heap.size->k ∉ M->w'.heap[k]? =w.heap[k]?):bp M w w':=
 ⟨h'.bV.os.trans h.bV.os.symm,h'.bV.tape.trans h.bV.tape.symm,h'.bV.output.trans h.bV.output.symm,ao,ag⟩
end
end bn
namespace bn
open Go Go.RowKit au J
section
variable {E:Env}
structure pb (T:bT) where
 bt:List cO
 pbs:List bI
 R:Type
 v:R->Value
 Su:Value->Option R
 fn:dp T.El bt × cF T.El pbs->Option R
def pb.run (E:Env) (c:pb E.T) (ys:List (aF E.T.El)) (bl:List (aC E.T.El)):D (fa E.T.El):=match gu [] c.bt c.pbs bl ys with
 | (bY,cL)=>match hN bY [] false c.bt c.pbs cL with
   | some (d,_)=>.op (c.fn d) fun x=>.ok ⟨.ret (.p (c.v x)),bY,[]⟩
   | none=>.no
def pb.fin {T:bT} (c:pb T) (r:fa T.El):Option c.R:=match r.e,r.ws with
 | .ret (.p u),[]=>c.Su u
 | _,_=>none
def pb.Eq (E:Env) (br:e6 E) (LE:j5 E) (f:Nat) (c:pb E.T):Prop:=∀ (ay:dp E.T.El c.bt) (az:cF E.T.El c.pbs),(mw E br LE f (fR id (cm false c.pbs) c.bt ay) (bP id (cm false c.pbs) false c.pbs az)).run c.fin=c.fn (ay,az)
theorem aoS {f:Nat} {br:e6 E} {LE:j5 E} (a3:c8 E) (aD:j4 E br) (c0:sw E LE) (dZ:E.cZ= []) {c:pb E.T} (hi:∀ u x,c.Su u=some x->u=c.v x) (he:c.Eq E br LE f):jj E f (c.run E):=by
 intro ys EK r ai W M0 X ρ0 w vs dD _ ch
 unfold pb.run at ai
 cases kg:gu [] c.bt c.pbs EK ys with
 | mk bl cL=>
 rw [kg] at ai
 obtain ⟨ρ,hm,jf,ah⟩:=vT dD kg ch
 simp only at ai
 split at ai
 · rename_i d sel eZ
   obtain ⟨ay,az⟩:=d
   obtain ⟨x,I,aa⟩:=ai
   have aa:(⟨.ret (.p (c.v x)),bl,[]⟩:fa E.T.El)=r:=aa
   subst aa
   obtain ⟨ao,_,lH⟩:=s0 hm vB eZ
   obtain ⟨fZ,bO⟩:=lH (bh (jo X bl ρ sel) (bP id (cm false c.pbs) false c.pbs az) (gN ρ sel) w) fun k aj=>ao.G5 aj
   have ki:=ao.enter hm bO
   obtain ⟨cD,gX,dc⟩:=D.r2 ((he ay az).trans I)
   have rk:∀ {lq bl' ρ' w'},Em E lq bl' ρ' w':=fun {_ _ _ _} g y ax=>by rw [dZ] at ax;simp [cJ] at ax
   have hc:=((JU a3 aD c0).ok _ _ _ _ gX).2 _ _ _ _ _ vs ki rk (fZ vs ah)
   refine hc.mono fun e w' aE=>?_
   obtain ⟨yp,gx,Hw,jZ,G8⟩:=aE
   unfold pb.fin at dc
   split at dc
   · rename_i u kl CI
     have hu:=hi _ _ dc
     subst hu
     have lD:bp [] w w':=ki.aqW gx Hw.sz fun k aj _=>jZ k aj fun i hi=>by rw [CI] at hi;simp at hi
     refine ⟨ρ,hm.eT lD,jf.trans (Mem.qq lD),fun k aj _=>lD.block k aj (by simp),?_⟩
     rw [kl] at G8
     cases e with
     | returned v=>
       simp only [zb,ar] at G8
       have aw:ar E.T (bh X bl ρ w') w' ρ bl (.p (c.v x)) v:=by simp only [ar];exact G8
       exact aw
     | panicked _=>exact G8.elim
     | _=>exact G8.elim
   · cases dc
 · exact ai.elim
noncomputable def aR.rd (s:aR E) (f:Nat) (c:pb E.T) (he:c.Eq E s.t.br s.t.LE f) (hi:∀ u x,c.Su u=some x->u=c.v x) (af:e0 E.ca f=true:=by kernel_rfl):aR E:=⟨s.t.f f (c.run E),fun h=>(s.ok h).nc af (aoS h (ka h (s.ok h).ce (s.ok h).le 100) (s.ok h).le s.cZ hi he),s.cZ⟩
theorem cU.cM.art {t:cU E} (a3:c8 E) (h:t.cM) {f:Nat} (af:e0 E.ca f=true) {c:hx E.T} (hc:jj E f (c.run E)):(t.sY f c).cM:=by
 refine h.nc af fun ys bl r ai=>?_
 split at ai
 · exact hc ys bl r ai
 · exact ((ka a3 h.ce h.le 100).ok f ys bl r ai).2
noncomputable def aR.dY (s:aR E) (f:Nat) (c:hx E.T) (hc:jj E f (c.run E)) (af:e0 E.ca f=true:=by kernel_rfl):aR E:=⟨s.t.sY f c,fun h=>(s.ok h).art h af hc,s.cZ⟩
structure yr (T:bT) where
 e8:List Nat
 bt:List cO
 pbs:List bI
 out:Nat
 R:Type
 v:R->Value
 fn:dp T.El bt × cF T.El pbs->Option R
def yr.run (E:Env) (c:yr E.T) (s:eG E.T.El):D (cf E.T.El):=match nJ E s.bl s.f [] (c.e8.map .tmp) with
 | some ys=>match gu [] c.bt c.pbs s.bl ys with
   | (bY,cL)=>match hN bY [] false c.bt c.pbs cL with
     | some (d,_)=>.op (c.fn d) fun x=>.ok ⟨.nm,⟨⟨[(c.out,.p (c.v x))],[],[]⟩,bY,s.ws⟩⟩
     | none=>.no
 | none=>.no
def yr.yu (E:Env) (n:cE) (c:yr E.T) (x r:Code):Prop:=
 ∀ ay az gz,c.fn (ay,az)=some gz-> ∀ (W:World) (M0:List Nat) (X:Nat->Prop) (ρ:List Value) (a:Act) (w:World),a.tmps.size=n.n->a.defers=n.ds->Told E W M0 X c.e8 c.bt c.pbs ay az ρ a w false ->
   ∀ (rest:Code) (Q:Exit->Act->World->Prop),(∀ (aX:Act) (w':World),aX.tmps.size=n.n->aX.defers=n.ds->aX.tmps.getD c.out undef=c.v gz->bp [] w w'->rest.wp E.P Q aX w')->(Code.seq x (.seq r rest)).wp E.P Q a w
theorem aoR (dZ:E.cZ= []) {n:cE} {c:yr E.T} {x r:Code} (aM:c.yu E n x r):BE E n (c.run E) x r:=by
 intro rest s t ai W M0 X b0 ρ0 w0 ρ a w Q h k
 have rk:∀ {lq:Nat->Prop} {bl':List (aC E.T.El)} {ρ':List Value} {w':World},∀ g y,cJ E.cZ g=some y->ar E.T (bh lq bl' ρ' w') w' ρ' bl' y (.pointer (some ⟨g,0,none⟩)):=fun {_ _ _ _} g y ax=>by rw [dZ] at ax;simp [cJ] at ax
 unfold yr.run at ai
 split at ai
 · rename_i ys F0
   cases kg:gu [] c.bt c.pbs s.bl ys with
   | mk bl cL=>
   rw [kg] at ai
   simp only at ai
   obtain ⟨eR,hm,jf,ah⟩:=vT h.r.mem kg (Ax h.r (cur:=[]) trivial F0)
   split at ai
   · rename_i d sel eZ
     obtain ⟨ay,az⟩:=d
     obtain ⟨gz,rp,aa⟩:=ai
     have aa:(⟨.nm,⟨⟨[(c.out,.p (c.v gz))],[],[]⟩,bl,s.ws⟩⟩:cf E.T.El)=t:=aa
     obtain ⟨ao,_,lH⟩:=s0 hm vB eZ
     obtain ⟨fZ,bO⟩:=lH (bh (jo X bl eR sel) (bP id (cm false c.pbs) false c.pbs az) (gN eR sel) w) fun k aj=>ao.G5 aj
     have ki:=ao.enter hm bO
     have zO:=fZ _ ah
     refine aM ay az gz rp w _ _ _ a w h.r.eD.e7.size h.r.eD.e7.defers ⟨ki,zO⟩ rest Q fun aX w' d_ zC av lD=>?_
     have:=k eR aX w' (by
      subst aa
      refine ⟨⟨hm.eT lD,⟨⟨d_,zC,fun t y hy=>?_⟩,fun p aN=>by simp at aN,fun p aN=>by simp at aN⟩,rk⟩,h.to.trans (jf.trans (Mem.qq lD)),?_⟩
      · have:=ado hy
        simp only [List.mem_singleton,Prod.mk.injEq] at this
        obtain ⟨rfl,rfl⟩:=this
        simp only [ar]
        exact av
      · have:=h.wr.bK h.to (s':=[]) (w'':=w') (bl':=s.bl) (ρ':=ρ) fun q aT _=>lD.block q aT (by simp)
        exact this)
     rw [<-aa] at this
     exact this
   · exact ai.elim
 · exact ai.elim
end
end bn
namespace Go.Proofs.YteeliipnilghaaaGreat
open Go Go.RowKit au J bn
@[reducible] def qw:List bI:=[.c 140 [.B 1,.l 134,.l 3,.l 124,.l 120,.l 121,.M 2],.c 24 [.l 3,.i .i64,.i .i64,.i .i64,.i .i64,.l 3,.i .i64],.m 3 4]
noncomputable def qx:Code × Code:=((GG Tryz.prog 55 0).getD (.skip,.skip))
noncomputable def g4:yz:=(LI qx.1 qx.2).getD ⟨0,#[],0,0,0,0,0,default,default,default,default,default,0,#[],0,#[]⟩
theorem aCf:GG Tryz.prog 55 0 =some qx:=by kernel_rfl
theorem aCh:LI qx.1 qx.2 =some g4:=by kernel_rfl
def aCj (d:dp bz.El [.p (.B 0),.p (.i .i64)] × cF bz.El qw):List Int:=List.map (α:=Int × Bool) Prod.fst d.2.2.2.1
def VT:yr bz:=⟨[0,3],[.p (.B 0),.p (.i .i64)],qw,2,Int,.int .i64,fun d=>jB d.2.2.1.1 (aCj d) d.1.2.1⟩
theorem aCi:g4.ku.op= .next (.tmp 9) false/\g4.ku.dst=some 10 /\g4.ku.guard=none:=by refine ⟨?_,?_,?_⟩ <;> kernel_rfl
theorem aCk:g4.nH.op= .extract (.tmp 10) 0 /\g4.nH.dst=some 11 /\g4.nH.guard=none:=by refine ⟨?_,?_,?_⟩ <;> kernel_rfl
theorem aCl:g4.mN.op= .entry (.tmp 9)/\g4.mN.dst=some 12 /\g4.mN.guard=none:=by refine ⟨?_,?_,?_⟩ <;> kernel_rfl
theorem aCm:g4.k6.op= .extract (.tmp 12) 0 /\g4.k6.dst=some 13 /\g4.k6.guard=none:=by refine ⟨?_,?_,?_⟩ <;> kernel_rfl
theorem aCn:g4.nI.op= .assign (.tmp 13)/\g4.nI.dst=some 4 /\g4.nI.guard=none:=by refine ⟨?_,?_,?_⟩ <;> kernel_rfl
noncomputable def aCq:List Oper:=g4.ops.toList.take 4
noncomputable def HC:Oper:=(g4.ops.toList.drop 4).headD g4.ku
theorem aCo:g4.ops.toList=aCq++[HC]:=by kernel_rfl
theorem VW:HC.op= .range 70 (.tmp 8)/\HC.dst=some 9 /\HC.guard=none:=by refine ⟨?_,?_,?_⟩ <;> kernel_rfl
def f' {T:bT} (t:cf T.El):Bool:=match t.x,t.s.ws with
 | .nm,[]=>true
 | _,_=>false
theorem Sp {T:bT} {t:cf T.El} (h:f' t=true):t.x= .nm/\t.s.ws= []:=by
 unfold f' at h
 split at h
 · rename_i I aa;exact ⟨I,aa⟩
 · cases h
def VU (t:cf bz.El):Option (Nat × Nat × Nat × Value):=match f' t,cJ t.s.f.fr 8,cJ t.s.f.fr 0,cJ t.s.f.fr 3 with
 | true,some (.m j),some (.b i o),some (.p u)=>some (j,i,o,u)
 | _,_,_,_=>none
theorem agB {t:cf bz.El} {j i o:Nat} {u:Value} (h:VU t=some (j,i,o,u)):f' t=true/\cJ t.s.f.fr 8 =some (.m j)/\cJ t.s.f.fr 0 =some (.b i o)/\cJ t.s.f.fr 3 =some (.p u):=by
 unfold VU at h
 split at h
 · rename_i I aa aw bi
   simp only [Option.some.injEq,Prod.mk.injEq] at h
   obtain ⟨rfl,rfl,rfl,rfl⟩:=h
   exact ⟨I,aa,aw,bi⟩
 · cases h
def MI (t:cf bz.El):Option (Value × Nat × Nat × Value):=match f' t,cJ t.s.f.fr 9,cJ t.s.f.fr 0,cJ t.s.f.fr 3 with
 | true,some (.p v),some (.b i o),some (.p u)=>some (v,i,o,u)
 | _,_,_,_=>none
theorem agC {t:cf bz.El} {v:Value} {i o:Nat} {u:Value} (h:MI t=some (v,i,o,u)):f' t=true/\cJ t.s.f.fr 9 =some (.p v)/\cJ t.s.f.fr 0 =some (.b i o)/\cJ t.s.f.fr 3 =some (.p u):=by
 unfold MI at h
 split at h
 · rename_i I aa aw bi
   simp only [Option.some.injEq,Prod.mk.injEq] at h
   obtain ⟨rfl,rfl,rfl,rfl⟩:=h
   exact ⟨I,aa,aw,bi⟩
 · cases h
theorem Yx {T:bT} {F F':Nat->Prop} {w w':World} {ρ ρ':List Value} {bl bl':List (aC T.El)} {i o:Nat} {v e4:Value} (aq:ll T ρ ρ' bl bl') (h:ar T F w ρ bl (.b i o) v) (h':ar T F' w' ρ' bl' (.b i o) e4):e4=v:=by
 simp only [ar] at h h'
 obtain ⟨g,ak,al⟩:=h
 obtain ⟨g',aV,bS⟩:=h'
 obtain ⟨u,bg,bf,_⟩:=aq.at_ i _ ak
 have:=bf (by simp [kZ])
 rw [bg,this] at aV
 cases aV
 rw [al,bS]
theorem Z3 {F:Nat->Prop} {w:World}:∀ {es:List MapEntry} {d:List (Int × Bool)},iO (kt:=3) (vt:=4) bz F w wx es d->es.map rz=d.map Prod.fst
 | [],[],_=>rfl
 | [],_::_,h=>h.elim
 | _::_,[],h=>h.elim
 | e::es,p::d,h=>by
   obtain ⟨I,_,aw⟩:=h
   rw [List.map_cons,List.map_cons,Z3 aw]
   congr 1
   unfold rz
   rw [I]
   rfl
theorem S0 {El:Nat->Type} {s t u:Nat} {x y z:aF El} (h:cJ [(s,x),(t,y)] u=some z):(u=s/\z=x)\/(u=t/\z=y):=by
 simp only [cJ] at h
 split at h
 · rename_i ag
   simp only [Option.some.injEq] at h
   exact .inl ⟨(Nat.eq_of_beq_eq_true ag).symm,h.symm⟩
 · split at h
   · rename_i ag
     simp only [Option.some.injEq] at h
     exact .inr ⟨(Nat.eq_of_beq_eq_true ag).symm,h.symm⟩
   · cases h
theorem Z2 {F:Nat->Prop} {w:World}:∀ {es:List MapEntry} {d:List (Int × Bool)},iO (kt:=3) (vt:=4) bz F w wx es d-> ∀ e ∈ es,e.key= .int .i64 (rz e)
 | [],_,_,e,he=>by simp at he
 | _::_,[],h,_,_=>h.elim
 | x::es,p::d,h,e,he=>by
   obtain ⟨I,_,aw⟩:=h
   rcases List.mem_cons.1 he with rfl | he
   · unfold rz
     rw [I]
     rfl
   · exact Z2 aw e he
theorem awJ {El:Nat->Type} {s1 s2 xl afz u:Nat} {et hr j1 sl z:aF El} (h:cJ [(s1,et),(s2,hr),(xl,j1),(afz,sl)] u=some z):(u=s1/\z=et)\/(u=s2/\z=hr)\/(u=xl/\z=j1)\/(u=afz/\z=sl):=by
 unfold cJ at h
 split at h
 · rename_i ag
   simp only [Option.some.injEq] at h
   exact .inl ⟨(Nat.eq_of_beq_eq_true ag).symm,h.symm⟩
 · unfold cJ at h
   split at h
   · rename_i ag
     simp only [Option.some.injEq] at h
     exact .inr (.inl ⟨(Nat.eq_of_beq_eq_true ag).symm,h.symm⟩)
   · exact .inr (.inr (S0 h))
def VV (t:cf bz.El):Option (List Value):=match f' t with
 | true=>E7 t.s.f [2]
 | false=>none
theorem agD {t:cf bz.El} {z} (h:VV t=some z):f' t=true/\E7 t.s.f [2]=some z:=by
 unfold VV at h
 split at h
 · rename_i I;exact ⟨I,h⟩
 · cases h
set_option maxRecDepth 100000
theorem aCx:VT.yu aH ⟨29,[]⟩ qx.1 qx.2 :=by
 intro ay az gz fM W M0 X ρ a w d_ zC fD rest Q k
 obtain ⟨ad,aE⟩:=aym aCh
 rw [ad,aE]
 obtain ⟨aHu,(iq:Int),aHv⟩:=ay
 obtain ⟨Jt,⟨(vx:List Int),Jw⟩,(ev:List (Int × Bool)),Jy⟩:=az
 obtain ⟨S,asi⟩:∃ S:Int,S=gz:=⟨gz,rfl⟩
 subst asi
 have fk:jB vx (ev.map Prod.fst) iq=some S:=fM
 obtain ⟨hm,ah⟩:=fD
 have ah:a4 bz _ w ρ _ [.b 0 0,.p (.int .i64 iq)] [a.tmps.getD 0 undef,a.tmps.getD 3 undef]:=ah
 simp only [a4] at ah
 obtain ⟨a1,pV,dg,aQ,bu,iY,aV,aw,bS⟩:=ah
 simp only [List.cons.injEq] at dg
 obtain ⟨rfl,rfl⟩:=dg
 simp only [List.cons.injEq] at aV
 obtain ⟨rfl,rfl⟩:=aV
 obtain ⟨wg,al⟩:=hm.Ac (i:=2) (B:=.m 3 4 ev) rfl
 obtain ⟨bm,Fm,anQ,asf,es,clock,Fs,abL,atS,Kj⟩:=hm.ok 2 (.m 3 4 ev) _ rfl al
 subst Fm
 obtain rfl:anQ=(wx:hW (aH.T.El 3)):=by
  have arQ:(aH.T.e 3).key=some (wx:hW (aH.T.El 3)):=by kernel_rfl
  exact Option.some.inj (asf.symm.trans arQ)
 have abV:=Z3 abL
 have ow:(es.toList.map (·.born)).Nodup:=List.nodup_iff_pairwise_ne.2 (atS.imp fun h=>Nat.ne_of_lt h)
 refine wp_seq (wp_seq (wp_region_list ?_))
 rw [aCo]
 refine Vd (n:=⟨29,[]⟩) (K:=VU) (z:=(2,0,0,.int .i64 iq)) ly rfl hm d_ zC (fr:=[(0,.b 0 0),(3,.p (.int .i64 iq))]) (fun t y hy=>?_) (by kernel_rfl) (fun t h=>Sp (agB h).1) fun t eR cC er ase eH zx lD=>?_
 · rcases S0 hy with ⟨rfl,rfl⟩ | ⟨rfl,rfl⟩
   · exact aQ
   · exact aw
 obtain ⟨bk,bF,b1,gy⟩:=agB ase
 have rp:∀ {k:Nat} {o:Obj} {w:World},w.heap[k]? =some o->k <w.heap.size:=fun {k o w} h=>by
  rcases Nat.lt_or_ge k w.heap.size with I | I
  · exact I
  · rw [Array.getElem?_eq_none I] at h;cases h
 have f8:=eH.eD.e7.get 8 _ bF
 simp only [ar] at f8
 obtain ⟨aGB,dC,bG⟩:=f8
 obtain ⟨qu,bg,bf,_⟩:=zx.L.at_ 2 _ al
 have bf:=bf (by simp [kZ])
 rw [bg,bf] at dC
 cases dC
 have f0:cC.tmps.getD 0 undef=a.tmps.getD 0 undef:=Yx zx.L aQ (eH.eD.e7.get 0 _ b1)
 have f3:cC.tmps.getD 3 undef= .int .i64 iq:=by simpa only [ar] using eH.eD.e7.get 3 _ gy
 have Ft:er.heap[bm]? =some (.map es clock):=(lD.block bm (rp Fs) (by simp)).trans Fs
 have aqL:cC.eval (.tmp 8)= .map (some bm):=bG
 obtain ⟨r,fY⟩:∃ r,r=er.heap.size:=⟨_,rfl⟩
 have cL:bb aH.P HC cC er (.pointer (some ⟨r,0,none⟩)) (er.alloc (.mapIter (some bm) clock #[] clock)):=by
  rw [fY]
  simp only [bb,execOp,VW.1,aqL]
  rw [Sem.run_bind,run_range_map (P:=aH.P) er 70 3 4 bm es clock Tryz.underlying70 Ft]
  rfl
 refine gk VW.2.2 cL ?_
 rw [VW.2.1]
 refine wpList_nil ?_
 obtain ⟨db,mE⟩:∃ db,db=er.alloc (.mapIter (some bm) clock #[] clock):=⟨_,rfl⟩
 rw [<-mE]
 have abq:bp [] er db:=by rw [mE];exact bp.alloc [] er _
 have acg:db.heap[r]? =some (.mapIter (some bm) clock #[] clock):=by rw [mE,fY];exact heap_alloc_new er _
 have oy:r <db.heap.size:=rp acg
 have Yk:cC.tmps.size= 29 :=eH.eD.e7.size
 have anZ:cC.defers= []:=eH.eD.e7.defers
 refine auW (n:=29) (r:=r) (bm:=bm) (since:=clock) (clock:=clock) (ti:=9) (tn:=10) (tok:=11) (te:=12) (tk:=13) (tv:=4) (es:=es)
  (fun acc aX w'=>aX.tmps.size= 29 /\aX.defers= []/\aX.tmps.getD 0 undef=a.tmps.getD 0 undef/\aX.tmps.getD 9 undef= .pointer (some ⟨r,0,none⟩)/\X8 w' r bm clock clock es acc/\(acc.map (·.born)).Nodup/\(∀ e ∈ acc,e ∈ es.toList)/\bp [] er w'/\ ∃ m,aX.tmps.getD 3 undef= .int .i64 m/\jB vx (acc.map rz) iq=some m)
  aCi aCk aCl aCm aCn (by decide) (by decide) Kj (Nat.le_refl _) ow (fun acc aX w' h=>⟨h.1,h.2.2.2.1,h.2.2.2.2.1,h.2.2.2.2.2.1,h.2.2.2.2.2.2.1⟩) ?_ ?_ ?_
 · intro acc e cQ dX ky xD kR he CC ox R7 ar1 aG6 wb
   obtain ⟨i1,i2,i3,i4,⟨i5,aHa⟩,i6,i7,i8,m,i9,i10⟩:=kR
   have Fb:bp [] er xD:=i8.trans ar1 fun x ad=>.inr (by simp at ad;omega)
   have zJ:=hm.eT (lD.trans Fb (by simp))
   have t4:=R7 (by decide)
   rw [Z2 abL e he] at t4
   obtain ⟨v,ah⟩:=afX fk (rz e) (by rw [<-abV];exact List.mem_map_of_mem he)
   refine wp_region_list ?_
   rw [show g4.AA.toList=g4.AA.toList++[] by simp]
   refine Vd (n:=⟨29,[]⟩) (K:=MI) (z:=(.pointer (some ⟨r,0,none⟩),0,0,.int .i64 (J.aA (m+J.aA (3 +v))))) ly rfl zJ (ox.1.trans i1) (ox.2.1.trans i2) (fr:=[(4,.p (.int .i64 (rz e))),(3,.p (.int .i64 m)),(9,.p (.pointer (some ⟨r,0,none⟩))),(0,.b 0 0)]) (fun t y hy=>?_) ?_ (fun t h=>Sp (agC h).1) fun t' aGk j8 DE Rg s6 aby Fc=>?_
   · rcases awJ hy with ⟨rfl,rfl⟩ | ⟨rfl,rfl⟩ | ⟨rfl,rfl⟩ | ⟨rfl,rfl⟩
     · simpa only [ar] using t4
     · simp only [ar]
       rw [ox.2.2 3 (by decide)]
       exact i9
     · simp only [ar]
       rw [ox.2.2 9 (by decide)]
       exact i4
     · have:=(Mem.qq (X:=X) (bl:=bP (El:=aH.T.El) id (cm false qw) false qw (Jt,(vx,Jw),ev,Jy)) (ρ:=ρ) (lD.trans Fb (by simp))).v aQ
       rw [ox.2.2 0 (by decide),i3]
       exact this
   · have e:(opsL aH (Om aH) g4.AA 29 g4.AA.toList ⟨⟨[(4,.p (.int .i64 (rz e))),(3,.p (.int .i64 m)),(9,.p (.pointer (some ⟨r,0,none⟩))),(0,.b 0 0)],[],[]⟩,bP id (cm false qw) false qw (Jt,(vx,Jw),ev,Jy),[]⟩).run MI=(idx vx (J.aA (rz e+ 1))).bind fun v=>some (.pointer (some ⟨r,0,none⟩),0,0,.int .i64 (J.aA (m+J.aA (3 +v)))):=by kernel_rfl
     exact e.trans (by rw [ah];rfl)
   · obtain ⟨dF,fF,hk,jV⟩:=agC Rg
     refine wpList_nil ⟨rfl,s6.eD.e7.size,s6.eD.e7.defers,?_,by simpa only [ar] using s6.eD.e7.get 9 _ fF,⟨?_,?_⟩,?_,?_,Fb.trans Fc (by simp),_,by simpa only [ar] using s6.eD.e7.get 3 _ jV,?_⟩
     · have:=(Mem.qq (X:=X) (bl:=bP (El:=aH.T.El) id (cm false qw) false qw (Jt,(vx,Jw),ev,Jy)) (ρ:=ρ) (lD.trans Fb (by simp))).v aQ
       exact Yx aby.L this (s6.eD.e7.get 0 _ hk)
     · obtain ⟨eS,ru,wu⟩:=wb
       exact ⟨eS,ru,(Fc.block r (rp wu) (by simp)).trans wu⟩
     · have Ki:xD.heap[bm]? =some (.map es clock):=(Fb.block bm (rp Ft) (by simp)).trans Ft
       exact (Fc.block bm (rp Ki) (by simp)).trans Ki
     · rw [List.map_append,List.map_singleton]
       exact List.nodup_append.2 ⟨i6,by simp,fun x ad y hy ak=>by simp at hy;subst hy;subst ak;exact CC ad⟩
     · intro x ad
       rcases List.mem_append.1 ad with ad | ad
       · exact i7 x ad
       · simp at ad;subst ad;exact he
     · rw [List.map_append,List.map_singleton,afY,i10,Option.bind_some,ah,Option.bind_some]
 · intro acc cQ dX ky kR atN ox
   obtain ⟨i1,i2,i3,i4,i5,i6,i7,i8,m,i9,i10⟩:=kR
   have atz:m=S:=by
    have I:=af0 (W:=vx) (atN.map rz) iq
    rw [i10,abV,fk] at I
    exact Option.some.inj I
   subst atz
   have Rd:=lD.trans i8 (by simp)
   refine wp_seq (wp_region_list ?_)
   rw [show g4.G'.toList=g4.G'.toList++[] by simp]
   refine Vd (n:=⟨29,[]⟩) (K:=VV) (z:=[.int .i64 m]) ly rfl (hm.eT Rd) (ox.1.trans i1) (ox.2.1.trans i2) (fr:=[(3,.p (.int .i64 m)),(0,.b 0 0)]) (fun t y hy=>?_) (by kernel_rfl) (fun t h=>Sp (agD h).1) fun t' aGk j8 DE Rg s6 aby Fc=>?_
   · rcases S0 hy with ⟨rfl,rfl⟩ | ⟨rfl,rfl⟩
     · simp only [ar]
       rw [ox.2.2 3 (by decide)]
       exact i9
     · have:=(Mem.qq (X:=X) (bl:=bP (El:=aH.T.El) id (cm false qw) false qw (Jt,(vx,Jw),ev,Jy)) (ρ:=ρ) Rd).v aQ
       rw [ox.2.2 0 (by decide),i3]
       exact this
   · have agy:=abg s6.eD.e7 (agD Rg).2
     simp only [List.map_cons,List.map_nil,List.cons.injEq,and_true] at agy
     exact wpList_nil (k j8 DE s6.eD.e7.size s6.eD.e7.defers agy (Rd.trans Fc (by simp)))
 · refine ⟨by rw [uv,Yk],anZ,by rw [E4 (by decide),f0],v3 (by rw [Yk];decide),⟨⟨clock,Nat.le_refl _,acg⟩,(abq.block bm (rp Ft) (by simp)).trans Ft⟩,by simp,by simp,abq,iq,by rw [E4 (by decide),f3],rfl⟩
end Go.Proofs.YteeliipnilghaaaGreat
namespace Go.Proofs.YteeliipnilghaaaGreat
open Go Go.RowKit au J bn
set_option maxRecDepth 100000
theorem aCp:BE aH ⟨gd aH.P 55,[]⟩ (VT.run aH) qx.1 qx.2 :=by
 have e:gd aH.P 55 = 29 :=by kernel_rfl
 rw [e]
 exact aoR rfl aCx
noncomputable def amq (F:Nat):aR aH:=(amp F).ayj 55 0 (VT.run aH) qx.1 qx.2 (fun _ _=>aCp) aCf
def Sv:Value->Option Int
 | .int .i64 x=>some x
 | _=>none
theorem auX (u:Value) (x:Int) (h:Sv u=some x):u= .int .i64 x:=by
 unfold Sv at h
 split at h
 · cases h;rfl
 · cases h
def J4 (h:List Int) (m:List (Int × Bool)):Option Int:=jB h (m.map Prod.fst) 0
def aCg:pb bz:=⟨[.p (.B 0)],qw,Int,.int .i64,Sv,fun d=>(J4 d.2.2.1.1 d.2.2.2.1).bind fun x=>some x⟩
noncomputable def N3 (F:Nat):aR aH:=(amq F).rd 55 aCg (fun ay az=>by kernel_rfl) auX
end Go.Proofs.YteeliipnilghaaaGreat
namespace Go.Proofs.YteeliipnilghaaaGreat
open Go Go.RowKit au J bn
def Br (F:Nat):Nat->(List Int)->(Int)->(Int)->(List Int)->Option ((Unit × Unit) × List Int × Unit)
 | 0,_,_,_,_=>none
 | aS+ 1,qH,n0,kE,sa=>
   cond (decide (kE <n0)) ((idx qH kE).bind fun uM=>
(bK 8 sa [uM]).bind fun kz=>
Br F aS (qH) (n0) (aA (kE+ 1)) (kz)) (
some (((),()),((sa),())))
def adr (F:Nat):fI bz:=⟨[0,3,6,7],[.p (.l 3),.p (.R 0),.p (.i .i64),.p (.i .i64)],[.r 109 false],[⟨.nm,[3],[.p (.R 0)],[.r 109 false]⟩],fun k d=>Br F k d.1.1 d.1.2.2.1 d.1.2.2.2.1 d.2.1⟩
theorem arb (F:Nat):(adr F).Eq aH (N3 F).t.br ((N3 F).t.LE 39) (gd aH.P 39) 0 (h0 aH.P 39 0):=⟨fun d=>by kernel_rfl,fun k ay az=>by kernel_rfl⟩
noncomputable def N4 (F:Nat):aR aH:=(N3 F).gw 39 0 F (adr F) (arb F)
def NR (F:Nat) (du:List Int):Option ((List Int × Unit) × Unit):=
 (Br F F du (↑du.length:Int) 0 []).bind fun xJ=>
some (((xJ.snd.fst),()),())
def acR (F:Nat):eg bz:=⟨[.p (.l 3)],[],[.p (.l 109)],[],fun d=>NR F d.1.1⟩
theorem ara (F:Nat):(acR F).Eq aH (N4 F).t.br (N4 F).t.LE 39 :=fun ay az=>by kernel_rfl
noncomputable def amr (F:Nat):aR aH:=(N4 F).JR 39 (acR F) (ara F)
noncomputable def N5 (F:Nat):aR aH:=(amr F).dY 39 (KR F) (YU F)
end Go.Proofs.YteeliipnilghaaaGreat
namespace Go.Proofs.YteeliipnilghaaaGreat
open Go Go.RowKit au J bn
def Ch (F:Nat) (cv:List Int) (et:Int) (hr:Int) (j1:Int) (sl:Int) (Ic:List Int) (sm:Int) (qH:List ap) (n0:List Int) (kE:List (List J.Field)) (sa:List (List (List UInt8))) (uM:List (List J.Target)) (kz:List Int):Option ((Unit × Int × Unit) × (List Int × Int × Int × Int × Int × List Int × Int × List ap × List Int × List (List J.Field) × List (List (List UInt8)) × List (List J.Target) × List Int × List Int × Unit × Unit) × List (Int × Bool) × Unit ⊕
 (Unit × Int × Unit) × Unit):=
 dr (jc (jO F (aY.mk cv et hr j1 sl Ic sm) (aU.mk qH n0 kE sa uM))) (fun du=>
cond (decide (du.snd= 0)) ((Bs F
 (bd.mk (aY.mk du.fst.H.Words du.fst.H.aL du.fst.H.aW du.fst.H.a5 du.fst.H.a2 du.fst.H.aZ du.fst.H.Next)
  (b'.mk (aU.mk du.fst.S.K.ba du.fst.S.K.a8 du.fst.S.K.Fields du.fst.S.K.Names du.fst.S.K.a9)) du.fst.aL du.fst.aW du.fst.dE)
 kz).bind fun xJ=>
some (.inl (((),((xJ),())),(((du.fst.H.Words),((du.fst.H.aL),((du.fst.H.aW),((du.fst.H.a5),((du.fst.H.a2),((du.fst.H.aZ),((du.fst.H.Next),((du.fst.S.K.ba),((du.fst.S.K.a8),((du.fst.S.K.Fields),((du.fst.S.K.Names),((du.fst.S.K.a9),((du.fst.aL),((du.fst.aW),((),()))))))))))))))),((du.fst.dE),()))))) (
some (.inl (((),((du.snd),())),(((du.fst.H.Words),((du.fst.H.aL),((du.fst.H.aW),((du.fst.H.a5),((du.fst.H.a2),((du.fst.H.aZ),((du.fst.H.Next),((du.fst.S.K.ba),((du.fst.S.K.a8),((du.fst.S.K.Fields),((du.fst.S.K.Names),((du.fst.S.K.a9),((du.fst.aL),((du.fst.aW),((),()))))))))))))))),((du.fst.dE),())))))) (fun Wi=>
cond (decide (Wi= 0)) (none) (
some (.inr (((),((Wi),())),()))))
def acO (F:Nat):jJ bz:=⟨[.a [.l 3,.i .i64,.i .i64,.i .i64,.i .i64,.l 3,.i .i64],.a [.l 134,.l 3,.l 124,.l 120,.l 121],.p (.l 3)],[],[⟨[.p (.B 0),.p (.i .i64)],[.c 72 [.l 3,.i .i64,.i .i64,.i .i64,.i .i64,.l 3,.i .i64,.l 134,.l 3,.l 124,.l 120,.l 121,.l 3,.l 3,.M 1],.m 3 4]⟩,⟨[.p .gf,.p (.i .i64)],[]⟩],fun d=>Ch F d.1.1.1 d.1.1.2.1 d.1.1.2.2.1 d.1.1.2.2.2.1 d.1.1.2.2.2.2.1 d.1.1.2.2.2.2.2.1 d.1.1.2.2.2.2.2.2.1 d.1.2.1.1 d.1.2.1.2.1 d.1.2.1.2.2.1 d.1.2.1.2.2.2.1 d.1.2.1.2.2.2.2.1 d.1.2.2.1⟩
theorem aql (F:Nat):(acO F).Eq aH (N5 F).t.br (N5 F).t.LE 53 :=fun ay az=>by kernel_rfl
noncomputable def N6 (F:Nat):aR aH:=(N5 F).ii 53 (acO F) (aql F)
def zs (F:Nat):Nat->(List Int)->(Int)->(Int)->(List Int)->Option ((Unit × Unit) × List Int × Unit)
 | 0,_,_,_,_=>none
 | aS+ 1,ag5,ag6,WB,ag7=>
   cond (decide (WB <ag6)) ((idx ag5 WB).bind fun aDU=>
(bK 8 ag7 [aDU]).bind fun aDW=>
zs F aS (ag5) (ag6) (aA (WB+ 1)) (aDW)) (
some (((),()),((ag7),())))
def adj (F:Nat):fI bz:=⟨[3,6,7,8],[.p (.R 0),.p (.l 109),.p (.i .i64),.p (.i .i64)],[.r 3 false],[⟨.nm,[3],[.p (.R 0)],[.r 3 false]⟩],fun k d=>zs F k d.1.2.1 d.1.2.2.1 d.1.2.2.2.1 d.2.1⟩
theorem aqn (F:Nat):(adj F).Eq aH (N6 F).t.br ((N6 F).t.LE 90) (gd aH.P 90) 0 (h0 aH.P 90 0):=⟨fun d=>by kernel_rfl,fun k ay az=>by kernel_rfl⟩
noncomputable def N7 (F:Nat):aR aH:=(N6 F).gw 90 0 F (adj F) (aqn F)
def J3 (F:Nat) (ag8:List Int):Option ((List Int × Unit) × Unit):=
 (zs F F ag8 (↑ag8.length:Int) 0 []).bind fun aDX=>
some (((aDX.snd.fst),()),())
def acP (F:Nat):eg bz:=⟨[.p (.l 109)],[],[.p (.l 3)],[],fun d=>J3 F d.1.1⟩
theorem aqm (F:Nat):(acP F).Eq aH (N7 F).t.br (N7 F).t.LE 90 :=fun ay az=>by kernel_rfl
noncomputable def N8 (F:Nat):aR aH:=(N7 F).fn 90 (acP F) (aqm F)
def vW (F:Nat):Nat->(Int)->(Int)->(Int)->(List ap)->(List Int)->(List (List J.Field))->(List (List (List UInt8)))->(List (List J.Target))->(List Int)->(Int)->(Int)->(Int)->(Int)->(List Int)->(Int)->(List (Int × Bool))->(List Int)->Option ((Unit × Unit × Unit) ×
 (Unit × List ap × List Int × List (List J.Field) × List (List (List UInt8)) × List (List J.Target) × Unit × Unit) × (List Int × Int × Int × Int × Int × List Int × Int × Unit) × List (Int × Bool) × List Int × Unit)
 | 0,_,_,_,_,_,_,_,_,_,_,_,_,_,_,_,_,_=>none
 | aS+ 1,yf,u1,u2,u3,sp,Bm,jG,Ii,Bn,Ij,Ik,Il,Im,Io,Ip,Iq,HF=>
   cond (decide (u2 <u1)) ((idx Bn yf).bind fun V8=>
(tj (b'.mk (aU.mk u3 sp Bm jG Ii)) V8 u2).bind fun V9=>
cond (V9) ((idx Bn (aA (aA (yf+ 3)+u2))).bind fun V_=>
(bK 8 HF [V_]).bind fun V'=>
vW F aS (yf) (u1) (aA (u2+ 1)) (u3) (sp) (Bm) (jG) (Ii) (Bn) (Ij) (Ik) (Il) (Im) (Io) (Ip) (Iq) (V')) (
vW F aS (yf) (u1) (aA (u2+ 1)) (u3) (sp) (Bm) (jG) (Ii) (Bn) (Ij) (Ik) (Il) (Im) (Io) (Ip) (Iq) (HF))) (
some (((),((),())),(((),((u3),((sp),((Bm),((jG),((Ii),((),()))))))),(((Bn),((Ij),((Ik),((Il),((Im),((Io),((Ip),()))))))),((Iq),((HF),()))))))
def adi (F:Nat):fI bz:=⟨[0,4,5,48,49],[.p (.B 0),.p (.R 3),.p (.i .i64),.p (.i .i64),.p (.i .i64)],[.c 140 [.B 1,.l 134,.l 3,.l 124,.l 120,.l 121,.M 2],.c 24 [.l 3,.i .i64,.i .i64,.i .i64,.i .i64,.l 3,.i .i64],.m 3 4,.r 3 false],[⟨.nm,[0,4],[.p (.B 0),.p (.R 3)],[.c 140 [.B 1,.l 134,.l 3,.l 124,.l 120,.l 121,.M 2],.c 24 [.l 3,.i .i64,.i .i64,.i .i64,.i .i64,.l 3,.i .i64],.m 3 4,.r 3 false]⟩],fun k d=>vW F k d.1.2.2.1 d.1.2.2.2.1 d.1.2.2.2.2.1 d.2.1.2.1 d.2.1.2.2.1 d.2.1.2.2.2.1 d.2.1.2.2.2.2.1 d.2.1.2.2.2.2.2.1 d.2.2.1.1 d.2.2.1.2.1 d.2.2.1.2.2.1 d.2.2.1.2.2.2.1 d.2.2.1.2.2.2.2.1 d.2.2.1.2.2.2.2.2.1 d.2.2.1.2.2.2.2.2.2.1 d.2.2.2.1 d.2.2.2.2.1⟩
theorem aqk (F:Nat):(adi F).Eq aH (N8 F).t.br ((N8 F).t.LE 89) (gd aH.P 89) 2 (h0 aH.P 89 2):=⟨fun d=>by kernel_rfl,fun k ay az=>by kernel_rfl⟩
noncomputable def N9 (F:Nat):aR aH:=(N8 F).gw 89 2 F (adi F) (aqk F)
def sZ (F:Nat):Nat->(List ap)->(List Int)->(List (List J.Field))->(List (List (List UInt8)))->(List (List J.Target))->(List Int)->(Int)->(Int)->(Int)->(Int)->(List Int)->(Int)->(List (Int × Bool))->(List Int)->Option (Unit × (Unit × List ap × List Int × List (List J.Field) × List (List (List UInt8)) × List (List J.Target) × Unit × Unit) × (List Int × Int × Int × Int × Int × List Int × Int × Unit) × List (Int × Bool) × List Int × Unit)
 | 0,_,_,_,_,_,_,_,_,_,_,_,_,_,_=>none
 | aS+ 1,Wc,Wd,Wf,DH,DI,AU,AV,DJ,DK,DL,DM,DN,AW,m0=>
   cond (decide (0 <(↑m0.length:Int))) ((idx m0 (aA ((↑m0.length:Int) - 1))).bind fun xH=>
(if (0 :Int)<= 0 /\ 0 <=aA ((↑m0.length:Int) - 1)/\aA ((↑m0.length:Int) - 1)<=(↑m0.length:Int) then some () else none).bind fun DO=>
cond (decide (xH= 0) || (dI AW xH).getD false) (sZ F aS (Wc) (Wd) (Wf) (DH) (DI) (AU) (AV) (DJ) (DK) (DL) (DM) (DN) (AW) (List.take (aA ((↑m0.length:Int) - 1)).toNat m0)) (
(idx AU (aA (xH+ 1))).bind fun xI=>
(vW F F xH xI 0 Wc Wd Wf DH DI AU AV DJ DK DL DM DN (hg AW xH true) (List.take (aA ((↑m0.length:Int) - 1)).toNat m0)).bind fun iI=>
sZ F aS (iI.snd.fst.snd.fst) (iI.snd.fst.snd.snd.fst) (iI.snd.fst.snd.snd.snd.fst) (iI.snd.fst.snd.snd.snd.snd.fst) (iI.snd.fst.snd.snd.snd.snd.snd.fst) (iI.snd.snd.fst.fst) (iI.snd.snd.fst.snd.fst) (iI.snd.snd.fst.snd.snd.fst) (iI.snd.snd.fst.snd.snd.snd.fst) (iI.snd.snd.fst.snd.snd.snd.snd.fst) (iI.snd.snd.fst.snd.snd.snd.snd.snd.fst) (iI.snd.snd.fst.snd.snd.snd.snd.snd.snd.fst) (iI.snd.snd.snd.fst) (iI.snd.snd.snd.snd.fst))) (
some ((),(((),((Wc),((Wd),((Wf),((DH),((DI),((),()))))))),(((AU),((AV),((DJ),((DK),((DL),((DM),((DN),()))))))),((AW),((m0),()))))))
def adh (F:Nat):fI bz:=⟨[0,4],[.p (.B 0),.p (.R 3)],[.c 140 [.B 1,.l 134,.l 3,.l 124,.l 120,.l 121,.M 2],.c 24 [.l 3,.i .i64,.i .i64,.i .i64,.i .i64,.l 3,.i .i64],.m 3 4,.r 3 false],[⟨.nm,[],[],[.c 140 [.B 1,.l 134,.l 3,.l 124,.l 120,.l 121,.M 2],.c 24 [.l 3,.i .i64,.i .i64,.i .i64,.i .i64,.l 3,.i .i64],.m 3 4,.r 3 false]⟩],fun k d=>sZ F k d.2.1.2.1 d.2.1.2.2.1 d.2.1.2.2.2.1 d.2.1.2.2.2.2.1 d.2.1.2.2.2.2.2.1 d.2.2.1.1 d.2.2.1.2.1 d.2.2.1.2.2.1 d.2.2.1.2.2.2.1 d.2.2.1.2.2.2.2.1 d.2.2.1.2.2.2.2.2.1 d.2.2.1.2.2.2.2.2.2.1 d.2.2.2.1 d.2.2.2.2.1⟩
theorem aqj (F:Nat):(adh F).Eq aH (N9 F).t.br ((N9 F).t.LE 89) (gd aH.P 89) 0 (h0 aH.P 89 0):=⟨fun d=>by kernel_rfl,fun k ay az=>by kernel_rfl⟩
noncomputable def N_ (F:Nat):aR aH:=(N9 F).gw 89 0 F (adh F) (aqj F)
def E1 (F:Nat) (xK:List Int) (AX:List ap) (xL:List Int) (AZ:List (List J.Field)) (DP:List (List (List UInt8))) (jE:List (List J.Target)) (MY:List Int) (MZ:Int) (M1:Int) (M2:Int) (M3:Int) (M4:List Int) (M5:Int) (Wj:List (Int × Bool)):Option (Unit × (Unit × List ap × List Int × List (List J.Field) × List (List (List UInt8)) × List (List J.Target) × Unit × Unit) × (List Int × Int × Int × Int × Int × List Int × Int × Unit) × List (Int × Bool) × Unit):=
 (bK 8 [] xK).bind fun Wk=>
(sZ F F AX xL AZ DP jE MY MZ M1 M2 M3 M4 M5 Wj Wk).bind fun l0=>
some ((),(((),((l0.snd.fst.snd.fst),((l0.snd.fst.snd.snd.fst),((l0.snd.fst.snd.snd.snd.fst),((l0.snd.fst.snd.snd.snd.snd.fst),((l0.snd.fst.snd.snd.snd.snd.snd.fst),((),()))))))),(((l0.snd.snd.fst.fst),((l0.snd.snd.fst.snd.fst),((l0.snd.snd.fst.snd.snd.fst),((l0.snd.snd.fst.snd.snd.snd.fst),((l0.snd.snd.fst.snd.snd.snd.snd.fst),((l0.snd.snd.fst.snd.snd.snd.snd.snd.fst),((l0.snd.snd.fst.snd.snd.snd.snd.snd.snd.fst),()))))))),((l0.snd.snd.snd.fst),()))))
def acN (F:Nat):eg bz:=⟨[.p (.B 0),.p (.l 3)],[.c 140 [.B 1,.l 134,.l 3,.l 124,.l 120,.l 121,.M 2],.c 24 [.l 3,.i .i64,.i .i64,.i .i64,.i .i64,.l 3,.i .i64],.m 3 4],[],[.c 140 [.B 1,.l 134,.l 3,.l 124,.l 120,.l 121,.M 2],.c 24 [.l 3,.i .i64,.i .i64,.i .i64,.i .i64,.l 3,.i .i64],.m 3 4],fun d=>E1 F d.1.2.1 d.2.1.2.1 d.2.1.2.2.1 d.2.1.2.2.2.1 d.2.1.2.2.2.2.1 d.2.1.2.2.2.2.2.1 d.2.2.1.1 d.2.2.1.2.1 d.2.2.1.2.2.1 d.2.2.1.2.2.2.1 d.2.2.1.2.2.2.2.1 d.2.2.1.2.2.2.2.2.1 d.2.2.1.2.2.2.2.2.2.1 d.2.2.2.1⟩
theorem aqi (F:Nat):(acN F).Eq aH (N_ F).t.br (N_ F).t.LE 89 :=fun ay az=>by kernel_rfl
noncomputable def Oa (F:Nat):aR aH:=(N_ F).fn 89 (acN F) (aqi F)
def Qf (F:Nat) (aDo:List ap) (aDp:List Int) (M6:List (List J.Field)) (M7:List (List (List UInt8))) (uN:List (List J.Target)) (qz:List Int) (qA:List Int) (qB:Int) (xN:Int) (xO:Int) (xP:Int) (xQ:List Int) (xR:Int):Option ((Unit × Unit) × (List Int × Int × Int × Int × Int × List Int × Int × Unit) × (Unit × List ap × List Int × List (List J.Field) × List (List (List UInt8)) × List (List J.Target) × Unit × Unit) × List (Int × Bool) × Unit):=
 (J3 F qz).bind fun xS=>
(E1 F xS.fst.fst aDo aDp M6 M7 uN qA qB xN xO xP xQ xR []).bind fun iJ=>
some (((),()),(((iJ.snd.snd.fst.fst),((iJ.snd.snd.fst.snd.fst),((iJ.snd.snd.fst.snd.snd.fst),((iJ.snd.snd.fst.snd.snd.snd.fst),((iJ.snd.snd.fst.snd.snd.snd.snd.fst),((iJ.snd.snd.fst.snd.snd.snd.snd.snd.fst),((iJ.snd.snd.fst.snd.snd.snd.snd.snd.snd.fst),()))))))),(((),((iJ.snd.fst.snd.fst),((iJ.snd.fst.snd.snd.fst),((iJ.snd.fst.snd.snd.snd.fst),((iJ.snd.fst.snd.snd.snd.snd.fst),((iJ.snd.fst.snd.snd.snd.snd.snd.fst),((),()))))))),((iJ.snd.snd.snd.fst),()))))
def acM (F:Nat):eg bz:=⟨[.p (.B 0),.a [.l 134,.l 3,.l 124,.l 120,.l 121],.p (.l 109)],[.c 24 [.l 3,.i .i64,.i .i64,.i .i64,.i .i64,.l 3,.i .i64]],[.p (.B 1)],[.c 24 [.l 3,.i .i64,.i .i64,.i .i64,.i .i64,.l 3,.i .i64],.c 140 [.B 0,.l 134,.l 3,.l 124,.l 120,.l 121,.M 2],.m 3 4],fun d=>Qf F d.1.2.1.1 d.1.2.1.2.1 d.1.2.1.2.2.1 d.1.2.1.2.2.2.1 d.1.2.1.2.2.2.2.1 d.1.2.2.1 d.2.1.1 d.2.1.2.1 d.2.1.2.2.1 d.2.1.2.2.2.1 d.2.1.2.2.2.2.1 d.2.1.2.2.2.2.2.1 d.2.1.2.2.2.2.2.2.1⟩
theorem aqh (F:Nat):(acM F).Eq aH (Oa F).t.br (Oa F).t.LE 54 :=fun ay az=>by kernel_rfl
noncomputable def Ob (F:Nat):aR aH:=(Oa F).fn 54 (acM F) (aqh F)
def vV (F:Nat) (sb:List Int) (sc:Int) (sd:Int) (o0:Int) (uP:Int) (uQ:List Int) (A0:Int) (A1:List ap) (DQ:List Int) (uR:List (List J.Field)) (sf:List (List (List UInt8))) (uS:List (List J.Target)) (sg:List Int):Option ((Int × Int × Unit) × Unit):=
 dr (Ch F sb sc sd o0 uP uQ A0 A1 DQ uR sf uS sg) (fun o1=>
cond (!decide (o1.fst.snd.fst= 0)) (some (((0),((o1.fst.snd.fst),())),())) (
(NR F sg).bind fun DR=>
(Qf F o1.snd.fst.snd.snd.snd.snd.snd.snd.snd.fst o1.snd.fst.snd.snd.snd.snd.snd.snd.snd.snd.fst o1.snd.fst.snd.snd.snd.snd.snd.snd.snd.snd.snd.fst o1.snd.fst.snd.snd.snd.snd.snd.snd.snd.snd.snd.snd.fst
 o1.snd.fst.snd.snd.snd.snd.snd.snd.snd.snd.snd.snd.snd.fst DR.fst.fst sb sc sd o0 uP uQ A0).bind fun HL=>
((J4 HL.snd.fst.fst HL.snd.snd.snd.fst).bind fun x=>some x).bind fun M8=>
some (((M8),((0),())),()))) (fun HM=>
cond (!decide (HM.fst.snd.fst= 0)) (some (((0),((HM.fst.snd.fst),())),())) (
none))
def acL (F:Nat):eg bz:=⟨[.a [.l 3,.i .i64,.i .i64,.i .i64,.i .i64,.l 3,.i .i64],.a [.l 134,.l 3,.l 124,.l 120,.l 121],.p (.l 3)],[],[.p (.i .i64),.p (.i .i64)],[],fun d=>vV F d.1.1.1 d.1.1.2.1 d.1.1.2.2.1 d.1.1.2.2.2.1 d.1.1.2.2.2.2.1 d.1.1.2.2.2.2.2.1 d.1.1.2.2.2.2.2.2.1 d.1.2.1.1 d.1.2.1.2.1 d.1.2.1.2.2.1 d.1.2.1.2.2.2.1 d.1.2.1.2.2.2.2.1 d.1.2.2.1⟩
theorem aqg (F:Nat):(acL F).Eq aH (Ob F).t.br (Ob F).t.LE 22 :=fun ay az=>by kernel_rfl
noncomputable def IP (F:Nat):aR aH:=(Ob F).fn 22 (acL F) (aqg F)
end Go.Proofs.YteeliipnilghaaaGreat
namespace Go.Proofs.YteeliipnilghaaaGreat
open Go Go.RowKit au J bn
set_option maxRecDepth 100000
@[reducible] def CN:hx bz:=⟨[],[],[.p .b],[],Bool,fun _=>some true,fun _ r=>((r,()),())⟩
theorem aqd:CN.Eq kI (Cf kI (IP 2000).t.jH (fun _ _=>none) 100) (fun _ _=>none) 24 :=fun ay az=>by
 kernel_rfl
theorem aoy:jj kI 24 (CN.run kI):=
 have aq:sw kI (fun _ _=>none):=fun g fn c _ _ _=>rD (fun _=>rfl) c
 have hc:=((IP 2000).ok ly).ce
 have Cp:IQ kI (IP 2000).t.jH:=⟨hc.ca,fun g h ax=>(Jq g h) ▸ hc.ok g h ax⟩
 fun ys bl r ai=>B4 JB (ka JB Cp aq 100) aq rfl (c:=CN.ha) (eg.Eq.v aqd) ys bl r (xj ai)
theorem aBm:CN.run aH=CN.run kI:=by kernel_rfl
noncomputable def Oc (F:Nat):aR aH:=(IP F).add 24 (CN.run aH) (aBm ▸ (Jq 24 _) ▸ aoy)
end Go.Proofs.YteeliipnilghaaaGreat
namespace Go.Proofs.YteeliipnilghaaaGreat
open Go Go.RowKit au J bn
def EC (F:Nat) (cv:Int) (et:List Int):Option (Unit × (Unit × Unit) × List Int × Unit):=
 cond (!decide (cv= 0)) ((j6 F et cv).bind fun hr=>
cond (!hr) ((bK 8 et [cv]).bind fun j1=>
some ((),(((),()),((j1),())))) (
some ((),(((),()),((et),()))))) (
some ((),(((),()),((et),()))))
def acF (F:Nat):eg bz:=⟨[.p (.i .i64),.p (.B 0)],[.c 22 [.R 1],.r 3 false],[],[.c 22 [.R 1],.r 3 false],fun d=>EC F d.1.1 d.2.2.1⟩
theorem ap_ (F:Nat):(acF F).Eq aH (Oc F).t.br (Oc F).t.LE 91 :=fun ay az=>by kernel_rfl
noncomputable def Od (F:Nat):aR aH:=(Oc F).fn 91 (acF F) (ap_ F)
def yX (F:Nat):Nat->(List Int)->(Int)->(List Int)->(Int)->(Int)->(Int)->(Int)->(List Int)->(Int)->(List ap)->(List Int)->(List (List J.Field))->(List (List (List UInt8)))->(List (List J.Target))->(List Int)->Option ((Unit × Unit × Unit × (Unit × Unit) × Unit) ×
 (List Int × Int × Int × Int × Int × List Int × Int × Unit) × (List ap × List Int × List (List J.Field) × List (List (List UInt8)) × List (List J.Target) × Unit) × (Unit × Unit) × List Int × Unit)
 | 0,_,_,_,_,_,_,_,_,_,_,_,_,_,_,_=>none
 | aS+ 1,WI,WJ,DZ,D0,H2,H3,H4,H5,H6,H7,H8,H9,H_,H',Ia=>
   cond (decide (WJ <(↑WI.length:Int))) ((idx WI WJ).bind fun Nm=>
(EC F Nm Ia).bind fun Nn=>
yX F aS (WI) (aA (WJ+ 1)) (DZ) (D0) (H2) (H3) (H4) (H5) (H6) (H7) (H8) (H9) (H_) (H') (Nn.snd.snd.fst)) (
some (((),((),((),(((),()),())))),(((DZ),((D0),((H2),((H3),((H4),((H5),((H6),()))))))),(((H7),((H8),((H9),((H_),((H'),()))))),(((),()),((Ia),()))))))
def ac9 (F:Nat):fI bz:=⟨[2,3,4,7,8,9],[.p (.l 3),.p (.B 0),.p (.B 1),.p (.B 2),.f 91 [.B 2],.p (.i .i64)],[.c 24 [.l 3,.i .i64,.i .i64,.i .i64,.i .i64,.l 3,.i .i64],.c 30 [.l 134,.l 3,.l 124,.l 120,.l 121],.c 22 [.R 3],.r 3 false],[⟨.nm,[3,4,7,8],[.p (.B 0),.p (.B 1),.p (.B 2),.f 91 [.B 2]],[.c 24 [.l 3,.i .i64,.i .i64,.i .i64,.i .i64,.l 3,.i .i64],.c 30 [.l 134,.l 3,.l 124,.l 120,.l 121],.c 22 [.R 3],.r 3 false]⟩],fun k d=>yX F k d.1.1 d.1.2.2.2.2.2.1 d.2.1.1 d.2.1.2.1 d.2.1.2.2.1 d.2.1.2.2.2.1 d.2.1.2.2.2.2.1 d.2.1.2.2.2.2.2.1 d.2.1.2.2.2.2.2.2.1 d.2.2.1.1 d.2.2.1.2.1 d.2.2.1.2.2.1 d.2.2.1.2.2.2.1 d.2.2.1.2.2.2.2.1 d.2.2.2.2.1⟩
theorem ap' (F:Nat):(ac9 F).Eq aH (Od F).t.br ((Od F).t.LE 56) (gd aH.P 56) 0 (h0 aH.P 56 0):=⟨fun d=>by kernel_rfl,fun k ay az=>by kernel_rfl⟩
noncomputable def Of (F:Nat):aR aH:=(Od F).gw 56 0 F (ac9 F) (ap' F)
def yZ (F:Nat):Nat->(Int)->(List Int)->(Int)->(List Int)->(Int)->(Int)->(Int)->(Int)->(List Int)->(Int)->(List ap)->(List Int)->(List (List J.Field))->(List (List (List UInt8)))->(List (List J.Target))->(List Int)->Option ((Unit × Unit × Unit × (Unit × Unit) × Int × Unit) ×
 (List Int × Int × Int × Int × Int × List Int × Int × Unit) × (List ap × List Int × List (List J.Field) × List (List (List UInt8)) × List (List J.Target) × Unit) × (Unit × Unit) × List Int × Unit)
 | 0,_,_,_,_,_,_,_,_,_,_,_,_,_,_,_,_=>none
 | aS+ 1,DO,xI,iI,xK,AX,xL,AZ,DP,jE,MY,MZ,M1,M2,M3,M4,M5=>
   cond (decide (iI <(↑xI.length:Int))) ((idx xI iI).bind fun Wj=>
(idx xK Wj).bind fun Wk=>
(EC F Wk M5).bind fun l0=>
yZ F aS (DO) (xI) (aA (iI+ 1)) (xK) (AX) (xL) (AZ) (DP) (jE) (MY) (MZ) (M1) (M2) (M3) (M4) (l0.snd.snd.fst)) (
some (((),((),((),(((),()),((DO),()))))),(((xK),((AX),((xL),((AZ),((DP),((jE),((MY),()))))))),(((MZ),((M1),((M2),((M3),((M4),()))))),(((),()),((M5),()))))))
def ac' (F:Nat):fI bz:=⟨[3,4,7,8,10,11,12],[.p (.B 0),.p (.B 1),.p (.B 2),.f 91 [.B 2],.p (.i .i64),.p (.l 3),.p (.i .i64)],[.c 24 [.l 3,.i .i64,.i .i64,.i .i64,.i .i64,.l 3,.i .i64],.c 30 [.l 134,.l 3,.l 124,.l 120,.l 121],.c 22 [.R 3],.r 3 false],[⟨.nm,[3,4,7,8,10],[.p (.B 0),.p (.B 1),.p (.B 2),.f 91 [.B 2],.p (.i .i64)],[.c 24 [.l 3,.i .i64,.i .i64,.i .i64,.i .i64,.l 3,.i .i64],.c 30 [.l 134,.l 3,.l 124,.l 120,.l 121],.c 22 [.R 3],.r 3 false]⟩],fun k d=>yZ F k d.1.2.2.2.2.1 d.1.2.2.2.2.2.1 d.1.2.2.2.2.2.2.1 d.2.1.1 d.2.1.2.1 d.2.1.2.2.1 d.2.1.2.2.2.1 d.2.1.2.2.2.2.1 d.2.1.2.2.2.2.2.1 d.2.1.2.2.2.2.2.2.1 d.2.2.1.1 d.2.2.1.2.1 d.2.2.1.2.2.1 d.2.2.1.2.2.2.1 d.2.2.1.2.2.2.2.1 d.2.2.2.2.1⟩
theorem aqb (F:Nat):(ac' F).Eq aH (Of F).t.br ((Of F).t.LE 56) (gd aH.P 56) 4 (h0 aH.P 56 4):=⟨fun d=>by kernel_rfl,fun k ay az=>by kernel_rfl⟩
noncomputable def Og (F:Nat):aR aH:=(Of F).gw 56 4 F (ac' F) (aqb F)
def yY (F:Nat):Nat->(Int)->(List Int)->(Int)->(Int)->(Int)->(Int)->(List Int)->(Int)->(List ap)->(List Int)->(List (List J.Field))->(List (List (List UInt8)))->(List (List J.Target))->(List Int)->Option ((Unit × Unit) × (List Int × Int × Int × Int × Int × List Int × Int × Unit) × (List ap × List Int × List (List J.Field) × List (List (List UInt8)) × List (List J.Target) × Unit) × (Unit × Unit) × List Int × Unit)
 | 0,_,_,_,_,_,_,_,_,_,_,_,_,_,_=>none
 | aS+ 1,Wn,Wo,Wp,Wq,Wr,Ws,Wt,Wu,Wv,Ww,Wx,Wy,Wz,Na=>
   cond (decide (Wn <(↑Na.length:Int))) ((idx Na Wn).bind fun aDD=>
(na F (aY.mk Wo Wp Wq Wr Ws Wt Wu) (aU.mk Wv Ww Wx Wy Wz) aDD).bind fun aDE=>
(yZ F F Wn aDE 0 Wo Wp Wq Wr Ws Wt Wu Wv Ww Wx Wy Wz Na).bind fun m2=>
yY F aS (aA (m2.fst.snd.snd.snd.snd.fst+ 1)) (m2.snd.fst.fst) (m2.snd.fst.snd.fst) (m2.snd.fst.snd.snd.fst) (m2.snd.fst.snd.snd.snd.fst) (m2.snd.fst.snd.snd.snd.snd.fst) (m2.snd.fst.snd.snd.snd.snd.snd.fst) (m2.snd.fst.snd.snd.snd.snd.snd.snd.fst) (m2.snd.snd.fst.fst) (m2.snd.snd.fst.snd.fst) (m2.snd.snd.fst.snd.snd.fst) (m2.snd.snd.fst.snd.snd.snd.fst) (m2.snd.snd.fst.snd.snd.snd.snd.fst) (m2.snd.snd.snd.snd.fst)) (
some (((),()),(((Wo),((Wp),((Wq),((Wr),((Ws),((Wt),((Wu),()))))))),(((Wv),((Ww),((Wx),((Wy),((Wz),()))))),(((),()),((Na),()))))))
def ac_ (F:Nat):fI bz:=⟨[3,4,7,8,10],[.p (.B 0),.p (.B 1),.p (.B 2),.f 91 [.B 2],.p (.i .i64)],[.c 24 [.l 3,.i .i64,.i .i64,.i .i64,.i .i64,.l 3,.i .i64],.c 30 [.l 134,.l 3,.l 124,.l 120,.l 121],.c 22 [.R 3],.r 3 false],[⟨.nm,[7],[.p (.B 2)],[.c 24 [.l 3,.i .i64,.i .i64,.i .i64,.i .i64,.l 3,.i .i64],.c 30 [.l 134,.l 3,.l 124,.l 120,.l 121],.c 22 [.R 3],.r 3 false]⟩],fun k d=>yY F k d.1.2.2.2.2.1 d.2.1.1 d.2.1.2.1 d.2.1.2.2.1 d.2.1.2.2.2.1 d.2.1.2.2.2.2.1 d.2.1.2.2.2.2.2.1 d.2.1.2.2.2.2.2.2.1 d.2.2.1.1 d.2.2.1.2.1 d.2.2.1.2.2.1 d.2.2.1.2.2.2.1 d.2.2.1.2.2.2.2.1 d.2.2.2.2.1⟩
theorem aqa (F:Nat):(ac_ F).Eq aH (Og F).t.br ((Og F).t.LE 56) (gd aH.P 56) 2 (h0 aH.P 56 2):=⟨fun d=>by kernel_rfl,fun k ay az=>by kernel_rfl⟩
noncomputable def Oh (F:Nat):aR aH:=(Og F).gw 56 2 F (ac_ F) (aqa F)
def I2 (F:Nat) (aDF:List Int) (aDG:Int) (aDH:Int) (aDI:Int) (aDJ:Int) (aDK:List Int) (aDL:Int) (DS:List ap) (Nb:List Int) (Nc:List (List J.Field)) (Nd:List (List (List UInt8))) (HN:List (List J.Target)) (A2:List Int):Option ((List Int × Unit) × Unit):=
 (yX F F A2 0 aDF aDG aDH aDI aDJ aDK aDL DS Nb Nc Nd HN []).bind fun jF=>
(yY F F 0 jF.snd.fst.fst jF.snd.fst.snd.fst jF.snd.fst.snd.snd.fst jF.snd.fst.snd.snd.snd.fst jF.snd.fst.snd.snd.snd.snd.fst jF.snd.fst.snd.snd.snd.snd.snd.fst jF.snd.fst.snd.snd.snd.snd.snd.snd.fst
 jF.snd.snd.fst.fst jF.snd.snd.fst.snd.fst jF.snd.snd.fst.snd.snd.fst jF.snd.snd.fst.snd.snd.snd.fst jF.snd.snd.fst.snd.snd.snd.snd.fst jF.snd.snd.snd.snd.fst).bind fun sh=>
some (((sh.snd.snd.snd.snd.fst),()),())
def acE (F:Nat):eg bz:=⟨[.a [.l 3,.i .i64,.i .i64,.i .i64,.i .i64,.l 3,.i .i64],.a [.l 134,.l 3,.l 124,.l 120,.l 121],.p (.l 3)],[],[.p (.l 3)],[],fun d=>I2 F d.1.1.1 d.1.1.2.1 d.1.1.2.2.1 d.1.1.2.2.2.1 d.1.1.2.2.2.2.1 d.1.1.2.2.2.2.2.1 d.1.1.2.2.2.2.2.2.1 d.1.2.1.1 d.1.2.1.2.1 d.1.2.1.2.2.1 d.1.2.1.2.2.2.1 d.1.2.1.2.2.2.2.1 d.1.2.2.1⟩
theorem ap9 (F:Nat):(acE F).Eq aH (Oh F).t.br (Oh F).t.LE 56 :=fun ay az=>by kernel_rfl
noncomputable def Oi (F:Nat):aR aH:=(Oh F).fn 56 (acE F) (ap9 F)
def yW (F:Nat):Nat->(List Int)->(Int)->(Int)->(List Int)->(Int)->(Int)->(Int)->(Int)->(List Int)->(Int)->Option ((Int × Unit) × (List Int × Int × Int × Int × Int × List Int × Int × Unit) × Unit)
 | 0,_,_,_,_,_,_,_,_,_,_=>none
 | aS+ 1,uW,l3,dG,j0,l4,l5,o2,o3,DT,DU=>
   cond (decide (dG <(↑uW.length:Int))) ((idx uW dG).bind fun HV=>
(idx j0 (aA (HV+ 1))).bind fun HW=>
yW F aS (uW) (aA (l3+aA (3 +HW))) (aA (dG+ 1)) (j0) (l4) (l5) (o2) (o3) (DT) (DU)) (
some (((l3),()),(((j0),((l4),((l5),((o2),((o3),((DT),((DU),()))))))),())))
def ac8 (F:Nat):fI bz:=⟨[3,7,8,9],[.p (.B 0),.p (.l 3),.p (.i .i64),.p (.i .i64)],[.c 24 [.l 3,.i .i64,.i .i64,.i .i64,.i .i64,.l 3,.i .i64]],[⟨.nm,[8],[.p (.i .i64)],[.c 24 [.l 3,.i .i64,.i .i64,.i .i64,.i .i64,.l 3,.i .i64]]⟩],fun k d=>yW F k d.1.2.1 d.1.2.2.1 d.1.2.2.2.1 d.2.1.1 d.2.1.2.1 d.2.1.2.2.1 d.2.1.2.2.2.1 d.2.1.2.2.2.2.1 d.2.1.2.2.2.2.2.1 d.2.1.2.2.2.2.2.2.1⟩
theorem ap8 (F:Nat):(ac8 F).Eq aH (Oi F).t.br ((Oi F).t.LE 23) (gd aH.P 23) 0 (h0 aH.P 23 0):=⟨fun d=>by kernel_rfl,fun k ay az=>by kernel_rfl⟩
noncomputable def Oj (F:Nat):aR aH:=(Oi F).gw 23 0 F (ac8 F) (ap8 F)
def EA (F:Nat) (DV:List Int) (o4:Int) (ed:Int) (sk:Int) (hs:Int) (Ba:List Int) (DW:Int) (o5:List ap) (qC:List Int) (DX:List (List J.Field)) (HX:List (List (List UInt8))) (o6:List (List J.Target)) (qD:List Int):Option ((Int × Unit) × Unit):=
 (I2 F DV o4 ed sk hs Ba DW o5 qC DX HX o6 qD).bind fun uX=>
(yW F F uX.fst.fst 0 0 DV o4 ed sk hs Ba DW).bind fun xY=>
some (((xY.fst.fst),()),())
def acD (F:Nat):eg bz:=⟨[.a [.l 3,.i .i64,.i .i64,.i .i64,.i .i64,.l 3,.i .i64],.a [.l 134,.l 3,.l 124,.l 120,.l 121],.p (.l 3)],[],[.p (.i .i64)],[],fun d=>EA F d.1.1.1 d.1.1.2.1 d.1.1.2.2.1 d.1.1.2.2.2.1 d.1.1.2.2.2.2.1 d.1.1.2.2.2.2.2.1 d.1.1.2.2.2.2.2.2.1 d.1.2.1.1 d.1.2.1.2.1 d.1.2.1.2.2.1 d.1.2.1.2.2.2.1 d.1.2.1.2.2.2.2.1 d.1.2.2.1⟩
theorem ap7 (F:Nat):(acD F).Eq aH (Oj F).t.br (Oj F).t.LE 23 :=fun ay az=>by kernel_rfl
noncomputable def Ei (F:Nat):aR aH:=(Oj F).fn 23 (acD F) (ap7 F)
def IX (F:Nat) (kB:List Int) (lf:Int) (qE:Int) (xZ:Int) (lg:Int) (m3:List Int) (x0:Int) (x1:List ap) (x2:List Int) (x3:List (List J.Field)) (Bb:List (List (List UInt8))) (Bc:List (List J.Target)) (HY:List Int):Option ((Bool × Unit) × Unit):=
 (vV F kB lf qE xZ lg m3 x0 x1 x2 x3 Bb Bc HY).bind fun DY=>
(qN F (aY.mk kB lf qE xZ lg m3 x0) (aU.mk x1 x2 x3 Bb Bc) HY).bind fun HZ=>
cond (decide (HZ= 0)) ((EA F kB lf qE xZ lg m3 x0 x1 x2 x3 Bb Bc HY).bind fun WE=>
some (((true && decide (DY.fst.snd.fst=HZ) && decide (DY.fst.fst=WE.fst.fst)),()),())) (
some (((true && decide (DY.fst.snd.fst=HZ) && decide (DY.fst.fst= 0)),()),()))
def SB (F:Nat):eg bz:=⟨[.a [.l 3,.i .i64,.i .i64,.i .i64,.i .i64,.l 3,.i .i64],.a [.l 134,.l 3,.l 124,.l 120,.l 121],.p (.l 3)],[],[.p (.b)],[],fun d=>IX F d.1.1.1 d.1.1.2.1 d.1.1.2.2.1 d.1.1.2.2.2.1 d.1.1.2.2.2.2.1 d.1.1.2.2.2.2.2.1 d.1.1.2.2.2.2.2.2.1 d.1.2.1.1 d.1.2.1.2.1 d.1.2.1.2.2.1 d.1.2.1.2.2.2.1 d.1.2.1.2.2.2.2.1 d.1.2.2.1⟩
theorem ap6 (F:Nat):(SB F).Eq aH (Ei F).t.br (Ei F).t.LE 6 :=fun ay az=>by kernel_rfl
end Go.Proofs.YteeliipnilghaaaGreat
namespace Go.Proofs.YteeliipnilghaaaGreat
open Go Go.RowKit au J bn
theorem aox (F:Nat):jj aH 6 ((SB F).run aH):=Pg ly (ka ly ((Ei F).ok ly).ce ((Ei F).ok ly).le 100) ((Ei F).ok ly).le rfl (ap6 F)
end Go.Proofs.YteeliipnilghaaaGreat
namespace Go.Proofs.YteeliipnilghaaaGreat
open Go Go.RowKit au J bn
section
variable {F:Nat->Prop} {w:World} {cs:List Value}
theorem L6 {d:bz.El 3} (h:((au.e3 .i64)).rd F w cs d):(bz.ty 3).rd F w cs d:=by
 obtain rfl:cs=_:=h
 change fc (fun t=>(fC JJ t).ty) F w [.i .i64] _ (d,())
 exact ⟨_,_,rfl,rfl,rfl⟩
theorem afb {d:bz.El 136} (h:(J.iE).rd F w cs d):(bz.ty 136).rd F w cs d:=by
 obtain rfl:cs=_:=h
 change fc (fun t=>(fC EU t).ty) F w [.s,.i .i64,.s] _ (d.Name,d.Kind.Kind,d.Kind.ap,())
 exact ⟨_,_,rfl,rfl,_,_,rfl,rfl,_,_,rfl,rfl,rfl⟩
theorem aAy {d:bz.El 128} (h:(J.AL).rd F w cs d):(bz.ty 128).rd F w cs d:=by
 obtain rfl:cs=_:=h
 change fc (fun t=>(fC JH t).ty) F w [.i .i64,.s] _ (d.Kind,d.ap,())
 exact ⟨_,_,rfl,rfl,_,_,rfl,rfl,rfl⟩
theorem aAB {d:bz.El 157} (h:(J.AK).rd F w cs d):(bz.ty 157).rd F w cs d:=by
 obtain rfl:cs=_:=h
 change fc (fun t=>(fC JF t).ty) F w [.i .i64,.i .i64,.i .i64,.s] _ (d.From,d.To,d.hV,d.ap,())
 exact ⟨_,_,rfl,rfl,_,_,rfl,rfl,_,_,rfl,rfl,_,_,rfl,rfl,rfl⟩
theorem aAz {d:bz.El 131} (h:(J.oZ).rd F w cs d):(bz.ty 131).rd F w cs d:=by
 obtain ⟨_,_,_,_,rfl,aa,ni⟩:=h
 change fc (fun t=>(fC JI t).ty) F w [.s,.b,.l 128,.i .i64,.s,.i .i64,.i .i64,.s,.l 157] _ (d.Name,d.Static,d.cw,d.Returns.Kind,d.Returns.ap,d.g8,d.g5,d.Code,d.cz,())
 exact ⟨_,_,rfl,rfl,_,_,rfl,rfl,_,_,rfl,iB (fun _ _=>aAy) aa,_,_,rfl,rfl,_,_,rfl,rfl,_,_,rfl,rfl,_,_,rfl,rfl,_,_,rfl,rfl,_,_,rfl,iB (fun _ _=>aAB) ni,rfl⟩
theorem aAA {d:bz.El 134} (h:(J.jC).rd F w cs d):(bz.ty 134).rd F w cs d:=by
 obtain ⟨_,_,_,_,rfl,aa,aw⟩:=h
 change fc (fun t=>(fC JG t).ty) F w [.s,.s,.l 136,.l 131] _ (d.Name,d.cP,d.Fields,d.bc,())
 exact ⟨_,_,rfl,rfl,_,_,rfl,rfl,_,_,rfl,iB (fun _ _=>afb) aa,_,_,rfl,iB (fun _ _=>aAz) aw,rfl⟩
theorem aAx {d:bz.El 124} (h:((b4 J.iE)).rd F w cs d):(bz.ty 124).rd F w cs d:=by
 obtain ⟨A,c,rfl⟩:=lV h
 change fc (fun t=>(fC Pw t).ty) F w [.l 136] _ (d,())
 exact ⟨_,_,rfl,iB (fun _ _=>afb) h,rfl⟩
theorem aAD {d:bz.El 9} (h:(iD).rd F w cs d):(bz.ty 9).rd F w cs d:=by
 obtain rfl:cs=_:=h
 change fc (fun t=>(fC JL t).ty) F w [.s] _ (d,())
 exact ⟨_,_,rfl,rfl,rfl⟩
theorem aAv {d:bz.El 120} (h:((b4 iD)).rd F w cs d):(bz.ty 120).rd F w cs d:=by
 obtain ⟨A,c,rfl⟩:=lV h
 change fc (fun t=>(fC Px t).ty) F w [.l 9] _ (d,())
 exact ⟨_,_,rfl,iB (fun _ _=>aAD) h,rfl⟩
theorem aAC {d:bz.El 166} (h:(J.jD).rd F w cs d):(bz.ty 166).rd F w cs d:=by
 obtain rfl:cs=_:=h
 change fc (fun t=>(fC JK t).ty) F w [.i .i64,.i .i64] _ (d.ap,d.Method,())
 exact ⟨_,_,rfl,rfl,_,_,rfl,rfl,rfl⟩
theorem aAw {d:bz.El 121} (h:((b4 J.jD)).rd F w cs d):(bz.ty 121).rd F w cs d:=by
 obtain ⟨A,c,rfl⟩:=lV h
 change fc (fun t=>(fC Pv t).ty) F w [.l 166] _ (d,())
 exact ⟨_,_,rfl,iB (fun _ _=>aAC) h,rfl⟩
end
end Go.Proofs.YteeliipnilghaaaGreat
namespace J
theorem dt {n:Int} (aQ: -9223372036854775808 <=n) (I:n<= 9223372036854775807):aA n=n:=by unfold aA;omega
theorem eP {i n:Nat} (hi:i <n) (aJ:n<= 140737488355328):aA ((i:Int)+ 1)=((i+ 1 :Nat):Int):=by
 rw [dt (by omega) (by omega)];omega
theorem bw {α:Type} {l:List α} {i:Nat} {x:α} (h:l[i]? =some x):idx l (i:Int)=some x:=by
 unfold idx;rw [if_pos (by omega)];simpa using h
theorem bN {i n:Nat} (h:i <n):decide ((i:Int) <(n:Int))=true:=decide_eq_true (by omega)
theorem bM (n:Nat):decide ((n:Int) <(n:Int))=false:=decide_eq_false (by omega)
def cr {ρ:Type}:Option ρ->Way ρ Unit
 | some r=>.out r
 | none=>.go ()
def gC {ρ:Type} (o:Option ρ) (y:Option (Way ρ Unit)):Option (Way ρ Unit):=match o with
 | some r=>some (.out r)
 | none=>y
theorem each {α ρ:Type} {l:List α} {L:Nat->Int->Option (Way ρ Unit)} (g:α->Option ρ) (aq:l.length<= 140737488355328)
 (ao:∀ k (i:Nat) x,l[i]? =some x->L (k+ 1) (i:Int)=gC (g x) (L k (aA ((i:Int)+ 1))))
 (he:∀ k,L (k+ 1) (l.length:Int)=some (.go ())) {F:Nat} (aD:l.length <F):L F 0 =some (cr (l.findSome? g)):=by
 have key:∀ (d i k:Nat),i+d=l.length->d <k->L k (i:Int)=some (cr ((l.drop i).findSome? g)):=by
  intro d
  induction d with
  | zero=>
    intro i k h aj
    obtain ⟨k,rfl⟩:∃ k',k=k'+ 1 :=⟨k - 1,by omega⟩
    have hi:i=l.length:=by omega
    subst hi
    rw [he];simp [cr]
  | succ d bq=>
    intro i k h aj
    obtain ⟨k,rfl⟩:∃ k',k=k'+ 1 :=⟨k - 1,by omega⟩
    have hi:i <l.length:=by omega
    rw [ao k i l[i] (List.getElem?_eq_getElem hi),List.drop_eq_getElem_cons hi,List.findSome?_cons]
    cases ax:g l[i] with
    | some r=>rfl
    | none=>
      simp only [gC]
      rw [eP hi aq]
      exact bq (i+ 1) k (by omega) (by omega)
 have:=key l.length 0 F (by omega) aD
 simpa using this
theorem jM {ρ:Type} {n:Nat} {L:Nat->Int->Option (Way ρ Unit)} (g:Nat->Option ρ) (aq:n<= 140737488355328)
 (ao:∀ k (i:Nat),i <n->L (k+ 1) (i:Int)=gC (g i) (L k (aA ((i:Int)+ 1))))
 (he:∀ k,L (k+ 1) (n:Int)=some (.go ())) {F:Nat} (aD:n <F):L F 0 =some (cr ((List.range n).findSome? g)):=by
 have h:=each (l:=List.range n) (L:=L) g (by simpa using aq) (fun k i x ad=>by
  have hi:i <n:=by have:=(List.getElem?_eq_some_iff.1 ad).1;simpa using this
  rw [List.getElem?_range hi] at ad
  simp only [Option.some.injEq] at ad
  subst ad
  exact ao k i hi) (fun k=>by simpa using he k) (F:=F) (by simpa using aD)
 exact h
theorem S5 {σ:Type} {n:Nat} (T:Nat->Nat->Option σ) (fin:σ) (ao:∀ k i,i <n->T (k+ 1) i=T k (i+ 1)) (he:∀ k,T (k+ 1) n=some fin) {F:Nat} (aD:n <F):T F 0 =some fin:=by
 have key:∀ (d i k:Nat),i+d=n->d <k->T k i=some fin:=by
  intro d
  induction d with
  | zero=>
    intro i k h aj
    obtain ⟨k,rfl⟩:∃ k',k=k'+ 1 :=⟨k - 1,by omega⟩
    have hi:i=n:=by omega
    subst hi
    exact he k
  | succ d bq=>
    intro i k h aj
    obtain ⟨k,rfl⟩:∃ k',k=k'+ 1 :=⟨k - 1,by omega⟩
    rw [ao k i (by omega)]
    exact bq (i+ 1) k (by omega) (by omega)
 exact key n 0 F (by omega) aD
abbrev Small (F n:Nat):Prop:=n<= 140737488355328 /\n <F
end J
namespace J
def q0 (b:UInt8):Bool:=((((decide (97 <=(b.toNat:Int))) && (decide ((b.toNat:Int)<= 122))) || ((decide (65 <=(b.toNat:Int))) && (decide ((b.toNat:Int)<= 90)))) || ((decide (48 <=(b.toNat:Int))) && (decide ((b.toNat:Int)<= 57)))) || (decide ((b.toNat:Int)= 95))
def gI (s:List UInt8):Bool:=(s.findSome? fun b=>if q0 b then none else some ()).isNone && decide (s≠ []) && decide (s.length<= 20)
theorem yV {F:Nat} {s:List UInt8} (h:Small F s.length):m' F s=some (gI s):=by
 unfold m'
 have l1:=each (l:=s) (L:=qW s) (fun b=>if q0 b then none else some false) h.1 (fun k i x ad=>by
  rw [qW,bN (List.getElem?_eq_some_iff.1 ad).1,cond_true,bw ad,Option.bind_some]
  show cond (!q0 x) _ _=_
  cases q0 x <;> rfl) (fun k=>by rw [qW,bM];rfl) h.2
 rw [l1]
 unfold gI
 have e:∀ s:List UInt8,s.findSome? (fun b=>if q0 b then none else some false)=(s.findSome? (fun b=>if q0 b then none else some ())).map (fun _=>false):=by
  intro s
  induction s with
  | nil=>rfl
  | cons b r bq=>simp only [List.findSome?_cons];cases q0 b <;> simp [bq]
 rw [e]
 cases s.findSome? (fun b=>if q0 b then none else some ()) with
 | some _=>rfl
 | none=>
   simp only [Option.map_none,cr,oW,Option.isNone_none,Bool.true_and]
   congr 1
   rw [Bool.eq_iff_iff]
   cases s <;> first | (simp;done) | (simp;omega)
theorem CK {F:Nat} {s:List UInt8} (h:Small F s.length):mH F s=some (gI s):=by
 rw [<-yV h]
 unfold mH m' bytesOf
 rw [if_pos h.1,Option.bind_some]
 have e:∀ k n,zS s k n=qW s k n:=by
  intro k
  induction k with
  | zero=>intro n;rfl
  | succ k bq=>
    intro n
    rw [zS,qW]
    simp only [bq]
    congr 1
    congr 1
    funext b
    have hc:(((((decide ((b.toNat:Int) < 97)) || (decide (122 <(b.toNat:Int)))) && ((decide ((b.toNat:Int) < 65)) || (decide (90 <(b.toNat:Int))))) && ((decide ((b.toNat:Int) < 48)) || (decide (57 <(b.toNat:Int))))) && (!decide ((b.toNat:Int)= 95)))= !q0 b:=by
     unfold q0
     rw [Bool.eq_iff_iff]
     first | (simp;done) | (simp;omega)
    rw [hc];rfl
 rw [e]
 cases qW s F 0 with
 | none=>rfl
 | some w=>
   cases w with
   | out r=>rfl
   | go u=>
     simp only [oW]
     congr 1
     rw [Bool.eq_iff_iff]
     cases s <;> first | (simp;done) | (simp;omega)
def kindOk (k:Kind):Bool:=if k.Kind= 3 \/k.Kind= 4 then gI k.ap else (decide (k.Kind= 1) || decide (k.Kind= 2)) && decide (k.ap= [])
theorem Si {F:Nat} {k:Kind} (h:Small F k.ap.length):tE F k=some (kindOk k):=by
 unfold tE KG kindOk
 simp only [Option.bind_some,CK h]
 by_cases aw:k.Kind= 3 \/k.Kind= 4
 · rw [if_pos aw]
   rcases aw with e | e <;> simp [e]
 · rw [if_neg aw]
   have aV: ¬ k.Kind= 3 :=fun e=>aw (.inl e)
   have bS: ¬ k.Kind= 4 :=fun e=>aw (.inr e)
   simp [aV,bS]
theorem OE {F:Nat} {k:Kind} (h:Small F k.ap.length):sE F k=some (kindOk k):=by
 unfold sE kindOk
 simp only [yV h,Option.bind_some]
 by_cases aw:k.Kind= 3 \/k.Kind= 4
 · rw [if_pos aw]
   rcases aw with e | e <;> simp [e]
 · rw [if_neg aw]
   have aV: ¬ k.Kind= 3 :=fun e=>aw (.inl e)
   have bS: ¬ k.Kind= 4 :=fun e=>aw (.inr e)
   by_cases I:k.Kind= 1
   · simp [I]
   · by_cases aa:k.Kind= 2
     · simp [aa]
     · simp [aV,bS,I,aa]
def hq (n a b:Int):Bool:=decide (a<=n) && decide (n<=b)
def q9 (h:Handler):Option Int:=if gI h.ap then (if hq h.From 0 200 && hq h.To 0 200 && hq h.hV 0 200 then none else some 3) else some 1
def tH (k:Kind):Option Int:=if kindOk k then none else some 7
def Aj (m:Method):Int:=
 if gI m.Name then
  if 4 <m.cw.length\/ 200 <m.Code.length\/ 4 <m.cz.length then 2
  else if hq m.g8 0 10 && hq m.g5 0 10 then
   match m.cw.findSome? tH with
   | some e=>e
   | none=>if m.Returns=⟨0,[]⟩\/kindOk m.Returns=true then (m.cz.findSome? q9).getD 0 else 7
  else 3
 else 1
structure Method.Fits (F:Nat) (m:Method):Prop where
 name:Small F m.Name.length
 args:Small F m.cw.length
 arg:∀ k ∈ m.cw,Small F k.ap.length
 ret:Small F m.Returns.ap.length
 v8:Small F m.cz.length
 hand:∀ h ∈ m.cz,Small F h.ap.length
structure ap.Fits (F:Nat) (c:ap):Prop where
 name:Small F c.Name.length
 super:Small F c.cP.length
 fields:Small F c.Fields.length
 field:∀ f ∈ c.Fields,Small F f.Name.length/\Small F f.Kind.ap.length
 methods:Small F c.bc.length
 method:∀ m ∈ c.bc,m.Fits F
def Fits (F:Nat) (l:List ap):Prop:=Small F l.length/\ ∀ c ∈ l,c.Fits F
theorem agH {F:Nat} (o:Option Int) (d:Int):cd (α:=Unit) (some (cr o)) (fun _=>some d)=some (o.getD d):=by cases o <;> rfl
theorem agI {o:Option Int} {k:Option Int}:cd (α:=Unit) (some (cr o)) (fun _=>k)=(match o with | some e=>some e | none=>k):=by cases o <;> rfl
theorem auG {F:Nat} {m:Method} (h:m.Fits F):zV F m=some (Aj m):=by
 have l1:wo F m F 0 =some (cr (m.cw.findSome? tH)):=each tH h.args.1 (fun k i x ad=>by
  rw [wo,bN (List.getElem?_eq_some_iff.1 ad).1,cond_true,bw ad,Option.bind_some,Si (h.arg x (List.mem_of_getElem? ad)),Option.bind_some]
  unfold tH
  show cond (!kindOk x) _ _=_
  cases kindOk x <;> rfl) (fun k=>by rw [wo,bM];rfl) h.args.2
 have aq:∀ {x:Handler} (_:x ∈ m.cz) (Y:Option (Way Int Unit)),((mH F x.ap).bind fun U0=>
  cond (!U0) (some (.out 1)) ((lJ x.From 0 200).bind fun oR=>
  cond (!oR) (some (.out 3)) ((lJ x.To 0 200).bind fun U1=>
  cond (!U1) (some (.out 3)) ((lJ x.hV 0 200).bind fun U2=>
  cond (!U2) (some (.out 3)) Y))))=gC (q9 x) Y:=by
  intro x ad Y
  rw [CK (h.hand x ad)]
  unfold q9 lJ
  simp only [Option.bind_some]
  show cond (!gI x.ap) _ (cond (!hq x.From 0 200) _ (cond (!hq x.To 0 200) _ (cond (!hq x.hV 0 200) _ _)))=_
  cases gI x.ap <;> cases hq x.From 0 200 <;> cases hq x.To 0 200 <;> cases hq x.hV 0 200 <;> rfl
 have cB:zW F m F 0 =some (cr (m.cz.findSome? q9)):=each q9 h.v8.1 (fun k i x ad=>by
  rw [zW,bN (List.getElem?_eq_some_iff.1 ad).1,cond_true,bw ad,Option.bind_some]
  exact aq (List.mem_of_getElem? ad) _) (fun k=>by rw [zW,bM];rfl) h.v8.2
 have iY:pT F m F 0 =some (cr (m.cz.findSome? q9)):=each q9 h.v8.1 (fun k i x ad=>by
  rw [pT,bN (List.getElem?_eq_some_iff.1 ad).1,cond_true,bw ad,Option.bind_some]
  exact aq (List.mem_of_getElem? ad) _) (fun k=>by rw [pT,bM];rfl) h.v8.2
 unfold zV lJ Aj
 rw [CK h.name,l1,cB,iY]
 have aj:=Si (F:=F) (k:=(⟨m.Returns.Kind,m.Returns.ap⟩:Kind)) h.ret
 simp only [Option.bind_some,aj,agH (F:=F),agI]
 cases gI m.Name with
 | false=>rfl
 | true=>
   simp only [Bool.not_true,cond_false,if_true]
   by_cases hm:4 <m.cw.length\/ 200 <m.Code.length\/ 4 <m.cz.length
   · rw [if_pos hm]
     have:((decide (4 <(m.cw.length:Int))) || (decide (200 <(m.Code.length:Int))) || (decide (4 <(m.cz.length:Int))))=true:=by
      simp;omega
     rw [this];rfl
   · rw [if_neg hm]
     have:((decide (4 <(m.cw.length:Int))) || (decide (200 <(m.Code.length:Int))) || (decide (4 <(m.cz.length:Int))))=false:=by
      simp;omega
     rw [this]
     show cond (!hq m.g8 0 10) _ (cond (!hq m.g5 0 10) _ _)=_
     cases hq m.g8 0 10 <;> cases hq m.g5 0 10 <;> try rfl
     simp only [Bool.not_true,cond_false,Bool.and_self,if_true]
     cases m.cw.findSome? tH with
     | some e=>rfl
     | none=>
       simp only
       by_cases aE:m.Returns=⟨0,[]⟩
       · rw [if_pos (.inl aE),show (decide ((⟨m.Returns.Kind,m.Returns.ap⟩:Kind)=⟨0,[]⟩))=true from decide_eq_true aE]
         rfl
       · rw [show (decide ((⟨m.Returns.Kind,m.Returns.ap⟩:Kind)=⟨0,[]⟩))=false from decide_eq_false aE]
         simp only [Bool.not_false,cond_true]
         show cond (!kindOk m.Returns) _ _=_
         cases atm:kindOk m.Returns with
         | true=>rw [if_pos (.inr rfl)];rfl
         | false=>rw [if_neg (by simp [aE])];rfl
theorem anW {F:Nat} {m:Method} (h:m.Fits F):yQ F m=some (Aj m):=by
 have l1:yR F m F 0 =some (cr (m.cw.findSome? tH)):=each tH h.args.1 (fun k i x ad=>by
  rw [yR,bN (List.getElem?_eq_some_iff.1 ad).1,cond_true,bw ad,Option.bind_some,OE (h.arg x (List.mem_of_getElem? ad)),Option.bind_some]
  unfold tH
  cases kindOk x <;> rfl) (fun k=>by rw [yR,bM];rfl) h.args.2
 have cB:yS F m F 0 =some (cr (m.cz.findSome? q9)):=each q9 h.v8.1 (fun k i x ad=>by
  rw [yS,bN (List.getElem?_eq_some_iff.1 ad).1,cond_true,bw ad,Option.bind_some,yV (h.hand x (List.mem_of_getElem? ad))]
  unfold q9 fv
  simp only [Option.bind_some]
  show cond (!gI x.ap) _ (cond (!hq x.From 0 200) _ (cond (!hq x.To 0 200) _ (cond (!hq x.hV 0 200) _ _)))=_
  cases gI x.ap <;> cases hq x.From 0 200 <;> cases hq x.To 0 200 <;> cases hq x.hV 0 200 <;> rfl) (fun k=>by rw [yS,bM];rfl) h.v8.2
 unfold yQ fv Aj
 rw [yV h.name,l1,cB]
 have aj:=OE (F:=F) (k:=(⟨m.Returns.Kind,m.Returns.ap⟩:Kind)) h.ret
 simp only [Option.bind_some,aj,agH (F:=F),agI]
 cases gI m.Name with
 | false=>rfl
 | true=>
   simp only [Bool.not_true,cond_false,if_true]
   by_cases hm:4 <m.cw.length\/ 200 <m.Code.length\/ 4 <m.cz.length
   · rw [if_pos hm]
     have:((decide (4 <(m.cw.length:Int))) || (decide (200 <(m.Code.length:Int))) || (decide (4 <(m.cz.length:Int))))=true:=by
      simp;omega
     rw [this];rfl
   · rw [if_neg hm]
     have:((decide (4 <(m.cw.length:Int))) || (decide (200 <(m.Code.length:Int))) || (decide (4 <(m.cz.length:Int))))=false:=by
      simp;omega
     rw [this]
     show cond (!hq m.g8 0 10) _ (cond (!hq m.g5 0 10) _ _)=_
     cases hq m.g8 0 10 <;> cases hq m.g5 0 10 <;> try rfl
     simp only [Bool.not_true,cond_false,Bool.and_self,if_true]
     cases m.cw.findSome? tH with
     | some e=>rfl
     | none=>
       simp only
       show cond ((!kindOk m.Returns) && _) _ _=_
       by_cases aE:m.Returns=⟨0,[]⟩
       · rw [if_pos (.inl aE),aE]
         simp
       · have b3:((!decide (m.Returns.Kind= 0)) || (!decide (m.Returns.ap= [])))=true:=by
          rcases bC:m.Returns with ⟨a,b⟩
          rw [bC] at aE
          by_cases aK:a= 0
          · by_cases ag:b= []
            · subst aK;subst ag;exact absurd rfl aE
            · simp [ag]
          · simp [aK]
         rw [b3]
         cases atm:kindOk m.Returns with
         | true=>rw [if_pos (.inr rfl)];rfl
         | false=>rw [if_neg (by simp [aE])];rfl
end J
namespace J
def hL (f:Field):Option Int:=if gI f.Name then (if kindOk f.Kind then none else some 7) else some 1
def gK (e:Int):Option Int:=if e= 0 then none else some e
def gx (m:Method):Option Int:=gK (Aj m)
def BX (c:ap):Int:=
 if gI c.Name && (decide (c.cP= []) || gI c.cP) then
  if 6 <c.Fields.length\/ 8 <c.bc.length then 2
  else (c.Fields.findSome? hL).getD ((c.bc.findSome? gx).getD 0)
 else 1
def px (c:ap):Option Int:=gK (BX c)
def qZ (l:List ap):Int:=if 10 <l.length then 2 else (l.findSome? px).getD 0
def nK {ρ:Type} (o:Option ρ) (y:Option ρ):Option ρ:=match o with
 | some e=>some e
 | none=>y
theorem TB {e:Int} {Y:Option (Way Int Unit)}:cond (!decide (e= 0)) (some (.out e)) Y=gC (gK e) Y:=by
 unfold gK gC
 by_cases h:e= 0
 · rw [if_pos h,decide_eq_true h];rfl
 · rw [if_neg h,decide_eq_false h];rfl
theorem Zg {a b:Nat} (x y:Nat):((decide ((x:Int) <(a:Int))) || (decide ((y:Int) <(b:Int))))=decide (x <a\/y <b):=by
 rw [Bool.eq_iff_iff];simp
theorem mX {o:Option Int} {k:Unit->Option (Way Int Unit)}:cT (α:=Unit) (some (cr o)) k=gC o (k ()):=by cases o <;> rfl
theorem jd {ρ:Type} {o:Option ρ} {k:Unit->Option ρ}:cd (α:=Unit) (some (cr o)) k=nK o (k ()):=by cases o <;> rfl
theorem oX {o:Option Int} {Y:Option (Way Int Unit)} {k:Unit->Option (Way Int Unit)}:cT (α:=Unit) (gC o Y) k=gC o (cT (α:=Unit) Y k):=by cases o <;> rfl
section
variable {F:Nat}
theorem auF {c:ap} (h:c.Fits F):F5 F c=some (BX c):=by
 have af:∀ {x:Field} (_:x ∈ c.Fields) (Y:Option (Way Int Unit)),((mH F x.Name).bind fun GY=>
  cond (!GY) (some (.out 1)) ((tE F (⟨x.Kind.Kind,x.Kind.ap⟩:Kind)).bind fun GQ=>
  cond (!GQ) (some (.out 7)) Y))=gC (hL x) Y:=by
  intro x ad Y
  rw [CK (h.field x ad).1,Si (k:=(⟨x.Kind.Kind,x.Kind.ap⟩:Kind)) (h.field x ad).2]
  unfold hL
  simp only [Option.bind_some]
  show cond (!gI x.Name) _ (cond (!kindOk x.Kind) _ _)=_
  cases gI x.Name <;> cases kindOk x.Kind <;> rfl
 have hm:∀ {x:Method} (_:x ∈ c.bc) (Y:Option (Way Int Unit)),((zV F (⟨x.Name,x.Static,x.cw,(⟨x.Returns.Kind,x.Returns.ap⟩:Kind),x.g8,x.g5,x.Code,x.cz⟩:Method)).bind fun oR=>
  cond (!decide (oR= 0)) (some (.out oR)) Y)=gC (gx x) Y:=by
  intro x ad Y
  have:=auG (F:=F) (m:=(⟨x.Name,x.Static,x.cw,(⟨x.Returns.Kind,x.Returns.ap⟩:Kind),x.g8,x.g5,x.Code,x.cz⟩:Method)) (h.method x ad)
  rw [this,Option.bind_some]
  exact TB
 have l1:zT F c F 0 =some (cr (c.Fields.findSome? hL)):=each hL h.fields.1 (fun k i x ad=>by
  rw [zT,bN (List.getElem?_eq_some_iff.1 ad).1,cond_true,bw ad,Option.bind_some];exact af (List.mem_of_getElem? ad) _) (fun k=>by rw [zT,bM];rfl) h.fields.2
 have iY:tD F c F 0 =some (cr (c.Fields.findSome? hL)):=each hL h.fields.1 (fun k i x ad=>by
  rw [tD,bN (List.getElem?_eq_some_iff.1 ad).1,cond_true,bw ad,Option.bind_some];exact af (List.mem_of_getElem? ad) _) (fun k=>by rw [tD,bM];rfl) h.fields.2
 have cB:zU F c F 0 =some (cr (c.bc.findSome? gx)):=each gx h.methods.1 (fun k i x ad=>by
  rw [zU,bN (List.getElem?_eq_some_iff.1 ad).1,cond_true,bw ad,Option.bind_some];exact hm (List.mem_of_getElem? ad) _) (fun k=>by rw [zU,bM];rfl) h.methods.2
 have z8:pS F c F 0 =some (cr (c.bc.findSome? gx)):=each gx h.methods.1 (fun k i x ad=>by
  rw [pS,bN (List.getElem?_eq_some_iff.1 ad).1,cond_true,bw ad,Option.bind_some];exact hm (List.mem_of_getElem? ad) _) (fun k=>by rw [pS,bM];rfl) h.methods.2
 unfold F5 BX
 rw [CK h.name,CK h.super,l1,cB,iY,z8]
 simp only [Option.bind_some,jd,show (6 :Int)=((6 :Nat):Int) from rfl,show (8 :Int)=((8 :Nat):Int) from rfl,Zg]
 cases gI c.Name with
 | false=>rfl
 | true=>
   simp only [Bool.not_true,cond_false,Bool.true_and]
   have FU:∀ p:Bool,p=decide (6 <c.Fields.length\/ 8 <c.bc.length)->cond p (some (2 :Int)) (nK (c.Fields.findSome? hL) (nK (c.bc.findSome? gx) (some 0))) =
    some (if 6 <c.Fields.length\/ 8 <c.bc.length then 2 else (c.Fields.findSome? hL).getD ((c.bc.findSome? gx).getD 0)):=by
    intro p aN
    subst aN
    by_cases bC:6 <c.Fields.length\/ 8 <c.bc.length
    · rw [if_pos bC,decide_eq_true bC];rfl
    · rw [if_neg bC,decide_eq_false bC]
      cases c.Fields.findSome? hL with
      | some e=>rfl
      | none=>cases c.bc.findSome? gx <;> rfl
   by_cases ao:c.cP= []
   · rw [decide_eq_true ao]
     simp only [Bool.not_true,cond_false,Bool.true_or,if_true]
     exact FU _ rfl
   · rw [decide_eq_false ao]
     simp only [Bool.not_false,cond_true,Bool.false_or]
     cases gI c.cP with
     | false=>rfl
     | true=>
       simp only [Bool.not_true,cond_false,if_true]
       exact FU _ rfl
theorem auE {l:List ap} (h:Fits F l):F4 F l=some (qZ l):=by
 have l1:wm F l F 0 =some (cr (l.findSome? px)):=each px h.1.1 (fun k i x ad=>by
  rw [wm,bN (List.getElem?_eq_some_iff.1 ad).1,cond_true,bw ad,Option.bind_some,auF (c:=(⟨x.Name,x.cP,x.Fields,x.bc⟩:ap)) (h.2 x (List.mem_of_getElem? ad)),Option.bind_some]
  exact TB) (fun k=>by rw [wm,bM];rfl) h.1.2
 unfold F4 qZ
 rw [l1,jd]
 by_cases aq:10 <l.length
 · rw [if_pos aq,decide_eq_true (show (10 :Int) <(l.length:Int) by omega)];rfl
 · rw [if_neg aq,decide_eq_false (show ¬ (10 :Int) <(l.length:Int) by omega)]
   cases l.findSome? px <;> rfl
theorem anV {l:List ap} (h:Fits F l):Ew F l=some (qZ l):=by
 have body:∀ {c:ap} (_:c.Fits F),BG F c F 0 =some (cr (c.Fields.findSome? hL))/\vg F c F 0 =some (cr (c.Fields.findSome? hL))/\BH F c F 0 =some (cr (c.bc.findSome? gx))/\vh F c F 0 =some (cr (c.bc.findSome? gx)):=by
  intro c hc
  have af:∀ {x:Field} (_:x ∈ c.Fields) (i:Int) (_:idx c.Fields i=some x) (Y:Option (Way Int Unit)),((m' F x.Name).bind fun GY=>
   cond (!GY) (some (.out 1)) ((idx c.Fields i).bind fun x=>(sE F (⟨x.Kind.Kind,x.Kind.ap⟩:Kind)).bind fun GQ=>
   cond (!GQ) (some (.out 7)) Y))=gC (hL x) Y:=by
   intro x ad i hi Y
   rw [yV (hc.field x ad).1,hi]
   unfold hL
   simp only [Option.bind_some]
   rw [OE (k:=(⟨x.Kind.Kind,x.Kind.ap⟩:Kind)) (hc.field x ad).2,Option.bind_some]
   show cond (!gI x.Name) _ (cond (!kindOk x.Kind) _ _)=_
   cases gI x.Name <;> cases kindOk x.Kind <;> rfl
  have hm:∀ {x:Method} (_:x ∈ c.bc) (Y:Option (Way Int Unit)),((yQ F x).bind fun oR=>
   cond (!decide (oR= 0)) (some (.out oR)) Y)=gC (gx x) Y:=by
   intro x ad Y
   rw [anW (hc.method x ad),Option.bind_some]
   exact TB
  refine ⟨each hL hc.fields.1 (fun k i x ad=>?_) (fun k=>by rw [BG,bM];rfl) hc.fields.2,each hL hc.fields.1 (fun k i x ad=>?_) (fun k=>by rw [vg,bM];rfl) hc.fields.2,
   each gx hc.methods.1 (fun k i x ad=>?_) (fun k=>by rw [BH,bM];rfl) hc.methods.2,each gx hc.methods.1 (fun k i x ad=>?_) (fun k=>by rw [vh,bM];rfl) hc.methods.2⟩
  · rw [BG,bN (List.getElem?_eq_some_iff.1 ad).1,cond_true,bw ad,Option.bind_some];rw [<-bw ad];exact af (List.mem_of_getElem? ad) _ (bw ad) _
  · rw [vg,bN (List.getElem?_eq_some_iff.1 ad).1,cond_true,bw ad,Option.bind_some];rw [<-bw ad];exact af (List.mem_of_getElem? ad) _ (bw ad) _
  · rw [BH,bN (List.getElem?_eq_some_iff.1 ad).1,cond_true,bw ad,Option.bind_some];exact hm (List.mem_of_getElem? ad) _
  · rw [vh,bN (List.getElem?_eq_some_iff.1 ad).1,cond_true,bw ad,Option.bind_some];exact hm (List.mem_of_getElem? ad) _
 have l1:yB F l F 0 =some (cr (l.findSome? px)):=each px h.1.1 (fun k i c ad=>by
  have hc:=h.2 c (List.mem_of_getElem? ad)
  obtain ⟨eA,hZ,hJ,I9⟩:=body hc
  rw [yB,bN (List.getElem?_eq_some_iff.1 ad).1,cond_true,bw ad,Option.bind_some,yV hc.name,yV hc.super,eA,hJ,hZ,I9]
  simp only [Option.bind_some,mX,show (6 :Int)=((6 :Nat):Int) from rfl,show (8 :Int)=((8 :Nat):Int) from rfl,Zg]
  unfold px BX
  cases gI c.Name with
  | false=>rfl
  | true=>
    simp only [Bool.not_true,cond_false,Bool.true_and]
    have FU:∀ (p:Bool) (Y:Option (Way Int Unit)),p=decide (6 <c.Fields.length\/ 8 <c.bc.length)->cT (α:=Unit) (cond p (some (.out (2 :Int))) (gC (c.Fields.findSome? hL) (gC (c.bc.findSome? gx) (some (.go ()))))) (fun _=>Y) =
     gC (gK (if 6 <c.Fields.length\/ 8 <c.bc.length then 2 else (c.Fields.findSome? hL).getD ((c.bc.findSome? gx).getD 0))) Y:=by
     intro p Y aN
     subst aN
     by_cases bC:6 <c.Fields.length\/ 8 <c.bc.length
     · rw [if_pos bC,decide_eq_true bC];rfl
     · rw [if_neg bC,decide_eq_false bC,cond_false]
       have as7:∀ e,c.Fields.findSome? hL=some e->gK e=some e:=by
        intro e he
        obtain ⟨x,_,ad⟩:=List.exists_of_findSome?_eq_some he
        unfold hL at ad
        split at ad
        · split at ad
          · cases ad
          · injection ad with ad;subst ad;rfl
        · injection ad with ad;subst ad;rfl
       have RS:∀ e,c.bc.findSome? gx=some e->gK e=some e:=by
        intro e he
        obtain ⟨x,_,ad⟩:=List.exists_of_findSome?_eq_some he
        unfold gx at ad
        unfold gK at ad ⊢
        split at ad
        · cases ad
        · rename_i aJ;injection ad with ad;subst ad;rw [if_neg aJ]
       cases af:c.Fields.findSome? hL with
       | some e=>simp only [Option.getD_some,as7 e af];rfl
       | none=>
         cases hm:c.bc.findSome? gx with
         | some e=>simp only [Option.getD_some,Option.getD_none,RS e hm];rfl
         | none=>rfl
    by_cases ao:c.cP= []
    · rw [decide_eq_true ao]
      simp only [Bool.not_true,cond_false,Bool.true_or,if_true]
      exact FU _ _ rfl
    · rw [decide_eq_false ao]
      simp only [Bool.not_false,cond_true,Bool.false_or]
      cases gI c.cP with
      | false=>rfl
      | true=>
        simp only [Bool.not_true,cond_false,if_true]
        exact FU _ _ rfl) (fun k=>by rw [yB,bM];rfl) h.1.2
 unfold Ew qZ
 rw [l1,jd]
 by_cases aq:10 <l.length
 · rw [if_pos aq,decide_eq_true (show (10 :Int) <(l.length:Int) by omega)];rfl
 · rw [if_neg aq,decide_eq_false (show ¬ (10 :Int) <(l.length:Int) by omega)]
   cases l.findSome? px <;> rfl
end
structure Right (l:List ap):Prop where
 len:l.length<= 10
 name:∀ c ∈ l,gI c.Name=true
 fields:∀ c ∈ l,c.Fields.length<= 6
 methods:∀ c ∈ l,c.bc.length<= 8
 method:∀ c ∈ l,∀ m ∈ c.bc,m.cw.length<= 4 /\m.cz.length<= 4
theorem awS {m:Method} (h:Aj m= 0):m.cw.length<= 4 /\m.cz.length<= 4 :=by
 unfold Aj at h
 split at h
 · split at h
   · exact absurd h (by decide)
   · rename_i I;exact ⟨by omega,by omega⟩
 · exact absurd h (by decide)
theorem ax0 {e:Int} (h:gK e=none):e= 0 :=by
 unfold gK at h
 split at h
 · assumption
 · cases h
theorem ax1 {e x:Int} (h:gK e=some x):x≠ 0 :=by
 unfold gK at h
 split at h
 · cases h
 · rename_i ai;injection h with h;subst h;exact ai
theorem auR {s:List UInt8} (h:gI s=true):s≠ []:=by
 unfold gI at h
 simp only [Bool.and_eq_true,decide_eq_true_eq] at h
 exact h.1.2
theorem aoK {l:List ap} (h:qZ l= 0):Right l:=by
 unfold qZ at h
 by_cases aq:10 <l.length
 · rw [if_pos aq] at h;exact absurd h (by decide)
 · rw [if_neg aq] at h
   have aJ:∀ c ∈ l,BX c= 0 :=by
    intro c hc
    cases af:l.findSome? px with
    | some e=>
      rw [af] at h
      simp only [Option.getD_some] at h
      subst h
      obtain ⟨x,_,ad⟩:=List.exists_of_findSome?_eq_some af
      unfold px gK at ad
      split at ad
      · cases ad
      · rename_i ai;injection ad with ad;exact absurd ad ai
    | none=>
      have:=List.findSome?_eq_none_iff.1 af c hc
      unfold px gK at this
      split at this
      · assumption
      · cases this
   have key:∀ c ∈ l,gI c.Name=true/\c.Fields.length<= 6 /\c.bc.length<= 8 /\ ∀ m ∈ c.bc,m.cw.length<= 4 /\m.cz.length<= 4 :=by
    intro c hc
    have aQ:=aJ c hc
    unfold BX at aQ
    split at aQ
    · rename_i I
      simp only [Bool.and_eq_true] at I
      split at aQ
      · exact absurd aQ (by decide)
      · rename_i aa
        refine ⟨I.1,by omega,by omega,fun m hm=>?_⟩
        cases af:c.Fields.findSome? hL with
        | some e=>
          rw [af] at aQ
          simp only [Option.getD_some] at aQ
          subst aQ
          obtain ⟨x,_,ad⟩:=List.exists_of_findSome?_eq_some af
          unfold hL at ad
          split at ad
          · split at ad
            · cases ad
            · injection ad with ad;exact absurd ad (by decide)
          · injection ad with ad;exact absurd ad (by decide)
        | none=>
          rw [af] at aQ
          simp only [Option.getD_none] at aQ
          cases dH:c.bc.findSome? gx with
          | some e=>
            rw [dH] at aQ
            simp only [Option.getD_some] at aQ
            subst aQ
            obtain ⟨x,_,ad⟩:=List.exists_of_findSome?_eq_some dH
            exact absurd rfl (ax1 ad)
          | none=>exact awS (ax0 (List.findSome?_eq_none_iff.1 dH m hm))
    · exact absurd aQ (by decide)
   exact ⟨by omega,fun c hc=>(key c hc).1,fun c hc=>(key c hc).2.1,fun c hc=>(key c hc).2.2.1,fun c hc=>(key c hc).2.2.2⟩
end J
namespace J
def eo {α:Type} (p:α->Bool):List α->Option Nat
 | []=>none
 | x::r=>if p x then some 0 else (eo p r).map (· + 1)
theorem GL {α:Type} {p:α->Bool}:∀ {l:List α} {i:Nat},eo p l=some i-> ∃ x,l[i]? =some x/\p x=true/\ ∀ j y,j <i->l[j]? =some y->p y=false
 | [],i,h=>by simp [eo] at h
 | x::r,i,h=>by
   simp only [eo] at h
   split at h
   · rename_i aN
     injection h with h
     subst h
     exact ⟨x,rfl,aN,fun j y aI=>absurd aI (by omega)⟩
   · rename_i aN
     cases aE:eo p r with
     | none=>rw [aE] at h;cases h
     | some k=>
       rw [aE] at h
       simp only [Option.map_some,Option.some.injEq] at h
       subst h
       obtain ⟨y,I,aa,aw⟩:=GL aE
       refine ⟨y,by simpa using I,aa,fun j z aI ai=>?_⟩
       cases j with
       | zero=>
         simp only [List.getElem?_cons_zero,Option.some.injEq] at ai
         subst ai
         simpa using aN
       | succ j=>exact aw j z (by omega) (by simpa using ai)
theorem TW {α:Type} {p:α->Bool}:∀ {l:List α},eo p l=none-> ∀ x ∈ l,p x=false
 | [],_,x,ad=>by cases ad
 | y::r,h,x,ad=>by
   simp only [eo] at h
   split at h
   · cases h
   · rename_i aN
     have aE:eo p r=none:=by simpa using h
     rcases List.mem_cons.1 ad with rfl | e
     · simpa using aN
     · exact TW aE x e
theorem ayt {α:Type} {p:α->Bool} {l:List α} {i:Nat} {x:α} (hi:l[i]? =some x) (aN:p x=true) (ag:∀ j y,j <i->l[j]? =some y->p y=false):eo p l=some i:=by
 cases h:eo p l with
 | none=>have:=TW h x (List.mem_of_getElem? hi);rw [aN] at this;cases this
 | some j=>
   obtain ⟨y,I,aa,aw⟩:=GL h
   rcases Nat.lt_trichotomy i j with e | e | e
   · have:=aw i x e hi;rw [aN] at this;cases this
   · rw [e]
   · have:=ag j y e I;rw [aa] at this;cases this
theorem TV {α:Type} {p:α->Bool} {l:List α} {i:Nat} (h:eo p l=some i):i <l.length:=by
 obtain ⟨x,I,_⟩:=GL h
 exact (List.getElem?_eq_some_iff.1 I).1
theorem P3 {α ρ:Type} {l:List α} {L:Nat->Int->Option (Way ρ Unit)} (p:α->Bool) (f:Nat->ρ) (aq:l.length<= 140737488355328)
 (ao:∀ k (i:Nat) x,l[i]? =some x->L (k+ 1) (i:Int)=cond (p x) (some (.out (f i))) (L k (aA ((i:Int)+ 1))))
 (he:∀ k,L (k+ 1) (l.length:Int)=some (.go ())) {F:Nat} (aD:l.length <F):L F 0 =some (cr ((eo p l).map f)):=by
 have key:∀ (d i k:Nat),i+d=l.length->d <k->L k (i:Int)=some (cr ((eo p (l.drop i)).map fun j=>f (i+j))):=by
  intro d
  induction d with
  | zero=>
    intro i k h aj
    obtain ⟨k,rfl⟩:∃ k',k=k'+ 1 :=⟨k - 1,by omega⟩
    have hi:i=l.length:=by omega
    subst hi
    rw [he];simp [cr,eo]
  | succ d bq=>
    intro i k h aj
    obtain ⟨k,rfl⟩:∃ k',k=k'+ 1 :=⟨k - 1,by omega⟩
    have hi:i <l.length:=by omega
    rw [ao k i l[i] (List.getElem?_eq_getElem hi),List.drop_eq_getElem_cons hi,eo]
    cases ax:p l[i] with
    | true=>simp [cr]
    | false=>
      simp only [cond_false,Bool.false_eq_true,if_false]
      rw [eP hi aq,bq (i+ 1) k (by omega) (by omega)]
      congr 2
      rw [Option.map_map]
      congr 1
      funext j
      simp only [Function.comp]
      congr 1
      omega
 have:=key l.length 0 F (by omega) aD
 simpa using this
def f' (nm:List UInt8) (c:ap):Bool:=decide (c.Name=nm)
def cK (l:List ap) (nm:List UInt8):Int:=((eo (f' nm) l).map fun n:Nat=>(n:Int)).getD (-1)
theorem vo {F:Nat} {l:List ap} (h:Small F l.length) (nm:List UInt8):m9 F l nm=some (cK l nm):=by
 unfold m9 cK
 have l1:yT l nm F 0 =some (cr ((eo (f' nm) l).map fun n:Nat=>(n:Int))):=P3 (f' nm) _ h.1 (fun k i x ad=>by
  rw [yT,bN (List.getElem?_eq_some_iff.1 ad).1,cond_true,bw ad,Option.bind_some];rfl) (fun k=>by rw [yT,bM];rfl) h.2
 rw [l1,jd]
 cases eo (f' nm) l <;> rfl
theorem O_ {l:List ap} {nm:List UInt8}:cK l nm <l.length:=by
 unfold cK
 cases h:eo (f' nm) l with
 | none=>simp only [Option.map_none,Option.getD_none];omega
 | some i=>have:=TV h;simp only [Option.map_some,Option.getD_some];omega
theorem aoL {l:List ap} {nm:List UInt8}:cK l nm < 0 ↔ eo (f' nm) l=none:=by
 unfold cK
 cases h:eo (f' nm) l with
 | none=>simp
 | some i=>simp only [Option.map_some,Option.getD_some];constructor <;> intro h <;> first | omega | cases h
theorem Ds {α:Type} {l:List α} {i:Nat} {x:α} (h:l[i]? =some x):l.set i x=l:=by
 obtain ⟨aq,e⟩:=List.getElem?_eq_some_iff.1 h
 rw [<-e,List.set_getElem_self]
theorem Jn {α:Type} {b:Nat} {l:List α} (h:l.length*b<= 140737488355328):(bK b ([]:List α) l).bind (fun l=>some l)=some l:=by
 unfold bK
 rw [if_pos (by simpa using h)]
 simp
theorem ayh {F:Nat} {l:List ap} (aD:100 <F) (h:Right l):Gi F l=some l:=by
 have c2:∀ (eM:List Method),eM.length<= 8 ->(∀ m ∈ eM,m.cw.length<= 4 /\m.cz.length<= 4)->rG F eM (eM.length:Int) 0 =some eM:=by
  intro eM aG2 hm
  refine S5 (n:=eM.length) (fun k i=>rG k eM (eM.length:Int) (i:Int)) eM (fun k i hi=>?_) (fun k=>?_) (F:=F) (by omega)
  · obtain ⟨x,ad⟩:∃ x,eM[i]? =some x:=⟨eM[i],List.getElem?_eq_getElem hi⟩
    have ag:=hm x (List.mem_of_getElem? ad)
    show rG (k+ 1) eM (eM.length:Int) (i:Int)=_
    rw [rG,bN hi,cond_true,bw ad,Option.bind_some]
    unfold VC VB
    rw [Jn (by omega),Option.bind_some,Jn (by omega),Option.bind_some,Option.bind_some,Option.bind_some]
    have ak:eM.set (i:Int).toNat (⟨x.Name,x.Static,x.cw,(⟨x.Returns.Kind,x.Returns.ap⟩:Kind),x.g8,x.g5,x.Code,x.cz⟩:Method)=eM:=Ds (i:=i) ad
    simp only [ak,bw ad,Option.bind_some]
    rw [eP hi (by omega)]
  · show rG (k+ 1) eM (eM.length:Int) (eM.length:Int)=_
    rw [rG,bM];rfl
 unfold Gi
 have c1:p4 F l F [] 0 =some l:=by
  refine S5 (n:=l.length) (fun k i=>p4 F l k (l.take i) (i:Int)) l (fun k i hi=>?_) (fun k=>?_) (F:=F) (by have:=h.len;omega)
  · obtain ⟨x,ad⟩:∃ x,l[i]? =some x:=⟨l[i],List.getElem?_eq_getElem hi⟩
    have tt:=List.mem_of_getElem? ad
    have af:=h.fields x tt
    have hm:=h.methods x tt
    have hlen:=h.len
    show p4 F l (k+ 1) (l.take i) (i:Int)=_
    rw [p4,bN hi,cond_true,bw ad,Option.bind_some]
    unfold VA VD
    rw [Jn (by omega),Option.bind_some,Jn (by omega),Option.bind_some,c2 x.bc hm (h.method x tt),Option.bind_some]
    unfold bK
    rw [if_pos (by simp only [List.length_take,List.length_cons,List.length_nil];omega)]
    simp only [Option.bind_some]
    rw [eP hi (by omega)]
    have e:l.take i++[(⟨x.Name,x.cP,x.Fields,x.bc⟩:ap)]=l.take (i+ 1):=by
     rw [List.take_add_one,ad];rfl
    rw [e]
  · show p4 F l (k+ 1) (l.take l.length) (l.length:Int)=_
    rw [p4,bM,List.take_length];rfl
 rw [c1];rfl
def eO:Nat->List ap->List (List UInt8 × Int)
 | _,[]=>[]
 | k,c::r=>(c.Name,(k:Int))::eO (k+ 1) r
theorem C2 (nm:List UInt8):∀ (l:List ap) (k:Nat),dI (eO k l) nm=(eo (f' nm) l).map fun n:Nat=>((n+k:Nat):Int)
 | [],k=>rfl
 | c::r,k=>by
   simp only [eO,dI,eo,f']
   by_cases h:c.Name=nm
   · simp [h]
   · simp only [h,if_false,decide_false,Bool.false_eq_true]
     rw [C2 nm r (k+ 1),Option.map_map]
     congr 1
     funext j
     simp only [Function.comp]
     congr 1
     omega
theorem adO (c:ap):∀ (l:List ap) (k:Nat),eO k (l++[c])=eO k l++[(c.Name,((k+l.length:Nat):Int))]
 | [],k=>by simp [eO]
 | d::r,k=>by
   simp only [List.cons_append,eO,List.length_cons]
   rw [adO c r (k+ 1)]
   congr 4
   omega
theorem S' {cI β:Type} [DecidableEq cI] {k:cI} {v:β}:∀ {m:List (cI × β)},dI m k=none->hg m k v=m++[(k,v)]
 | [],_=>rfl
 | p::r,h=>by
   simp only [dI] at h
   split at h
   · cases h
   · rename_i b3
     simp only [hg,if_neg b3,List.cons_append]
     rw [S' h]
def yy (l:List ap):Prop:=∀ (i j:Nat) (x y:ap),l[i]? =some x->l[j]? =some y->x.Name=y.Name->i=j
theorem ax_ {l:List ap} (h:yy l) {i:Nat} {x:ap} (hi:l[i]? =some x):cK l x.Name=(i:Int):=by
 unfold cK
 rw [ayt (i:=i) hi (by simp [f']) (fun j y aI hy=>by
  simp only [f',decide_eq_false_iff_not]
  intro e
  have:=h j i y x hy hi e
  omega)]
 rfl
theorem axq {F:Nat} {l:List ap} (aD:100 <F) (h:Right l) :
 (yy l/\nD ⟨l,[],[]⟩ F [] 0 =some (.go (eO 0 l))/\sB F l F 0 =some (.go ())) \/
 (¬ yy l/\(∃ m,nD ⟨l,[],[]⟩ F [] 0 =some (.out (6,m)))/\sB F l F 0 =some (.out 6)):=by
 have hlen:=h.len
 have eH:sB F l F 0 =some (cr ((List.range l.length).findSome? fun i:Nat=>(l[i]?).bind fun x:ap=>if cK l x.Name=(i:Int) then none else some 6)):=jM _ (by omega) (fun k i hi=>by
  obtain ⟨x,ad⟩:∃ x,l[i]? =some x:=⟨l[i],List.getElem?_eq_getElem hi⟩
  rw [sB,bN hi,cond_true,bw ad,Option.bind_some,vo ⟨by omega,by omega⟩,Option.bind_some,ad,Option.bind_some]
  by_cases e:cK l x.Name=(i:Int)
  · rw [if_pos e,decide_eq_true e];rfl
  · rw [if_neg e,decide_eq_false e];rfl) (fun k=>by rw [sB,bM];rfl) (by omega)
 have key:∀ (d i k:Nat),i+d=l.length->d <k->yy (l.take i) ->
  (yy l/\nD ⟨l,[],[]⟩ k (eO 0 (l.take i)) i=some (.go (eO 0 l)))\/(¬ yy l/\ ∃ m,nD ⟨l,[],[]⟩ k (eO 0 (l.take i)) i=some (.out (6,m))):=by
  intro d
  induction d with
  | zero=>
    intro i k hi aj av
    obtain ⟨k,rfl⟩:∃ k',k=k'+ 1 :=⟨k - 1,by omega⟩
    have e:i=l.length:=by omega
    subst e
    rw [List.take_length] at av ⊢
    left
    refine ⟨av,?_⟩
    rw [nD,bM];rfl
  | succ d bq=>
    intro i k hi aj av
    obtain ⟨k,rfl⟩:∃ k',k=k'+ 1 :=⟨k - 1,by omega⟩
    have c':i <l.length:=by omega
    obtain ⟨x,ad⟩:∃ x,l[i]? =some x:=⟨l[i],List.getElem?_eq_getElem c'⟩
    rw [nD,bN c',cond_true,bw ad,Option.bind_some,C2]
    cases aN:eo (f' x.Name) (l.take i) with
    | some j=>
      right
      obtain ⟨y,I,aa,_⟩:=GL aN
      refine ⟨fun lE=>?_,_,rfl⟩
      have fm:j <i:=by have:=(List.getElem?_eq_some_iff.1 I).1;simp only [List.length_take] at this;omega
      have hy:l[j]? =some y:=by rw [List.getElem?_take] at I;rw [if_pos fm] at I;exact I
      have:=lE j i y x hy ad (by simpa [f'] using aa)
      omega
    | none=>
      simp only [Option.map_none,Option.isSome_none,cond_false]
      have atH:dI (eO 0 (l.take i)) x.Name=none:=by rw [C2,aN];rfl
      rw [S' atH,eP c' (by omega)]
      have ak:l.take (i+ 1)=l.take i++[x]:=by rw [List.take_add_one,ad];rfl
      have al:eO 0 (l.take i)++[(x.Name,(i:Int))]=eO 0 (l.take (i+ 1)):=by
       rw [ak,adO]
       congr 4
       simp only [List.length_take];omega
      rw [al]
      refine bq (i+ 1) k (by omega) (by omega) ?_
      intro a b u v aK ag R9
      rw [List.getElem?_take] at aK ag
      split at aK
      · split at ag
        · rename_i aGU fL
          have atO:=TW aN
          have fN:∀ (q:Nat) (z:ap),q <i->l[q]? =some z->z.Name≠x.Name:=fun q z aT ai e=>by
           have:=atO z (List.mem_of_getElem? (i:=q) (by rw [List.getElem?_take,if_pos aT];exact ai))
           simp [f',e] at this
          by_cases asw:a=i
          · by_cases zA:b=i
            · omega
            · subst asw
              rw [ad] at aK;injection aK with aK;subst aK
              exact absurd R9.symm (fN b v (by omega) ag)
          · by_cases zA:b=i
            · subst zA
              rw [ad] at ag;injection ag with ag;subst ag
              exact absurd R9 (fN a u (by omega) aK)
            · exact av a b u v (by rw [List.getElem?_take,if_pos (by omega)];exact aK) (by rw [List.getElem?_take,if_pos (by omega)];exact ag) R9
        · cases ag
      · cases aK
 have aQ:=key l.length 0 F (by omega) (by omega) (fun i j x y hi=>by simp at hi)
 have dg:eO 0 (l.take 0)= []:=by simp [eO]
 rw [dg] at aQ
 rcases aQ with ⟨lE,I⟩ | ⟨lE,I⟩
 · left
   refine ⟨lE,I,?_⟩
   rw [eH]
   have:((List.range l.length).findSome? fun i:Nat=>(l[i]?).bind fun x:ap=>if cK l x.Name=(i:Int) then none else some (6 :Int))=none:=by
    rw [List.findSome?_eq_none_iff]
    intro i hi
    obtain ⟨x,ad⟩:∃ x,l[i]? =some x:=⟨l[i]'(by simpa using hi),List.getElem?_eq_getElem _⟩
    rw [ad,Option.bind_some,if_pos (ax_ lE ad)]
   rw [this];rfl
 · right
   refine ⟨lE,I,?_⟩
   rw [eH]
   cases af:((List.range l.length).findSome? fun i:Nat=>(l[i]?).bind fun x:ap=>if cK l x.Name=(i:Int) then none else some (6 :Int)) with
   | some e=>
     obtain ⟨i,_,hi⟩:=List.exists_of_findSome?_eq_some af
     cases ad:l[i]? with
     | none=>rw [ad] at hi;cases hi
     | some x=>
       rw [ad,Option.bind_some] at hi
       split at hi
       · cases hi
       · injection hi with hi;subst hi;rfl
   | none=>
     exfalso
     apply lE
     have iU:∀ (i:Nat) (x:ap),l[i]? =some x->cK l x.Name=(i:Int):=by
      intro i x ad
      have:=List.findSome?_eq_none_iff.1 af i (by have:=(List.getElem?_eq_some_iff.1 ad).1;simpa using this)
      rw [ad,Option.bind_some] at this
      split at this
      · assumption
      · cases this
     intro i j x y ad hy e
     have I:=iU i x ad
     have aa:=iU j y hy
     rw [e] at I
     omega
end J
namespace J
def AQ {ρ σ:Type} (o:Option ρ) (a:σ):Way ρ σ:=match o with
 | some r=>.out r
 | none=>.go a
def agK {ρ σ:Type} (o:Option ρ) (y:Option (Way ρ σ)):Option (Way ρ σ):=match o with
 | some r=>some (.out r)
 | none=>y
theorem OT {ρ σ:Type} {n:Nat} (T:Nat->Nat->Option (Way ρ σ)) (g:Nat->Option ρ) (fin:σ) (ao:∀ k i,i <n->T (k+ 1) i=agK (g i) (T k (i+ 1))) (he:∀ k,T (k+ 1) n=some (.go fin)) {F:Nat} (aD:n <F) :
 T F 0 =some (AQ ((List.range n).findSome? g) fin):=by
 have key:∀ (d i k:Nat),i+d=n->d <k->T k i=some (AQ (((List.range n).drop i).findSome? g) fin):=by
  intro d
  induction d with
  | zero=>
    intro i k h aj
    obtain ⟨k,rfl⟩:∃ k',k=k'+ 1 :=⟨k - 1,by omega⟩
    have hi:i=n:=by omega
    subst hi
    rw [he,List.drop_of_length_le (by simp)];rfl
  | succ d bq=>
    intro i k h aj
    obtain ⟨k,rfl⟩:∃ k',k=k'+ 1 :=⟨k - 1,by omega⟩
    have hi:i <n:=by omega
    rw [ao k i hi,List.drop_eq_getElem_cons (by simpa using hi),List.findSome?_cons]
    simp only [List.getElem_range]
    cases ax:g i with
    | some r=>rfl
    | none=>
      simp only [agK]
      exact bq (i+ 1) k (by omega) (by omega)
 have:=key n 0 F (by omega) aD
 simpa using this
theorem J2 {α β ct:Type} (g:α->Option β) (f:β->ct):∀ l:List α,l.findSome? (fun c=>(g c).map f)=(l.findSome? g).map f
 | []=>rfl
 | c::r=>by
   simp only [List.findSome?_cons]
   cases g c with
   | some e=>rfl
   | none=>simp only [Option.map_none];exact J2 g f r
def dd (l:List ap):List Int:=l.map fun c=>cK l c.cP
theorem VH {l:List ap} {i:Nat} {x:ap} (h:l[i]? =some x):(dd l)[i]? =some (cK l x.cP):=by simp [dd,h]
def r_ (c:ap):Option Int:=if (decide (c.Name= [79,98,106,101,99,116])) == (decide (c.cP= [])) then none else some 4
def oJ (l:List ap) (c:ap):Option Int:=if c.cP= []\/ 0 <=cK l c.cP then none else some 5
section
variable {F:Nat} {l:List ap}
theorem aBX (aD:100 <F) (h:Right l):yK l F 0 =some (cr (l.findSome? r_)):=each r_ (by have:=h.len;omega) (fun k i x ad=>by
 rw [yK,bN (List.getElem?_eq_some_iff.1 ad).1,cond_true,bw ad,Option.bind_some,Option.bind_some]
 unfold r_
 cases (decide (x.Name= [79,98,106,101,99,116])) == (decide (x.cP= [])) <;> rfl) (fun k=>by rw [yK,bM];rfl) (by have:=h.len;omega)
theorem aBW (aD:100 <F) (h:Right l) (m:List (List UInt8 × Int)) (s:List Int):ua ⟨l,m,s⟩ F 0 =some (cr ((l.findSome? r_).map fun e=>(e,(⟨l,m,s⟩:bj)))):=by
 have:=each (l:=l) (L:=ua ⟨l,m,s⟩) (fun c=>(r_ c).map fun e=>(e,(⟨l,m,s⟩:bj))) (by have:=h.len;omega) (fun k i x ad=>by
  rw [ua]
  show cond (decide ((i:Int) <(l.length:Int))) ((idx l (i:Int)).bind _) _=_
  rw [bN (List.getElem?_eq_some_iff.1 ad).1,cond_true,bw ad,Option.bind_some]
  unfold r_
  cases (decide (x.Name= [79,98,106,101,99,116])) == (decide (x.cP= [])) <;> rfl) (fun k=>by
   rw [ua]
   show cond (decide ((l.length:Int) <(l.length:Int))) _ _=_
   rw [bM];rfl) (F:=F) (by have:=h.len;omega)
 rw [this,J2]
theorem aw1 (aD:100 <F) (h:Right l):vl F l F 0 =some (cr (l.findSome? (oJ l))):=each (oJ l) (by have:=h.len;omega) (fun k i x ad=>by
 have hlen:=h.len
 rw [vl,bN (List.getElem?_eq_some_iff.1 ad).1,cond_true,bw ad,Option.bind_some,Option.bind_some,vo ⟨by omega,by omega⟩,Option.bind_some]
 unfold oJ
 by_cases ao:x.cP= []
 · rw [if_pos (.inl ao),decide_eq_true ao];rfl
 · rw [decide_eq_false ao]
   by_cases hc:0 <=cK l x.cP
   · rw [if_pos (.inr hc),decide_eq_false (show ¬ cK l x.cP < 0 by omega)];rfl
   · rw [if_neg (by simp [ao,hc]),decide_eq_true (show cK l x.cP < 0 by omega)];rfl) (fun k=>by rw [vl,bM];rfl) (by have:=h.len;omega)
theorem aoM (h:Right l):cK l []= -1 :=by
 unfold cK
 cases aN:eo (f' []) l with
 | none=>rfl
 | some i=>
   obtain ⟨x,I,aa,_⟩:=GL aN
   have:=auR (h.name x (List.mem_of_getElem? I))
   simp [f'] at aa
   exact absurd aa this
theorem aw0 (aD:100 <F) (h:Right l):∃ o:Option (Int × bj),o.map (·.1)=l.findSome? (oJ l)/\lP ⟨l,eO 0 l,[]⟩ F [] 0 =some (AQ o (dd l)):=by
 have hlen:=h.len
 refine ⟨(List.range l.length).findSome? fun i=>((l[i]?).bind (oJ l)).map fun e=>(e,(⟨l,eO 0 l,(dd l).take i⟩:bj)),?_,?_⟩
 · have ak:∀ (n:Nat),n<=l.length->((List.range' (l.length - n) n).findSome? fun i=>((l[i]?).bind (oJ l)).map fun e=>(e,(⟨l,eO 0 l,(dd l).take i⟩:bj))).map (·.1)=(l.drop (l.length - n)).findSome? (oJ l):=by
    intro n
    induction n with
    | zero=>intro _;simp
    | succ n bq=>
      intro aJ
      have hi:l.length - (n+ 1) <l.length:=by omega
      rw [List.range'_succ,List.findSome?_cons,List.drop_eq_getElem_cons hi,List.findSome?_cons,List.getElem?_eq_getElem hi,Option.bind_some]
      cases oJ l l[l.length - (n+ 1)] with
      | some e=>rfl
      | none=>
        simp only [Option.map_none]
        rw [show l.length - (n+ 1)+ 1 =l.length - n by omega]
        exact bq (by omega)
   have:=ak l.length (Nat.le_refl _)
   simpa [List.range_eq_range'] using this
 · refine OT (n:=l.length) (fun k i=>lP ⟨l,eO 0 l,[]⟩ k ((dd l).take i) (i:Int)) _ (dd l) (fun k i hi=>?_) (fun k=>?_) (F:=F) (by omega)
   · obtain ⟨x,ad⟩:∃ x,l[i]? =some x:=⟨l[i],List.getElem?_eq_getElem hi⟩
     show lP ⟨l,eO 0 l,[]⟩ (k+ 1) ((dd l).take i) (i:Int)=_
     rw [lP]
     show cond (decide ((i:Int) <(l.length:Int))) (cT (α:=List Int) ((idx l (i:Int)).bind _) _) _=_
     rw [bN hi,cond_true,bw ad,Option.bind_some,ad,Option.bind_some]
     have abO:dI (eO 0 l) x.cP=(eo (f' x.cP) l).map fun n:Nat=>((n+ 0 :Nat):Int):=C2 x.cP l 0
     have aV:(dd l).take (i+ 1)=(dd l).take i++[cK l x.cP]:=by rw [List.take_add_one,VH ad];rfl
     have zy:bK 8 ((dd l).take i) [cK l x.cP]=some ((dd l).take (i+ 1)):=by
      unfold bK
      rw [if_pos (by simp only [List.length_take,List.length_cons,List.length_nil];omega),aV]
     have fin:∀ n:Int,n=cK l x.cP->cT (α:=List Int) (cT (α:=Int) (ρ:=Int × bj) (some (.go n)) fun (Ts:Int)=>(bK 8 ((dd l).take i) [Ts]).bind fun SJ=>some (.go SJ)) (fun (SI:List Int)=>lP ⟨l,eO 0 l,[]⟩ k SI (aA ((i:Int)+ 1)))=lP ⟨l,eO 0 l,[]⟩ k ((dd l).take (i+ 1)) ((i+ 1 :Nat):Int):=by
      intro n aJ
      subst aJ
      rw [mV,zy,Option.bind_some,mV,eP hi (by omega)]
     unfold oJ
     by_cases ao:x.cP= []
     · rw [if_pos (.inl ao),decide_eq_true ao,cond_true]
       exact fin (-1) (by rw [ao,aoM h])
     · rw [decide_eq_false ao,cond_false]
       cases aN:eo (f' x.cP) l with
       | none=>
         have FL:cK l x.cP < 0 :=aoL.2 aN
         rw [if_neg (by simp [ao];omega),abO,aN]
         rfl
       | some j=>
         have rq:cK l x.cP=(j:Int):=by unfold cK;rw [aN];rfl
         rw [if_pos (.inr (by omega)),abO,aN]
         exact fin _ (by rw [rq];simp)
   · show lP ⟨l,eO 0 l,[]⟩ (k+ 1) ((dd l).take l.length) (l.length:Int)=_
     rw [lP]
     show cond (decide ((l.length:Int) <(l.length:Int))) _ _=_
     rw [bM,cond_false,List.take_of_length_le (by simp [dd])]
def dn (S:List Int):Nat->Int->Option (List Int)
 | 0,n=>if n < 0 then some [] else none
 | k+ 1,n=>if n < 0 then some [] else (idx S n).bind fun m=>(dn S k m).map (n:: ·)
theorem ago {S:List Int}:∀ {k:Nat} {n:Int} {c:List Int},dn S k n=some c->dn S (k+ 1) n=some c
 | 0,n,c,h=>by
   simp only [dn] at h ⊢
   split at h
   · rename_i aJ;rw [if_pos aJ];exact h
   · cases h
 | k+ 1,n,c,h=>by
   rw [dn] at h ⊢
   split at h
   · rename_i aJ;rw [if_pos aJ];exact h
   · rename_i aJ
     rw [if_neg aJ]
     cases hi:idx S n with
     | none=>rw [hi] at h;cases h
     | some m=>
       rw [hi,Option.bind_some] at h
       rw [Option.bind_some]
       cases hu:dn S k m with
       | none=>rw [hu] at h;cases h
       | some bH=>rw [hu] at h;rw [ago hu];exact h
theorem MG {S:List Int} {k k':Nat} {n:Int} {c:List Int} (h:dn S k n=some c) (aj:k<=k'):dn S k' n=some c:=by
 obtain ⟨d,rfl⟩:∃ d,k'=k+d:=⟨k' - k,by omega⟩
 clear aj
 induction d with
 | zero=>exact h
 | succ d bq=>exact ago bq
theorem aB' {S:List Int} {k k':Nat} {n:Int} {c bH:List Int} (h:dn S k n=some c) (h':dn S k' n=some bH):c=bH:=by
 have I:=MG h (Nat.le_max_left k k')
 have aa:=MG h' (Nat.le_max_right k k')
 rw [I] at aa
 exact Option.some.inj aa
theorem agn {S:List Int}:∀ {k:Nat} {n:Int} {c:List Int},dn S k n=some c->c.length<=k/\dn S c.length n=some c
 | 0,n,c,h=>by
   simp only [dn] at h
   split at h
   · rename_i aJ
     injection h with h
     subst h
     simp [dn,aJ]
   · cases h
 | k+ 1,n,c,h=>by
   have aQ:=h
   rw [dn] at h
   split at h
   · rename_i aJ
     injection h with h
     subst h
     simp [dn,aJ]
   · rename_i aJ
     cases hi:idx S n with
     | none=>rw [hi] at h;cases h
     | some m=>
       rw [hi,Option.bind_some] at h
       cases hu:dn S k m with
       | none=>rw [hu] at h;cases h
       | some bH=>
         rw [hu] at h
         simp only [Option.map_some,Option.some.injEq] at h
         subst h
         obtain ⟨I,aa⟩:=agn hu
         refine ⟨by simpa using I,?_⟩
         rw [List.length_cons,dn,if_neg aJ,hi,Option.bind_some,aa];rfl
theorem MH {S:List Int}:∀ {k:Nat} {n:Int} {c:List Int},dn S k n=some c-> ∀ x ∈ c,(0 <=x/\x <S.length)/\ ∃ k' bH,dn S k' x=some bH/\bH.length<=c.length/\bH≠ []
 | 0,n,c,h,x,ad=>by
   simp only [dn] at h
   split at h
   · injection h with h;subst h;cases ad
   · cases h
 | k+ 1,n,c,h,x,ad=>by
   have aQ:=h
   rw [dn] at h
   split at h
   · injection h with h;subst h;cases ad
   · rename_i aJ
     cases hi:idx S n with
     | none=>rw [hi] at h;cases h
     | some m=>
       rw [hi,Option.bind_some] at h
       cases hu:dn S k m with
       | none=>rw [hu] at h;cases h
       | some bH=>
         rw [hu] at h
         simp only [Option.map_some,Option.some.injEq] at h
         subst h
         obtain ⟨vY,dC,_⟩:=km hi
         rcases List.mem_cons.1 ad with rfl | e
         · exact ⟨⟨by omega,by omega⟩,k+ 1,_,aQ,Nat.le_refl _,by simp⟩
         · obtain ⟨I,k',c2,aa,aw,bi⟩:=MH hu x e
           exact ⟨I,k',c2,aa,by simp only [List.length_cons];omega,bi⟩
theorem agm {S:List Int}:∀ {k:Nat} {n:Int} {c:List Int},dn S k n=some c->c.Nodup
 | 0,n,c,h=>by
   simp only [dn] at h
   split at h
   · injection h with h;subst h;simp
   · cases h
 | k+ 1,n,c,h=>by
   have aQ:=h
   rw [dn] at h
   split at h
   · injection h with h;subst h;simp
   · cases hi:idx S n with
     | none=>rw [hi] at h;cases h
     | some m=>
       rw [hi,Option.bind_some] at h
       cases hu:dn S k m with
       | none=>rw [hu] at h;cases h
       | some bH=>
         rw [hu] at h
         simp only [Option.map_some,Option.some.injEq] at h
         subst h
         refine List.nodup_cons.2 ⟨fun fN=>?_,agm hu⟩
         obtain ⟨_,k',c2,aa,aw,_⟩:=MH hu n fN
         have:=aB' aQ aa
         subst this
         simp only [List.length_cons] at aw
         omega
theorem TU:∀ (n:Nat) (c:List Nat),c.Nodup->(∀ x ∈ c,x <n)->c.length<=n
 | 0,c,_,h=>by
   cases c with
   | nil=>simp
   | cons x r=>exact absurd (h x (by simp)) (by omega)
 | n+ 1,c,aM,h=>by
   by_cases aJ:n ∈ c
   · have I:=TU n (c.erase n) (aM.erase n) (fun x ad=>by
      have aa:=(aM.mem_erase_iff).1 ad
      have:=h x aa.2
      omega)
     rw [List.length_erase_of_mem aJ] at I
     omega
   · have:=TU n c aM (fun x ad=>by
      have I:=h x ad
      have:x≠n:=fun e=>aJ (e ▸ ad)
      omega)
     omega
theorem agl {S:List Int} {k:Nat} {n:Int} {c:List Int} (h:dn S k n=some c):c.length<=S.length:=by
 have aN:=MH h
 have aM:=agm h
 have:=TU S.length (c.map Int.toNat) (by
  rw [List.Nodup,List.pairwise_map]
  refine List.Pairwise.imp_of_mem ?_ aM
  intro a b aK ag Kh e
  have I:=(aN a aK).1
  have aa:=(aN b ag).1
  exact Kh (by omega)) (fun x ad=>by
  obtain ⟨y,hy,rfl⟩:=List.mem_map.1 ad
  have I:=(aN y hy).1
  omega)
 simpa using this
theorem aB_ {S:List Int} {k:Nat} {n:Int} (aj:S.length<=k):dn S k n=dn S S.length n:=by
 cases h:dn S k n with
 | some c=>
   obtain ⟨_,aa⟩:=agn h
   exact (MG aa (agl h)).symm
 | none=>
   cases h':dn S S.length n with
   | none=>rfl
   | some c=>rw [MG h' aj] at h;cases h
theorem aoG {m:List (List UInt8 × Int)} {S:List Int} {k:Nat} {n:Int} {c:List Int} (h:dn S k n=some c) (hc:c.length<= 1000) (aD:1001 <F):pY F ⟨l,m,S⟩ n=some c:=by
 have key:∀ (k:Nat) (n:Int) (c acc:List Int) (f:Nat),dn S k n=some c->c.length <f->acc.length+c.length<= 1000 ->pZ ⟨l,m,S⟩ f acc n=some (acc++c):=by
  intro k
  induction k with
  | zero=>
    intro n c acc f h af _
    obtain ⟨f,rfl⟩:∃ b7,f=b7+ 1 :=⟨f - 1,by omega⟩
    simp only [dn] at h
    split at h
    · injection h with h
      subst h
      rw [pZ,decide_eq_false (by omega)]
      simp
    · cases h
  | succ k bq=>
    intro n c acc f h af aq
    obtain ⟨f,rfl⟩:∃ b7,f=b7+ 1 :=⟨f - 1,by omega⟩
    rw [dn] at h
    split at h
    · injection h with h
      subst h
      rw [pZ,decide_eq_false (by omega)]
      simp
    · rename_i aJ
      cases hi:idx S n with
      | none=>rw [hi] at h;cases h
      | some x=>
        rw [hi,Option.bind_some] at h
        cases hu:dn S k x with
        | none=>rw [hu] at h;cases h
        | some bH=>
          rw [hu] at h
          simp only [Option.map_some,Option.some.injEq] at h
          subst h
          simp only [List.length_cons] at af aq
          rw [pZ,decide_eq_true (by omega),cond_true]
          unfold bK
          rw [if_pos (by simp only [List.length_cons,List.length_nil];omega)]
          show ((some (acc++[n])).bind fun F_=>(idx S n).bind fun nX=>_)=_
          rw [Option.bind_some,hi,Option.bind_some,bq x bH (acc++[n]) f hu (by omega) (by simp only [List.length_append,List.length_cons,List.length_nil];omega)]
          simp
 unfold pY
 rw [key k n c [] F h (by omega) (by simp;omega)]
 rfl
end
end J
namespace J
section
variable {F:Nat} {l:List ap}
theorem Dv:(dd l).length=l.length:=by simp [dd]
theorem uF {n:Int} (aQ:0 <=n) (I:n <l.length):∃ x,idx l n=some x/\idx (dd l) n=some (cK l x.cP):=by
 obtain ⟨x,ad⟩:∃ x,l[n.toNat]? =some x:=⟨l[n.toNat]'(by omega),List.getElem?_eq_getElem _⟩
 refine ⟨x,?_,?_⟩
 · unfold idx;rw [if_pos aQ,ad]
 · unfold idx;rw [if_pos aQ,VH ad]
def VR (o:Option (List Int)) (acc:List Int):Way (List Int) (List Int):=match o with
 | some c=>.go (c.reverse++acc)
 | none=>.out []
def dv (l:List ap) (n:Int):List Int:=(dn (dd l) l.length n).getD []
theorem MF (aD:1100 <F) (h:Right l) {n:Int} (I:n <l.length):vu F l n=some (dv l n).reverse:=by
 have hlen:=h.len
 have key:∀ (d:Nat) (acc:List Int) (n:Int) (f:Nat),acc.length+d=l.length+ 1 ->d+ 1 <f->n <l.length->za F l f n acc=some (VR (dn (dd l) d n) acc):=by
  intro d
  induction d with
  | zero=>
    intro acc n f aK af aJ
    obtain ⟨f,rfl⟩:∃ b7,f=b7+ 1 :=⟨f - 1,by omega⟩
    rw [za,dn]
    by_cases aQ:n < 0
    · rw [if_pos aQ,decide_eq_false (by omega)];rfl
    · rw [if_neg aQ,decide_eq_true (by omega),cond_true,decide_eq_true (by omega)];rfl
  | succ d bq=>
    intro acc n f aK af aJ
    obtain ⟨f,rfl⟩:∃ b7,f=b7+ 1 :=⟨f - 1,by omega⟩
    rw [za,dn]
    by_cases aQ:n < 0
    · rw [if_pos aQ,decide_eq_false (by omega)];rfl
    · obtain ⟨x,ad,ao⟩:=uF (l:=l) (n:=n) (by omega) aJ
      rw [if_neg aQ,decide_eq_true (by omega),cond_true,decide_eq_false (by omega),cond_false]
      unfold bK
      rw [if_pos (by simp only [List.length_cons,List.length_nil];omega)]
      show ((some ([n]++acc)).bind fun acV=>(idx l n).bind fun agW=>_)=_
      rw [Option.bind_some,ad,Option.bind_some,vo ⟨by omega,by omega⟩,Option.bind_some,ao,Option.bind_some,bq ([n]++acc) _ f (by simp only [List.length_append,List.length_cons,List.length_nil];omega) (by omega) O_]
      cases dn (dd l) d (cK l x.cP) with
      | none=>rfl
      | some c=>simp [VR]
 unfold vu
 rw [key (l.length+ 1) [] n F (by simp) (by omega) I,aB_ (k:=l.length+ 1) (by rw [Dv];omega),Dv]
 unfold dv
 cases dn (dd l) l.length n with
 | none=>rfl
 | some c=>simp [VR,cd]
def sT (l:List ap) (i:Nat):Option Int:=if (dn (dd l) l.length (i:Int)).isSome then none else some 4
theorem VQ {S:List Int} {k:Nat} {n:Int} {c:List Int} (h:dn S k n=some c) (aQ:0 <=n):∃ r,c=n::r:=by
 cases k with
 | zero=>simp only [dn] at h;rw [if_neg (by omega)] at h;cases h
 | succ k=>
   rw [dn,if_neg (by omega)] at h
   cases hi:idx S n with
   | none=>rw [hi] at h;cases h
   | some m=>
     rw [hi,Option.bind_some] at h
     cases hu:dn S k m with
     | none=>rw [hu] at h;cases h
     | some bH=>rw [hu] at h;simp only [Option.map_some,Option.some.injEq] at h;exact ⟨bH,h.symm⟩
theorem ao_ (aD:1100 <F) (h:Right l):yL F l F 0 =some (cr ((List.range l.length).findSome? (sT l))):=jM _ (by have:=h.len;omega) (fun k i hi=>by
 rw [yL,bN hi,cond_true,MF aD h (by omega),Option.bind_some]
 unfold sT dv
 cases hu:dn (dd l) l.length (i:Int) with
 | none=>rfl
 | some c=>
   obtain ⟨r,rfl⟩:=VQ hu (by omega)
   rw [decide_eq_false (by simp;omega)]
   rfl) (fun k=>by rw [yL,bM];rfl) (by have:=h.len;omega)
theorem Zf (h:Right l) (m:List (List UInt8 × Int)) (s:List Int):∀ (d i f:Nat) (n:Int),i+d=l.length->d <f-> 0 <=n->n <l.length-> ∃ r,rE ⟨l,m,s⟩ (dd l) f n i=some r/\(r < 0 ↔ (dn (dd l) d n).isSome=true)
 | 0,i,f,n,hi,af,aQ,aJ=>by
   obtain ⟨f,rfl⟩:∃ b7,f=b7+ 1 :=⟨f - 1,by omega⟩
   have:i=l.length:=by omega
   subst this
   refine ⟨n,?_,?_⟩
   · rw [rE]
     show cond (decide ((l.length:Int) <(l.length:Int))) _ _=_
     rw [bM];rfl
   · rw [dn,if_neg (by omega)];simp;omega
 | d+ 1,i,f,n,hi,af,aQ,aJ=>by
   obtain ⟨f,rfl⟩:∃ b7,f=b7+ 1 :=⟨f - 1,by omega⟩
   obtain ⟨x,ad,ao⟩:=uF (l:=l) (n:=n) aQ aJ
   have hlen:=h.len
   rw [rE]
   have hc:decide ((i:Int) <((⟨l,m,s⟩:bj).l.length:Int))=true:=bN (n:=l.length) (by omega)
   rw [hc,cond_true,ao,Option.bind_some,dn,if_neg (by omega),ao,Option.bind_some]
   by_cases FL:cK l x.cP < 0
   · rw [decide_eq_true FL,cond_true]
     refine ⟨_,rfl,?_⟩
     have:dn (dd l) d (cK l x.cP)=some []:=by cases d <;> simp [dn,FL]
     rw [this];simp [FL]
   · rw [decide_eq_false FL,cond_false,eP (n:=l.length) (by omega) (by omega)]
     obtain ⟨r,I,aa⟩:=Zf h m s d (i+ 1) f (cK l x.cP) (by omega) (by omega) (by omega) O_
     refine ⟨r,I,aa.trans ?_⟩
     simp
theorem ao9 (aD:1100 <F) (h:Right l) (m:List (List UInt8 × Int)) (s:List Int):pX F ⟨l,m,s⟩ (dd l) F 0 =some (cr (((List.range l.length).findSome? (sT l)).map fun e=>(e,(⟨l,m,dd l⟩:bj)))):=by
 have hlen:=h.len
 have:=jM (n:=l.length) (L:=pX F ⟨l,m,s⟩ (dd l)) (fun i=>(sT l i).map fun e=>(e,(⟨l,m,dd l⟩:bj))) (by omega) (fun k i hi=>by
  rw [pX]
  have hc:decide ((i:Int) <((⟨l,m,s⟩:bj).l.length:Int))=true:=bN (n:=l.length) hi
  obtain ⟨r,I,aa⟩:=Zf h m s l.length 0 F (i:Int) (by omega) (by omega) (by omega) (by omega)
  rw [hc,cond_true,show (0 :Int)=((0 :Nat):Int) from rfl,I]
  simp only [Option.bind_some]
  unfold sT
  cases hu:(dn (dd l) l.length (i:Int)).isSome with
  | true=>rw [if_pos rfl,decide_eq_false (show ¬ ((0 :Nat):Int)<=r from fun aE=>by have:=aa.2 hu;omega)];rfl
  | false=>rw [if_neg (by simp),decide_eq_true (show ((0 :Nat):Int)<=r from by
   rcases Int.lt_or_le r 0 with aE | aE
   · have:=aa.1 aE;rw [hu] at this;cases this
   · exact aE)];rfl) (fun k=>by
    rw [pX]
    show cond (decide ((l.length:Int) <(l.length:Int))) _ _=_
    rw [bM];rfl) (F:=F) (by omega)
 rw [this,J2]
structure ht (l:List ap):Prop where
 right:Right l
 aHj:yy l
 aHf:∀ c ∈ l,c.cP= []\/ 0 <=cK l c.cP
 up:∀ i,i <l.length-> ∃ c,dn (dd l) l.length (i:Int)=some c
 top:∀ c ∈ l,r_ c=none
 obj:0 <=cK l [79,98,106,101,99,116]
theorem ht.chain (h:ht l) {n:Int} (aQ:0 <=n) (I:n <l.length):dn (dd l) l.length n=some (dv l n)/\(dv l n).length<= 10 /\(∀ x ∈ dv l n,0 <=x/\x <l.length):=by
 obtain ⟨c,hc⟩:=h.up n.toNat (by omega)
 rw [show ((n.toNat:Nat):Int)=n by omega] at hc
 have e:dv l n=c:=by unfold dv;rw [hc];rfl
 rw [e]
 refine ⟨hc,?_,fun x ad=>?_⟩
 · have:=agl hc;rw [Dv] at this;have:=h.right.len;omega
 · have:=(MH hc x ad).1;rw [Dv] at this;exact this
theorem ht.SY (h:ht l) (aD:1100 <F) (m:List (List UInt8 × Int)) {n:Int} (aQ:0 <=n) (I:n <l.length):pY F ⟨l,m,dd l⟩ n=some (dv l n):=by
 obtain ⟨hc,aq,_⟩:=h.chain aQ I
 exact aoG (l:=l) hc (by omega) (by omega)
def mv (l:List ap) (i:Int):List Field:=((idx l i).map (·.Fields)).getD []
def fi (l:List ap) (n:Int):List Field:=(dv l n).reverse.flatMap (mv l)
theorem P5 (h:Right l) (i:Int):(mv l i).length<= 6 :=by
 unfold mv
 cases ad:idx l i with
 | none=>simp
 | some x=>
   obtain ⟨_,_,aa⟩:=km ad
   exact h.fields x (List.mem_of_getElem? aa)
theorem P6 (h:Right l):∀ r:List Int,(r.flatMap (mv l)).length<= 6 *r.length
 | []=>by simp
 | x::r=>by
   have I:=P5 h x
   have aa:=P6 h r
   simp only [List.flatMap_cons,List.length_append,List.length_cons]
   omega
theorem aaI (h:Right l) (m:List (List UInt8 × Int)) (s:List Int):∀ (rem:List Int) (acc:List Field),(∀ x ∈ rem,0 <=x/\x <l.length)->acc.length+ 6 *rem.length<= 1000 ->wD ⟨l,m,s⟩ rem acc=some (acc++rem.flatMap (mv l))
 | [],acc,_,_=>by simp [wD]
 | x::rem,acc,ad,aq=>by
   obtain ⟨c,hc,_⟩:=uF (l:=l) (ad x (by simp)).1 (ad x (by simp)).2
   have af:mv l x=c.Fields:=by unfold mv;rw [hc];rfl
   have I:=P5 h x
   rw [af] at I
   simp only [List.length_cons] at aq
   rw [wD]
   show ((idx l x).bind fun yd=>_)=_
   rw [hc,Option.bind_some]
   unfold bK
   rw [if_pos (by omega),Option.bind_some,aaI h m s rem _ (fun y hy=>ad y (by simp [hy])) (by simp only [List.length_append];omega),List.flatMap_cons,af]
   simp
theorem ht.SZ (h:ht l) (aD:1100 <F) (m:List (List UInt8 × Int)) {n:Int} (aQ:0 <=n) (I:n <l.length):rF F ⟨l,m,dd l⟩ n=some (fi l n):=by
 obtain ⟨_,aq,hm⟩:=h.chain aQ I
 unfold rF
 have:=h.SY aD m aQ I
 simp only at this ⊢
 rw [this,Option.bind_some]
 unfold Hh
 rw [Option.bind_some,aaI h.right m (dd l) _ [] (fun x ad=>hm x (by simpa using ad)) (by simp;omega)]
 simp [fi]
theorem ht.Vf (h:ht l) (aD:1100 <F) {n:Int} (aQ:0 <=n) (I:n <l.length):yA F l n=some (fi l n):=by
 obtain ⟨_,aq,hm⟩:=h.chain aQ I
 unfold yA
 rw [MF aD h.right I,Option.bind_some]
 have:qS l (dv l n).reverse F [] 0 =some (fi l n):=by
  refine S5 (n:=(dv l n).reverse.length) (fun k i=>qS l (dv l n).reverse k (((dv l n).reverse.take i).flatMap (mv l)) (i:Int)) (fi l n) (fun k i hi=>?_) (fun k=>?_) (F:=F) (by simp;omega)
  · obtain ⟨x,ad⟩:∃ x,(dv l n).reverse[i]? =some x:=⟨(dv l n).reverse[i],List.getElem?_eq_getElem hi⟩
    have ag:=hm x (by simpa using List.mem_of_getElem? ad)
    obtain ⟨c,hc,_⟩:=uF (l:=l) ag.1 ag.2
    have af:mv l x=c.Fields:=by unfold mv;rw [hc];rfl
    have aa:=P5 h.right x
    rw [af] at aa
    have aw:=P6 h.right ((dv l n).reverse.take i)
    simp only [List.length_take,List.length_reverse] at aw hi
    show qS l (dv l n).reverse (k+ 1) (((dv l n).reverse.take i).flatMap (mv l)) (i:Int)=_
    rw [qS,bN (by simpa using hi),cond_true,bw ad,Option.bind_some,hc,Option.bind_some]
    unfold bK
    rw [if_pos (by omega),Option.bind_some,eP (n:=(dv l n).length) hi (by omega),List.take_add_one,ad,List.flatMap_append]
    simp [af]
  · show qS l (dv l n).reverse (k+ 1) (((dv l n).reverse.take (dv l n).reverse.length).flatMap (mv l)) ((dv l n).reverse.length:Int)=_
    rw [qS,bM,List.take_length];rfl
 rw [this];rfl
end
end J
namespace J
section
variable {F:Nat} {l:List ap}
abbrev bT:=List (List UInt8) × List Target
def nw (nm:List UInt8) (x:List UInt8):Bool:=decide (nm=x)
def sI (p:bT) (nm:List UInt8) (t:Target):bT:=match eo (nw nm) p.1 with
 | some k=>(p.1,p.2.set k t)
 | none=>(p.1 ++[nm],p.2 ++[t])
def pt (ci:Int):List Method->Nat->bT->bT
 | [],_,p=>p
 | m::r,k,p=>pt ci r (k+ 1) (sI p m.Name ⟨ci,k⟩)
def eM (l:List ap) (i:Int):List Method:=((idx l i).map (·.bc)).getD []
def vA (l:List ap):List Int->bT->bT
 | [],p=>p
 | ci::r,p=>vA l r (pt ci (eM l ci) 0 p)
def gO (l:List ap) (n:Int):bT:=vA l (dv l n).reverse ([],[])
theorem OW {p:bT} {nm:List UInt8} {t:Target} (h:p.1.length=p.2.length):(sI p nm t).1.length=(sI p nm t).2.length/\(sI p nm t).1.length<=p.1.length+ 1 :=by
 unfold sI
 cases eo (nw nm) p.1 with
 | some k=>simp [h]
 | none=>simp [h]
theorem OV {ci:Int}:∀ {r:List Method} {k:Nat} {p:bT},p.1.length=p.2.length->(pt ci r k p).1.length=(pt ci r k p).2.length/\(pt ci r k p).1.length<=p.1.length+r.length
 | [],_,p,h=>⟨h,Nat.le_refl _⟩
 | m::r,k,p,h=>by
   obtain ⟨I,aa⟩:=OW (nm:=m.Name) (t:=⟨ci,k⟩) h
   obtain ⟨aw,bi⟩:=OV (ci:=ci) (r:=r) (k:=k+ 1) I
   exact ⟨aw,by simp only [pt,List.length_cons];omega⟩
theorem auI {dP:List (List UInt8)} (h:Small F dP.length) (nm:List UInt8):Hs F dP nm=some (((eo (nw nm) dP).map fun n:Nat=>(n:Int)).getD (-1)):=by
 unfold Hs
 have l1:xx dP nm F 0 =some (cr ((eo (nw nm) dP).map fun n:Nat=>(n:Int))):=P3 (nw nm) _ h.1 (fun k i x ad=>by
  rw [xx,bN (List.getElem?_eq_some_iff.1 ad).1,cond_true,bw ad,Option.bind_some];rfl) (fun k=>by rw [xx,bM];rfl) h.2
 rw [l1,jd]
 cases eo (nw nm) dP <;> rfl
theorem af3 (aD:1100 <F) (ci:Int) (c:ap) (hc:c.bc.length<= 8):∀ (d i f:Nat) (p:bT),i+d=c.bc.length->d <f->p.1.length=p.2.length->p.1.length+d<= 1000 ->
 wJ F ci c f p.1 p.2 (i:Int)=some (pt ci (c.bc.drop i) i p)
 | 0,i,f,p,hi,af,aN,_=>by
   obtain ⟨f,rfl⟩:∃ b7,f=b7+ 1 :=⟨f - 1,by omega⟩
   have:i=c.bc.length:=by omega
   subst this
   rw [wJ,bM,List.drop_of_length_le (Nat.le_refl _)];rfl
 | d+ 1,i,f,p,hi,af,aN,aq=>by
   obtain ⟨f,rfl⟩:∃ b7,f=b7+ 1 :=⟨f - 1,by omega⟩
   have c':i <c.bc.length:=by omega
   obtain ⟨I,aa⟩:=OW (nm:=c.bc[i].Name) (t:=⟨ci,i⟩) aN
   have next:=af3 aD ci c hc d (i+ 1) f (sI p c.bc[i].Name ⟨ci,i⟩) (by omega) (by omega) I (by omega)
   rw [wJ,bN c',cond_true,bw (List.getElem?_eq_getElem c'),Option.bind_some,auI ⟨by omega,by omega⟩,Option.bind_some,List.drop_eq_getElem_cons c',pt,<-next]
   unfold sI
   cases R2:eo (nw c.bc[i].Name) p.1 with
   | some k=>
     have aj:=TV R2
     simp only [Option.map_some,Option.getD_some]
     rw [decide_eq_true (show (0 :Int)<=(k:Int) by omega),cond_true,bw (List.getElem?_eq_getElem (show k <p.2.length by omega)),Option.bind_some,Option.bind_some,Option.bind_some,eP c' (by omega)]
     simp
   | none=>
     simp only [Option.map_none,Option.getD_none]
     rw [decide_eq_false (show ¬ (0 :Int)<= -1 by decide),cond_false]
     unfold bK
     rw [if_pos (by simp only [List.length_cons,List.length_nil];omega),Option.bind_some,if_pos (by simp only [List.length_cons,List.length_nil];omega),Option.bind_some,Option.bind_some,eP c' (by omega)]
theorem adA (h:Right l) (i:Int):(eM l i).length<= 8 :=by
 unfold eM
 cases ad:idx l i with
 | none=>simp
 | some x=>
   obtain ⟨_,_,aa⟩:=km ad
   exact h.methods x (List.mem_of_getElem? aa)
theorem af2 (aD:1100 <F) (h:Right l) (m:List (List UInt8 × Int)) (s:List Int):∀ (rem:List Int) (p:bT),(∀ x ∈ rem,0 <=x/\x <l.length)->p.1.length=p.2.length->p.1.length+ 8 *rem.length<= 900 ->
 wI F ⟨l,m,s⟩ rem p.1 p.2 =some (vA l rem p)
 | [],p,_,_,_=>by simp [wI,vA]
 | x::rem,p,ad,aN,aq=>by
   obtain ⟨c,hc,_⟩:=uF (l:=l) (ad x (by simp)).1 (ad x (by simp)).2
   have hm:eM l x=c.bc:=by unfold eM;rw [hc];rfl
   have ni:=adA h x
   have E':=ni
   rw [hm] at E'
   simp only [List.length_cons] at aq
   obtain ⟨dC,bG⟩:=OV (ci:=x) (r:=eM l x) (k:=0) aN
   rw [wI]
   show (Option.bind (α:=(List (List UInt8)) × (List Target)) ((idx l x).bind fun ft=>_) _)=_
   rw [hc,Option.bind_some]
   have:=af3 aD x c E' c.bc.length 0 F p (by omega) (by omega) aN (by omega)
   rw [show ((0 :Nat):Int)= 0 from rfl] at this
   rw [this,List.drop_zero,Option.bind_some,Option.bind_some,vA,<-hm]
   exact af2 aD h m s rem _ (fun y hy=>ad y (by simp [hy])) dC (by omega)
theorem ht.awE (h:ht l) (aD:1100 <F) (m:List (List UInt8 × Int)) {n:Int} (aQ:0 <=n) (I:n <l.length):Af F ⟨l,m,dd l⟩ n=some (gO l n):=by
 obtain ⟨_,aq,hm⟩:=h.chain aQ I
 unfold Af
 have:=h.SY aD m aQ I
 simp only at this ⊢
 rw [this,Option.bind_some]
 unfold Hh
 rw [Option.bind_some,af2 aD h.right m (dd l) _ ([],[]) (fun x ad=>hm x (by simpa using ad)) rfl (by simp;omega)]
 rfl
theorem aBS (dP:List (List UInt8)) (m:Method) (h:Small F dP.length):pi dP m F 0 =some (((eo (nw m.Name) dP).getD dP.length:Nat):Int):=by
 have key:∀ (d i f:Nat),i+d=dP.length->d <f->pi dP m f (i:Int)=some ((i+(eo (nw m.Name) (dP.drop i)).getD d:Nat):Int):=by
  intro d
  induction d with
  | zero=>
    intro i f hi af
    obtain ⟨f,rfl⟩:∃ b7,f=b7+ 1 :=⟨f - 1,by omega⟩
    have:i=dP.length:=by omega
    subst this
    rw [pi,bM,List.drop_of_length_le (Nat.le_refl _)];rfl
  | succ d bq=>
    intro i f hi af
    obtain ⟨f,rfl⟩:∃ b7,f=b7+ 1 :=⟨f - 1,by omega⟩
    have c':i <dP.length:=by omega
    rw [pi,bN c',cond_true,bw (List.getElem?_eq_getElem c'),Option.bind_some,List.drop_eq_getElem_cons c',eo]
    by_cases e:dP[i]=m.Name
    · rw [decide_eq_true e,if_pos (by simp [nw,e])];simp
    · rw [decide_eq_false e,if_neg (by simp [nw];exact fun h=>e h.symm)]
      simp only [Bool.not_false,cond_true]
      rw [eP c' h.1,bq (i+ 1) f (by omega) (by omega)]
      congr 2
      cases eo (nw m.Name) (dP.drop (i+ 1)) with
      | none=>simp;omega
      | some k=>simp;omega
 have:=key dP.length 0 F (by omega) h.2
 simpa using this
theorem af9 (aD:1100 <F) (gM:List Int) (n:Nat) (ci:Int) (c:ap) (aE:gM[n]? =some ci) (rb:idx l ci=some c) (hc:c.bc.length<= 8):∀ (d i f:Nat) (p:bT),i+d=c.bc.length->d <f->p.1.length=p.2.length->p.1.length+d<= 1000 ->
 y_ F l gM (n:Int) f p.2 p.1 (i:Int)=some ((pt ci (c.bc.drop i) i p).2,(pt ci (c.bc.drop i) i p).1)
 | 0,i,f,p,hi,af,aN,_=>by
   obtain ⟨f,rfl⟩:∃ b7,f=b7+ 1 :=⟨f - 1,by omega⟩
   have:i=c.bc.length:=by omega
   subst this
   rw [y_,bw aE,Option.bind_some,rb,Option.bind_some,bM,List.drop_of_length_le (Nat.le_refl _)];rfl
 | d+ 1,i,f,p,hi,af,aN,aq=>by
   obtain ⟨f,rfl⟩:∃ b7,f=b7+ 1 :=⟨f - 1,by omega⟩
   have c':i <c.bc.length:=by omega
   obtain ⟨I,aa⟩:=OW (nm:=c.bc[i].Name) (t:=⟨ci,i⟩) aN
   have next:=af9 aD gM n ci c aE rb hc d (i+ 1) f (sI p c.bc[i].Name ⟨ci,i⟩) (by omega) (by omega) I (by omega)
   rw [y_,bw aE,Option.bind_some,rb,Option.bind_some,bN c',cond_true,Option.bind_some,rb,Option.bind_some,bw (List.getElem?_eq_getElem c'),Option.bind_some,aBS p.1 _ ⟨by omega,by omega⟩,Option.bind_some,List.drop_eq_getElem_cons c',pt,<-next]
   unfold sI
   cases R2:eo (nw c.bc[i].Name) p.1 with
   | some k=>
     have aj:=TV R2
     simp only [Option.getD_some]
     rw [decide_eq_false (show ¬ ((k:Nat):Int)=(p.1.length:Int) by omega),cond_false,Option.bind_some]
     simp only [bw aE,Option.bind_some]
     rw [bw (List.getElem?_eq_getElem (show k <p.2.length by omega)),Option.bind_some,Option.bind_some,eP c' (by omega)]
     simp
   | none=>
     simp only [Option.getD_none,decide_true,cond_true]
     unfold bK
     rw [if_pos (by simp only [List.length_cons,List.length_nil];omega),Option.bind_some,if_pos (by simp only [List.length_cons,List.length_nil];omega),Option.bind_some,Option.bind_some]
     simp only [bw aE,Option.bind_some]
     rw [bw (i:=p.1.length) (x:=(⟨0,0⟩:Target)) (by rw [aN];simp),Option.bind_some,Option.bind_some,eP c' (by omega)]
     simp [aN,List.set_append]
theorem ht.aAZ (h:ht l) (aD:1100 <F) {n:Int} (aQ:0 <=n) (I:n <l.length):ED F l n=some (gO l n):=by
 obtain ⟨_,aq,hm⟩:=h.chain aQ I
 unfold ED
 rw [MF aD h.right I,Option.bind_some]
 have key:∀ (d i f:Nat) (p:bT),i+d=(dv l n).reverse.length->d <f->p.1.length=p.2.length->p.1.length+ 8 *d<= 900 ->y9 F l (dv l n).reverse f p.2 p.1 (i:Int)=some ((vA l ((dv l n).reverse.drop i) p).2,(vA l ((dv l n).reverse.drop i) p).1):=by
  intro d
  induction d with
  | zero=>
    intro i f p hi af _ _
    obtain ⟨f,rfl⟩:∃ b7,f=b7+ 1 :=⟨f - 1,by omega⟩
    have:i=(dv l n).reverse.length:=by omega
    subst this
    rw [y9,bM,List.drop_of_length_le (Nat.le_refl _)];rfl
  | succ d bq=>
    intro i f p hi af aN KA
    obtain ⟨f,rfl⟩:∃ b7,f=b7+ 1 :=⟨f - 1,by omega⟩
    have c':i <(dv l n).reverse.length:=by omega
    obtain ⟨ci,rb⟩:∃ x,(dv l n).reverse[i]? =some x:=⟨(dv l n).reverse[i],List.getElem?_eq_getElem c'⟩
    have ag:=hm ci (by simpa using List.mem_of_getElem? rb)
    obtain ⟨c,hc,_⟩:=uF (l:=l) ag.1 ag.2
    have CB:eM l ci=c.bc:=by unfold eM;rw [hc];rfl
    have ni:=adA h.right ci
    have E':=ni
    rw [CB] at E'
    obtain ⟨dC,bG⟩:=OV (ci:=ci) (r:=eM l ci) (k:=0) aN
    have t2:=af9 (l:=l) aD (dv l n).reverse i ci c rb hc E' c.bc.length 0 F p (by omega) (by omega) aN (by omega)
    rw [show ((0 :Nat):Int)= 0 from rfl] at t2
    have as_:(dv l n).reverse[i]=ci:=by
     have:=List.getElem?_eq_getElem c'
     rw [rb] at this;exact (Option.some.inj this).symm
    rw [y9,bN c',cond_true,t2,List.drop_zero,Option.bind_some,Option.bind_some,eP (n:=(dv l n).length) (by simpa using c') (by omega),List.drop_eq_getElem_cons c',as_,vA,CB]
    rw [CB] at dC bG
    exact bq (i+ 1) f _ (by omega) (by omega) dC (by omega)
 have:=key (dv l n).reverse.length 0 F ([],[]) (by omega) (by simp;omega) rfl (by simp;omega)
 rw [show ((0 :Nat):Int)= 0 from rfl,List.drop_zero] at this
 simp only at this
 rw [this];rfl
end
end J
namespace J
theorem sH {α β:Type} {l:List α} (T:Nat->List β->Nat->Option (List β)) (g:α->List β) (B M:Nat) (bO:∀ x ∈ l,(g x).length<=B)
 (ao:∀ k (i:Nat) x acc,l[i]? =some x->acc.length+B<=M->T (k+ 1) acc i=T k (acc++g x) (i+ 1)) (he:∀ k acc,T (k+ 1) acc l.length=some acc) {F:Nat} (aD:l.length <F) {acc:List β} (eL:acc.length+B*l.length<=M) :
 T F acc 0 =some (acc++l.flatMap g):=by
 have key:∀ (d i k:Nat) (acc:List β),i+d=l.length->d <k->acc.length+B*d<=M->T k acc i=some (acc++(l.drop i).flatMap g):=by
  intro d
  induction d with
  | zero=>
    intro i k acc h aj _
    obtain ⟨k,rfl⟩:∃ k',k=k'+ 1 :=⟨k - 1,by omega⟩
    have hi:i=l.length:=by omega
    subst hi
    rw [he,List.drop_of_length_le (Nat.le_refl _)];simp
  | succ d bq=>
    intro i k acc h aj hm
    obtain ⟨k,rfl⟩:∃ k',k=k'+ 1 :=⟨k - 1,by omega⟩
    have hi:i <l.length:=by omega
    have ag:=bO l[i] (List.getElem_mem hi)
    rw [Nat.mul_succ] at hm
    rw [ao k i l[i] acc (List.getElem?_eq_getElem hi) (by omega),bq (i+ 1) k _ (by omega) (by omega) (by simp only [List.length_append];omega),List.drop_eq_getElem_cons hi,List.flatMap_cons,List.append_assoc]
 have:=key l.length 0 F acc (by omega) aD eL
 simpa using this
theorem ad8 {α β:Type} {g:α->Option β} {a:α}:[a].findSome? g=g a:=by rw [List.findSome?_cons];cases g a <;> rfl
theorem EZ {α β ct:Type} (f:α->List β) (g:β->Option ct):∀ l:List α,(l.flatMap f).findSome? g=l.findSome? fun x=>(f x).findSome? g
 | []=>rfl
 | x::r=>by
   rw [List.flatMap_cons,List.findSome?_append,List.findSome?_cons,EZ f g r]
   cases (f x).findSome? g <;> rfl
theorem vU {α β:Type} {g:α->List β} {B:Nat}:∀ {l:List α},(∀ x ∈ l,(g x).length<=B)->(l.flatMap g).length<=B*l.length
 | [],_=>by simp
 | x::r,h=>by
   have I:=h x (by simp)
   have aa:=vU (l:=r) (fun y hy=>h y (by simp [hy]))
   simp only [List.flatMap_cons,List.length_append,List.length_cons,Nat.mul_succ]
   omega
def eb (k:Kind):List (List UInt8):=if k.ap= [] then [] else [k.ap]
def mt (m:Method):List (List UInt8):=m.cw.flatMap eb++eb m.Returns++m.cz.map (·.ap)
def ha (c:ap):List (List UInt8):=c.Fields.flatMap (fun f=>eb f.Kind)++c.bc.flatMap mt
def qt (l:List ap):List (List UInt8):=l.flatMap ha
def jh (l:List ap) (s:List UInt8):Option Int:=if 0 <=cK l s then none else some 5
theorem tJ (k:Kind):(eb k).length<= 1 :=by unfold eb;split <;> simp
section
variable {F:Nat} {l:List ap}
theorem adB (h:Right l) {c:ap} (hc:c ∈ l) {m:Method} (hm:m ∈ c.bc):(mt m).length<= 9 :=by
 have I:=h.method c hc m hm
 have aa:=vU (l:=m.cw) (g:=eb) (B:=1) (fun k _=>tJ k)
 have aw:=tJ m.Returns
 unfold mt
 simp only [List.length_append,List.length_map]
 omega
theorem Zb (h:Right l) {c:ap} (hc:c ∈ l):(ha c).length<= 78 :=by
 have I:=vU (l:=c.Fields) (g:=fun f=>eb f.Kind) (B:=1) (fun f _=>tJ f.Kind)
 have aa:=vU (l:=c.bc) (g:=mt) (B:=9) (fun m hm=>adB h hc hm)
 have aw:=h.fields c hc
 have bi:=h.methods c hc
 unfold ha
 simp only [List.length_append]
 omega
theorem jq {b:Nat} {α:Type} {acc r:List α} (h:(acc.length+r.length)*b<= 140737488355328):bK b acc r=some (acc++r):=by unfold bK;rw [if_pos h]
theorem VN {acc:List (List UInt8)} (h:acc.length<= 5000) (k:Kind):Ag k acc=some (acc++eb k):=by
 unfold Ag eb
 by_cases e:k.ap= []
 · rw [decide_eq_true e,if_pos e];simp
 · rw [decide_eq_false e,if_neg e]
   simp only [Bool.not_false,cond_true]
   rw [jq (by simp only [List.length_cons,List.length_nil];omega)];rfl
theorem aBV (aD:1100 <F) (h:Right l) (m:List (List UInt8 × Int)) (s:List Int):uc F ⟨l,m,s⟩ F [] 0 =some (qt l):=by
 have hlen:=h.len
 have:=sH (l:=l) (fun k acc i=>uc F ⟨l,m,s⟩ k acc (i:Int)) ha 78 2000 (fun c hc=>Zb h hc) (fun k i c acc ad s7=>by
  have hc:=List.mem_of_getElem? ad
  have hd:=h.fields c hc
  have ni:=h.methods c hc
  have hi:=(List.getElem?_eq_some_iff.1 ad).1
  have cB:∀ acc:List (List UInt8),acc.length<= 2000 ->ud c F acc 0 =some (acc++c.Fields.flatMap fun f=>eb f.Kind):=fun acc aK=>
   sH (l:=c.Fields) (fun k acc i=>ud c k acc (i:Int)) (fun f=>eb f.Kind) 1 3000 (fun f _=>tJ f.Kind) (fun k i f acc ad s7=>by
    have hi:=(List.getElem?_eq_some_iff.1 ad).1
    rw [ud,bN hi,cond_true,bw ad,Option.bind_some,VN (by omega),Option.bind_some,eP hi (by omega)]) (fun k acc=>by rw [ud,bM];rfl) (by omega) (by omega)
  have iY:∀ acc:List (List UInt8),acc.length<= 2100 ->p2 F c F acc 0 =some (acc++c.bc.flatMap mt):=fun acc aK=>
   sH (l:=c.bc) (fun k acc i=>p2 F c k acc (i:Int)) mt 9 3000 (fun m hm=>adB h hc hm) (fun k i m acc ad s7=>by
    have hm:=List.mem_of_getElem? ad
    have hi:=(List.getElem?_eq_some_iff.1 ad).1
    obtain ⟨bi,dA⟩:=h.method c hc m hm
    have z8:uf m F acc 0 =some (acc++m.cw.flatMap eb):=sH (l:=m.cw) (fun k acc i=>uf m k acc (i:Int)) eb 1 3100 (fun k _=>tJ k) (fun k i x acc ad s7=>by
     have hi:=(List.getElem?_eq_some_iff.1 ad).1
     rw [uf,bN hi,cond_true,bw ad,Option.bind_some,VN (by omega),Option.bind_some,eP hi (by omega)]) (fun k acc=>by rw [uf,bM];rfl) (by omega) (by omega)
    have aj:=vU (l:=m.cw) (g:=eb) (B:=1) (fun k _=>tJ k)
    have aGZ:=tJ m.Returns
    have SH:∀ acc:List (List UInt8),acc.length<= 3200 ->p3 m F acc 0 =some (acc++m.cz.flatMap fun h=>[h.ap]):=fun acc aK=>
     sH (l:=m.cz) (fun k acc i=>p3 m k acc (i:Int)) (fun h=>[h.ap]) 1 3300 (fun k _=>by simp) (fun k i x acc ad s7=>by
      have hi:=(List.getElem?_eq_some_iff.1 ad).1
      rw [p3,bN hi,cond_true,bw ad,Option.bind_some,jq (by simp only [List.length_cons,List.length_nil];omega),Option.bind_some,eP hi (by omega)]) (fun k acc=>by rw [p3,bM];rfl) (by omega) (by omega)
    rw [p2,bN hi,cond_true,bw ad,Option.bind_some,z8,Option.bind_some,VN (k:=(⟨m.Returns.Kind,m.Returns.ap⟩:Kind)) (by simp only [List.length_append];omega),Option.bind_some,
     SH _ (by simp only [List.length_append];have:(eb (⟨m.Returns.Kind,m.Returns.ap⟩:Kind)).length<= 1 :=tJ _;omega),Option.bind_some,Option.bind_some,eP hi (by omega)]
    have e:(m.cz.flatMap fun h=>[h.ap])=m.cz.map (·.ap):=by
     induction m.cz with
     | nil=>rfl
     | cons x r bq=>rw [List.flatMap_cons,bq];rfl
    rw [e]
    unfold mt
    simp only [List.append_assoc]) (fun k acc=>by rw [p2,bM];rfl) (by omega) (by omega)
  have aj:=vU (l:=c.Fields) (g:=fun f=>eb f.Kind) (B:=1) (fun f _=>tJ f.Kind)
  rw [uc]
  have lF:decide ((i:Int) <((⟨l,m,s⟩:bj).l.length:Int))=true:=bN (n:=l.length) hi
  rw [lF,cond_true]
  show (Option.bind (α:=List (List UInt8)) ((idx l (i:Int)).bind fun gp=>_) _)=_
  rw [bw ad,Option.bind_some,cB acc (by omega),Option.bind_some,iY _ (by simp only [List.length_append];omega),Option.bind_some,Option.bind_some,eP hi (by omega)]
  unfold ha
  simp only [List.append_assoc]) (fun k acc=>by
   rw [uc]
   show cond (decide ((l.length:Int) <(l.length:Int))) _ _=_
   rw [bM];rfl) (F:=F) (by omega) (acc:=[]) (by simp;omega)
 simpa [qt] using this
theorem Ty (s:List UInt8):(dI (eO 0 l) s).isSome=decide (0 <=cK l s):=by
 rw [C2]
 unfold cK
 cases eo (f' s) l with
 | none=>simp
 | some i=>simp
theorem aBT (aD:1100 <F) (h:Right l) (s:List Int):Gh F ⟨l,eO 0 l,s⟩=some (((qt l).findSome? (jh l)).getD 0):=by
 have hlen:=h.len
 unfold Gh
 have aO:=aBV aD h (eO 0 l) s
 have aG7:(qt l).length<= 780 :=by
  have:=vU (l:=l) (g:=ha) (B:=78) (fun c hc=>Zb h hc)
  unfold qt;omega
 rw [aO,Option.bind_some]
 have Ga:wK ⟨l,eO 0 l,s⟩ (qt l) F 0 =some (cr ((qt l).findSome? (jh l))):=each (jh l) (by omega) (fun k i x ad=>by
  rw [wK,bN (List.getElem?_eq_some_iff.1 ad).1,cond_true,bw ad,Option.bind_some]
  show cond (!(dI (eO 0 l) x).isSome) _ _=_
  rw [Ty]
  unfold jh
  by_cases e:0 <=cK l x
  · rw [decide_eq_true e,if_pos e];rfl
  · rw [decide_eq_false e,if_neg e];rfl) (fun k=>by rw [wK,bM];rfl) (by omega)
 rw [Ga]
 cases (qt l).findSome? (jh l) <;> rfl
def mI (l:List ap) (k:Kind):Option Int:=(eb k).findSome? (jh l)
theorem af_ {s:List UInt8}:jh l s=none\/jh l s=some 5 :=by unfold jh;split <;> simp
theorem q7 {α:Type} {g:α->Option Int} {e:Int} (ax:∀ x,g x=none\/g x=some e):∀ r:List α,r.findSome? g=none\/r.findSome? g=some e
 | []=>.inl rfl
 | x::r=>by
   rw [List.findSome?_cons]
   rcases ax x with h | h
   · rw [h];exact q7 ax r
   · rw [h];exact .inr rfl
theorem au8 (k:Kind):mI l k=if k.ap= []\/ 0 <=cK l k.ap then none else some 5 :=by
 unfold mI eb jh
 by_cases e:k.ap= []
 · simp [e]
 · by_cases al:0 <=cK l k.ap <;> simp [e,al]
theorem OQ (h:Small F l.length) {CQ:List Kind} (aj:Small F CQ.length):y' F l CQ=some (CQ.findSome? (mI l)).isNone:=by
 unfold y'
 have l1:=each (l:=CQ) (L:=vr F CQ l) (fun k=>(mI l k).map fun _=>false) aj.1 (fun k i x ad=>by
  rw [vr,bN (List.getElem?_eq_some_iff.1 ad).1,cond_true,bw ad,Option.bind_some,Option.bind_some,vo h,Option.bind_some,au8]
  by_cases e:x.ap= []
  · rw [if_pos (.inl e),decide_eq_true e];rfl
  · rw [decide_eq_false e]
    by_cases al:0 <=cK l x.ap
    · rw [if_pos (.inr al),decide_eq_false (show ¬ cK l x.ap < 0 by omega)];rfl
    · rw [if_neg (by simp [e,al]),decide_eq_true (show cK l x.ap < 0 by omega)];rfl) (fun k=>by rw [vr,bM];rfl) aj.2
 rw [l1,J2]
 cases CQ.findSome? (mI l) <;> rfl
theorem Sq {o:Option Int} (h:o=none\/o=some 5) (Y:Option (Way Int Unit)):cond (!o.isNone) (some (.out 5)) Y=gC o Y:=by rcases h with h | h <;> rw [h] <;> rfl
theorem SA (k:Kind):mI l k=none\/mI l k=some 5 :=q7 (fun _=>af_) _
theorem HE {o eI:Option Int} {Y:Option (Way Int Unit)}:gC o (gC eI Y)=gC (o.or eI) Y:=by cases o <;> rfl
theorem aBU (aD:1100 <F) (h:Right l):vm F l F 0 =some (cr ((qt l).findSome? (jh l))):=by
 have hlen:=h.len
 have:=each (l:=l) (L:=vm F l) (fun c=>(ha c).findSome? (jh l)) (by omega) (fun k n c ad=>by
  have hc:=List.mem_of_getElem? ad
  have hd:=h.fields c hc
  have ni:=h.methods c hc
  have Ga:yM F l (n:Int) F 0 =some (cr (c.Fields.findSome? fun f=>mI l f.Kind)):=each (l:=c.Fields) (fun f=>mI l f.Kind) (by omega) (fun k i f hy=>by
   rw [yM,bw ad,Option.bind_some,bN (List.getElem?_eq_some_iff.1 hy).1,cond_true,Option.bind_some,bw hy,Option.bind_some,OQ ⟨by omega,by omega⟩ ⟨by simp,by simp;omega⟩,Option.bind_some]
   have e:[(⟨f.Kind.Kind,f.Kind.ap⟩:Kind)].findSome? (mI l)=mI l f.Kind:=ad8
   rw [e]
   exact Sq (SA _) _) (fun k=>by rw [yM,bw ad,Option.bind_some,bM];rfl) (by omega)
  have SL:yN F l (n:Int) F 0 =some (cr (c.bc.findSome? fun m=>(mt m).findSome? (jh l))):=each (l:=c.bc) (fun m=>(mt m).findSome? (jh l)) (by omega) (fun k i m hy=>by
   have hm:=List.mem_of_getElem? hy
   obtain ⟨bi,dA⟩:=h.method c hc m hm
   have SM:yO F l m F 0 =some (cr (m.cz.findSome? fun x=>jh l x.ap)):=each (l:=m.cz) (fun x=>jh l x.ap) (by omega) (fun k i x ai=>by
    rw [yO,bN (List.getElem?_eq_some_iff.1 ai).1,cond_true,bw ai,Option.bind_some,vo ⟨by omega,by omega⟩,Option.bind_some]
    unfold jh
    by_cases al:0 <=cK l x.ap
    · rw [if_pos al,decide_eq_false (show ¬ cK l x.ap < 0 by omega)];rfl
    · rw [if_neg al,decide_eq_true (show cK l x.ap < 0 by omega)];rfl) (fun k=>by rw [yO,bM];rfl) (by omega)
   have e:[(⟨m.Returns.Kind,m.Returns.ap⟩:Kind)].findSome? (mI l)=mI l m.Returns:=ad8
   rw [yN,bw ad,Option.bind_some,bN (List.getElem?_eq_some_iff.1 hy).1,cond_true,Option.bind_some,bw hy,Option.bind_some,OQ ⟨by omega,by omega⟩ ⟨by omega,by omega⟩,Option.bind_some,OQ ⟨by omega,by omega⟩ ⟨by simp,by simp;omega⟩,Option.bind_some,SM,e,mX]
   rw [Sq (SA _),Sq (q7 (fun k=>SA k) _),HE,HE,oX,mV]
   congr 1
   unfold mt
   rw [List.findSome?_append,List.findSome?_append,EZ,List.findSome?_map]
   cases dl:m.cw.findSome? (mI l) with
   | some a=>
     have:(m.cw.findSome? fun x=>(eb x).findSome? (jh l))=some a:=dl
     rw [this];rfl
   | none=>
     have:(m.cw.findSome? fun x=>(eb x).findSome? (jh l))=none:=dl
     rw [this];rfl) (fun k=>by rw [yN,bw ad,Option.bind_some,bM];rfl) (by omega)
  rw [vm,bN (List.getElem?_eq_some_iff.1 ad).1,cond_true,Ga,SL,mX,mX,HE,oX,mV]
  congr 1
  unfold ha
  rw [List.findSome?_append,EZ,EZ]
  rfl) (fun k=>by rw [vm,bM];rfl) (F:=F) (by omega)
 rw [this,qt,EZ]
end
end J
namespace J
theorem La {cI β:Type} [DecidableEq cI] {k:cI} {v:β}:∀ m:List (cI × β),(hg m k v).length=if (dI m k).isSome then m.length else m.length+ 1
 | []=>rfl
 | p::r=>by
   simp only [hg,dI]
   by_cases h:p.1 =k
   · simp [h]
   · simp only [if_neg h,List.length_cons,La r]
     split <;> rfl
theorem Gq {cI β:Type} [DecidableEq cI] {k s:cI} {v:β}:∀ m:List (cI × β),(dI (hg m k v) s).isSome=true ↔ s=k\/(dI m s).isSome=true
 | []=>by
   simp only [hg,dI]
   by_cases h:k=s
   · simp [h]
   · simp [h];exact fun e=>h e.symm
 | p::r=>by
   have bq:=Gq (k:=k) (s:=s) (v:=v) r
   simp only [hg]
   by_cases h:p.1 =k
   · rw [if_pos h]
     simp only [dI]
     by_cases e:k=s
     · simp [e]
     · have al: ¬ p.1 =s:=fun x=>e (h.symm.trans x)
       rw [if_neg e,if_neg al]
       constructor
       · exact fun x=>.inr x
       · rintro (x | x)
         · exact absurd x.symm e
         · exact x
   · rw [if_neg h]
     simp only [dI]
     by_cases e:p.1 =s
     · simp [e]
     · rw [if_neg e,if_neg e];exact bq
def sU (dP:List (List UInt8)):Option Int:=if dP.Nodup then none else some 6
section
variable {F:Nat} {l:List ap}
theorem af' (aD:1100 <F) {dP:List (List UInt8)} (aJ:dP.length<= 1000):CT F dP=some (decide (¬ dP.Nodup)):=by
 have key:∀ (d i k:Nat) (m:List (List UInt8 × Bool)),i+d=dP.length->d <k->(∀ s,(dI m s).isSome=true ↔ s ∈ dP.take i)->m.length<=i->(m.length=i ↔ (dP.take i).Nodup) ->
  ∃ eU,wL dP k m (i:Int)=some eU/\eU.length<=dP.length/\(eU.length=dP.length ↔ dP.Nodup):=by
  intro d
  induction d with
  | zero=>
    intro i k m hi aj I aa aw
    obtain ⟨k,rfl⟩:∃ k',k=k'+ 1 :=⟨k - 1,by omega⟩
    have:i=dP.length:=by omega
    subst this
    rw [List.take_length] at aw
    exact ⟨m,by rw [wL,bM];rfl,aa,aw⟩
  | succ d bq=>
    intro i k m hi aj I aa aw
    obtain ⟨k,rfl⟩:∃ k',k=k'+ 1 :=⟨k - 1,by omega⟩
    have c':i <dP.length:=by omega
    have ak:dP.take (i+ 1)=dP.take i++[dP[i]]:=by rw [List.take_add_one,List.getElem?_eq_getElem c'];rfl
    rw [wL,bN c',cond_true,bw (List.getElem?_eq_getElem c'),Option.bind_some,eP c' (by omega)]
    refine bq (i+ 1) k _ (by omega) (by omega) (fun s=>?_) ?_ ?_
    · rw [Gq,I,ak,List.mem_append,List.mem_singleton]
      constructor
      · rintro (h | h)
        · exact .inr h
        · exact .inl h
      · rintro (h | h)
        · exact .inr h
        · exact .inl h
    · rw [La];split <;> omega
    · rw [La,ak,List.nodup_append]
      by_cases hm:(dI m dP[i]).isSome=true
      · rw [if_pos hm]
        have:=(I dP[i]).1 hm
        constructor
        · intro h;omega
        · rintro ⟨_,_,h⟩;exact absurd rfl (h _ this _ (by simp))
      · rw [if_neg hm]
        have:dP[i] ∉ dP.take i:=fun h=>hm ((I dP[i]).2 h)
        constructor
        · intro h
          exact ⟨aw.1 (by omega),by simp,fun a aK b ag e=>by
           rw [List.mem_singleton] at ag;subst ag;exact this (e ▸ aK)⟩
        · rintro ⟨h,_,_⟩
          have:=aw.2 h
          omega
 obtain ⟨eU,I,aa,aw⟩:=key dP.length 0 F [] (by omega) (by omega) (fun s=>by simp [dI]) (by simp) (by simp)
 unfold CT
 rw [show (0 :Int)=((0 :Nat):Int) from rfl,I,Option.bind_some]
 congr 1
 by_cases aM:dP.Nodup
 · have:=aw.2 aM
   rw [decide_eq_false (by omega),decide_eq_false (by simp [aM])]
 · have:eU.length≠dP.length:=fun e=>aM (aw.1 e)
   rw [decide_eq_true (by omega),decide_eq_true aM]
def Pm {α:Type} (nm:α->List UInt8) (r:List α):Option Int:=(List.range r.length).findSome? fun k=>(List.range k).findSome? fun j=>if (r[j]?).map nm=(r[k]?).map nm then some 6 else none
theorem Zn {α:Type} (nm:α->List UInt8) (r:List α):Pm nm r=sU (r.map nm):=by
 have ah:Pm nm r=none\/Pm nm r=some 6 :=q7 (fun k=>q7 (fun j=>by split <;> simp) _) _
 unfold sU
 by_cases aM:(r.map nm).Nodup
 · rw [if_pos aM]
   rcases ah with h | h
   · exact h
   · exfalso
     obtain ⟨k,aj,I⟩:=List.exists_of_findSome?_eq_some h
     obtain ⟨j,aI,aa⟩:=List.exists_of_findSome?_eq_some I
     simp only [List.mem_range] at aj aI
     split at aa
     · rename_i e
       have:=List.pairwise_iff_getElem.1 aM j k (by simp;omega) (by simpa using aj) aI
       apply this
       rw [List.getElem?_eq_getElem (by omega),List.getElem?_eq_getElem aj] at e
       simpa using e
     · cases aa
 · rw [if_neg aM]
   rcases ah with h | h
   · exfalso
     apply aM
     refine List.pairwise_iff_getElem.2 fun j k aI aj rm e=>?_
     have I:=List.findSome?_eq_none_iff.1 h k (by simpa using aj)
     have aa:=List.findSome?_eq_none_iff.1 I j (by simpa using rm)
     simp only [List.length_map] at aI aj
     rw [List.getElem?_eq_getElem aI,List.getElem?_eq_getElem aj] at aa
     simp only [List.getElem_map] at e
     rw [if_pos (by simp [e])] at aa
     cases aa
   · exact h
theorem aph (aD:1100 <F) (r:List Field) (aE:r.length<= 1000):yF F r F 0 =some (cr (sU (r.map (·.Name)))):=by
 rw [<-Zn]
 exact jM _ (by omega) (fun k i hi=>by
  have SD:yG r (i:Int) F 0 =some (cr ((List.range i).findSome? fun j=>if (r[j]?).map (·.Name)=(r[i]?).map (·.Name) then some 6 else none)):=jM _ (by omega) (fun k j aI=>by
   rw [yG,bN aI,cond_true,bw (List.getElem?_eq_getElem (show j <r.length by omega)),Option.bind_some,bw (List.getElem?_eq_getElem hi),Option.bind_some,List.getElem?_eq_getElem (show j <r.length by omega),List.getElem?_eq_getElem hi]
   simp only [Option.map_some,Option.some.injEq]
   by_cases e:r[j].Name=r[i].Name
   · rw [decide_eq_true e,if_pos e];rfl
   · rw [decide_eq_false e,if_neg e];rfl) (fun k=>by rw [yG,bM];rfl) (by omega)
  rw [yF,bN hi,cond_true,SD,mX,oX,mV]) (fun k=>by rw [yF,bM];rfl) (by omega)
theorem api (aD:1100 <F) (c:ap) (aE:c.bc.length<= 1000):qU F c F 0 =some (cr (sU (c.bc.map (·.Name)))):=by
 rw [<-Zn]
 exact jM _ (by omega) (fun k i hi=>by
  have SD:qV c (i:Int) F 0 =some (cr ((List.range i).findSome? fun j=>if (c.bc[j]?).map (·.Name)=(c.bc[i]?).map (·.Name) then some 6 else none)):=jM _ (by omega) (fun k j aI=>by
   rw [qV,bN aI,cond_true,bw (List.getElem?_eq_getElem (show j <c.bc.length by omega)),Option.bind_some,bw (List.getElem?_eq_getElem hi),Option.bind_some,List.getElem?_eq_getElem (show j <c.bc.length by omega),List.getElem?_eq_getElem hi]
   simp only [Option.map_some,Option.some.injEq]
   by_cases e:c.bc[j].Name=c.bc[i].Name
   · rw [decide_eq_true e,if_pos e];rfl
   · rw [decide_eq_false e,if_neg e];rfl) (fun k=>by rw [qV,bM];rfl) (by omega)
  rw [qU,bN hi,cond_true,SD,mX,oX,mV]) (fun k=>by rw [qU,bM];rfl) (by omega)
def xa (l:List ap) (i:Nat):Option Int:=(sU ((fi l i).map (·.Name))).or (sU ((eM l i).map (·.Name)))
theorem aaQ (h:ht l) {n:Int} (aQ:0 <=n) (I:n <l.length):(fi l n).length<= 60 :=by
 obtain ⟨_,aq,_⟩:=h.chain aQ I
 have:=P6 h.right (dv l n).reverse
 unfold fi
 simp only [List.length_reverse] at this
 omega
theorem Zo {dP:List (List UInt8)} {Y:Option (Way Int Unit)}:cond (decide (¬ dP.Nodup)) (some (.out 6)) Y=gC (sU dP) Y:=by
 unfold sU
 by_cases h:dP.Nodup
 · rw [if_pos h,decide_eq_false (by simp [h])];rfl
 · rw [if_neg h,decide_eq_true h];rfl
theorem adz {i:Nat} {c:ap} (h:l[i]? =some c):eM l (i:Int)=c.bc:=by unfold eM;rw [bw h];rfl
theorem ax9 (aD:1100 <F) (h:ht l):yP F l F 0 =some (cr ((List.range l.length).findSome? (xa l))):=by
 have hlen:=h.right.len
 exact jM _ (by omega) (fun k i hi=>by
  obtain ⟨c,ad⟩:∃ x,l[i]? =some x:=⟨l[i],List.getElem?_eq_getElem hi⟩
  have ni:=h.right.methods c (List.mem_of_getElem? ad)
  have abM:=aaQ h (n:=(i:Int)) (by omega) (by omega)
  rw [yP,bN hi,cond_true,h.Vf aD (by omega) (by omega),Option.bind_some,aph aD _ (by omega),mX,bw ad,Option.bind_some,api aD c (by omega),mX,HE,oX,mV]
  unfold xa
  rw [adz ad]) (fun k=>by rw [yP,bM];rfl) (by omega)
theorem ax8 (aD:1100 <F) (h:ht l) (m:List (List UInt8 × Int)):Gg F ⟨l,m,dd l⟩=some (((List.range l.length).findSome? (xa l)).getD 0):=by
 have hlen:=h.right.len
 have:=jM (n:=l.length) (L:=wH F ⟨l,m,dd l⟩) (xa l) (by omega) (fun k i hi=>by
  obtain ⟨c,ad⟩:∃ x,l[i]? =some x:=⟨l[i],List.getElem?_eq_getElem hi⟩
  have ni:=h.right.methods c (List.mem_of_getElem? ad)
  have abM:=aaQ h (n:=(i:Int)) (by omega) (by omega)
  have cB:ub (fi l i) F [] 0 =some ((fi l i).map (·.Name)):=by
   have:=sH (l:=fi l i) (fun k acc dm=>ub (fi l i) k acc (dm:Int)) (fun f=>[f.Name]) 1 3000 (fun f _=>by simp) (fun k j x acc ad s7=>by
    have aI:=(List.getElem?_eq_some_iff.1 ad).1
    rw [ub,bN aI,cond_true,bw ad,Option.bind_some,jq (by simp only [List.length_cons,List.length_nil];omega),Option.bind_some,eP aI (by omega)]) (fun k acc=>by rw [ub,bM];rfl) (F:=F) (by omega) (acc:=[]) (by simp;omega)
   rw [show (0 :Int)=((0 :Nat):Int) from rfl,this]
   congr 1
   rw [List.nil_append]
   induction fi l i with
   | nil=>rfl
   | cons x r bq=>rw [List.flatMap_cons,bq];rfl
  have iY:p1 c F [] 0 =some (c.bc.map (·.Name)):=by
   have:=sH (l:=c.bc) (fun k acc dm=>p1 c k acc (dm:Int)) (fun f=>[f.Name]) 1 3000 (fun f _=>by simp) (fun k j x acc ad s7=>by
    have aI:=(List.getElem?_eq_some_iff.1 ad).1
    rw [p1,bN aI,cond_true,bw ad,Option.bind_some,jq (by simp only [List.length_cons,List.length_nil];omega),Option.bind_some,eP aI (by omega)]) (fun k acc=>by rw [p1,bM];rfl) (F:=F) (by omega) (acc:=[]) (by simp;omega)
   rw [show (0 :Int)=((0 :Nat):Int) from rfl,this]
   congr 1
   rw [List.nil_append]
   induction c.bc with
   | nil=>rfl
   | cons x r bq=>rw [List.flatMap_cons,bq];rfl
  rw [wH]
  have lF:decide ((i:Int) <((⟨l,m,dd l⟩:bj).l.length:Int))=true:=bN (n:=l.length) hi
  have as6:=h.SZ aD m (n:=(i:Int)) (by omega) (by omega)
  rw [lF,cond_true]
  show cT (α:=Unit) ((idx l (i:Int)).bind fun l6=>(rF F ⟨l,m,dd l⟩ (i:Int)).bind fun nO=>_) _=_
  rw [bw ad,Option.bind_some,as6,Option.bind_some,cB,Option.bind_some,iY,Option.bind_some,af' aD (by simp;omega),Option.bind_some,af' aD (by simp;omega),Option.bind_some,Zo,Zo,HE,oX,mV]
  unfold xa
  rw [adz ad]) (fun k=>by
   rw [wH]
   show cond (decide ((l.length:Int) <(l.length:Int))) _ _=_
   rw [bM];rfl) (F:=F) (by omega)
 unfold Gg
 rw [this]
 cases (List.range l.length).findSome? (xa l) <;> rfl
theorem afB {a b:List Kind} (aK:a.length<= 1000) (ag:b.length<= 1000) (aD:1100 <F):sF F a b=some (decide (a=b)):=by
 unfold sF
 by_cases aq:a.length=b.length
 · rw [decide_eq_true (show (a.length:Int)=(b.length:Int) by omega)]
   simp only [Bool.not_true,cond_false]
   have l1:n' a b F 0 =some (cr ((List.range a.length).findSome? fun i=>if a[i]? =b[i]? then none else some false)):=jM _ (by omega) (fun k i hi=>by
    rw [n',bN hi,cond_true,bw (List.getElem?_eq_getElem hi),Option.bind_some,bw (List.getElem?_eq_getElem (show i <b.length by omega)),Option.bind_some,List.getElem?_eq_getElem hi,List.getElem?_eq_getElem (show i <b.length by omega)]
    simp only [Option.some.injEq]
    by_cases e:a[i]=b[i]
    · rw [decide_eq_true e,if_pos e];rfl
    · rw [decide_eq_false e,if_neg e];rfl) (fun k=>by rw [n',bM];rfl) (by omega)
   rw [l1,jd]
   cases af:(List.range a.length).findSome? fun i=>if a[i]? =b[i]? then none else some false with
   | some e=>
     obtain ⟨i,hi,I⟩:=List.exists_of_findSome?_eq_some af
     split at I
     · cases I
     · rename_i b3
       injection I with I
       subst I
       rw [decide_eq_false (fun e=>b3 (by rw [e]))];rfl
   | none=>
     rw [decide_eq_true];rfl
     apply List.ext_getElem?
     intro i
     by_cases hi:i <a.length
     · have:=List.findSome?_eq_none_iff.1 af i (by simpa using hi)
       split at this
       · assumption
       · cases this
     · rw [List.getElem?_eq_none (by omega),List.getElem?_eq_none (by omega)]
 · rw [decide_eq_false (show ¬ (a.length:Int)=(b.length:Int) by omega),decide_eq_false (fun e=>aq (by rw [e]))];rfl
theorem aqH {a b:List Kind} (aK:a.length<= 1000) (ag:b.length<= 1000) (aD:1100 <F):Ho F a b=some (decide (a=b)):=by
 rw [<-afB aK ag aD]
 unfold Ho sF
 have e:∀ k n,AI a b k n=n' a b k n:=by
  intro k
  induction k with
  | zero=>intro n;rfl
  | succ k bq=>intro n;rw [AI,n'];simp only [bq]
 rw [e]
def Pa (a b:Method):Bool:=decide (a.Name=b.Name) && (a.Static || b.Static || !decide (a.cw=b.cw) || !decide (a.Returns=b.Returns))
def og (a b:Method):Option Int:=if Pa a b then some 4 else none
def sS (l:List ap) (c:ap) (u:Int):Option Int:=c.bc.findSome? fun a=>(eM l u).findSome? (og a)
def CX (l:List ap) (c:ap) (i:Nat):Option Int:=(dv l i).tail.findSome? (sS l c)
theorem aoN (a b:Method):og a b=none\/og a b=some 4 :=by unfold og;split <;> simp
theorem Y2 (c:ap) (u:Int):sS l c u=none\/sS l c u=some 4 :=q7 (fun _=>q7 (fun _=>aoN _ _) _) _
theorem arC {α:Type} {g:α->Option Int} {e:Int} (ax:∀ x,g x=none\/g x=some e) (r:List α):r.reverse.findSome? g=r.findSome? g:=by
 rcases q7 ax r with h | h
 · rw [h,List.findSome?_eq_none_iff]
   intro x ad
   exact List.findSome?_eq_none_iff.1 h x (by simpa using ad)
 · rw [h]
   rcases q7 ax r.reverse with aa | aa
   · obtain ⟨x,ad,aw⟩:=List.exists_of_findSome?_eq_some h
     have:=List.findSome?_eq_none_iff.1 aa x (by simpa using ad)
     rw [aw] at this;cases this
   · exact aa
theorem awY (aD:1100 <F) (h:ht l) (m:List (List UInt8 × Int)):Gf F ⟨l,m,dd l⟩=some (((List.range l.length).findSome? fun i=>(l[i]?).bind fun c=>CX l c i).getD 0):=by
 have hlen:=h.right.len
 have:=jM (n:=l.length) (L:=wE F ⟨l,m,dd l⟩) (fun i=>(l[i]?).bind fun c=>CX l c i) (by omega) (fun k i hi=>by
  obtain ⟨c,ad⟩:∃ x,l[i]? =some x:=⟨l[i],List.getElem?_eq_getElem hi⟩
  have rc:=List.mem_of_getElem? ad
  have ni:=h.right.methods c rc
  obtain ⟨Cq,hB,kf⟩:=h.chain (n:=(i:Int)) (by omega) (by omega)
  obtain ⟨r,aE⟩:=VQ Cq (by omega)
  have z8:∀ (a:Method),a ∈ c.bc-> ∀ (u:ap),u ∈ l->p0 F a u F 0 =some (cr (u.bc.findSome? (og a))):=fun a aK u hu=>each (og a) (by have:=h.right.methods u hu;omega) (fun k j b ag=>by
   have Fm:=List.mem_of_getElem? ag
   have asu:=h.right.method c rc a aK
   have Ki:=h.right.method u hu b Fm
   rw [p0,bN (List.getElem?_eq_some_iff.1 ag).1,cond_true,bw ag,Option.bind_some]
   unfold KZ
   simp only
   rw [aqH (by omega) (by omega) aD]
   unfold og Pa
   show cond _ (Option.bind (cond _ (Option.bind _ fun r=>cond r (some (decide (a.Returns=b.Returns))) _) _) _) _=_
   by_cases aJ:a.Name=b.Name
   · rw [decide_eq_true aJ]
     simp only [Option.bind_some,cond_true,Bool.true_and]
     cases a.Static <;> cases b.Static <;> cases decide (a.cw=b.cw) <;> cases decide (a.Returns=b.Returns) <;> rfl
   · rw [decide_eq_false aJ];rfl) (fun k=>by rw [p0,bM];rfl) (by have:=h.right.methods u hu;omega)
  have iY:∀ (x:Int),0 <=x->x <l.length->wG F ⟨l,m,dd l⟩ c x F 0 =some (cr (sS l c x)):=fun x aQ I=>each (fun a=>(eM l x).findSome? (og a)) (by omega) (fun k j a aK=>by
   obtain ⟨u,hu,_⟩:=uF (l:=l) aQ I
   have KD:u ∈ l:=by obtain ⟨_,_,aa⟩:=km hu;exact List.mem_of_getElem? aa
   have hm:eM l x=u.bc:=by unfold eM;rw [hu];rfl
   rw [wG,bN (List.getElem?_eq_some_iff.1 aK).1,cond_true,bw aK,Option.bind_some]
   show cT (α:=Unit) ((idx l x).bind fun ld=>_) _=_
   rw [hu,Option.bind_some,z8 a (List.mem_of_getElem? aK) u KD,mX,oX,mV,hm]) (fun k=>by rw [wG,bM];rfl) (by omega)
  have cB:wF F ⟨l,m,dd l⟩ c (dv l i).tail F 0 =some (cr ((dv l i).tail.findSome? (sS l c))):=each (sS l c) (by simp;omega) (fun k j x R'=>by
   have ag:=kf x (List.mem_of_mem_tail (List.mem_of_getElem? R'))
   rw [wF,bN (List.getElem?_eq_some_iff.1 R').1,cond_true,bw R',Option.bind_some,iY x ag.1 ag.2,mX,oX,mV]) (fun k=>by rw [wF,bM];rfl) (by simp;omega)
  rw [wE]
  have lF:decide ((i:Int) <((⟨l,m,dd l⟩:bj).l.length:Int))=true:=bN (n:=l.length) hi
  have ats:=h.SY aD m (n:=(i:Int)) (by omega) (by omega)
  rw [lF,cond_true]
  show cT (α:=Unit) ((idx l (i:Int)).bind fun hR=>(pY F ⟨l,m,dd l⟩ (i:Int)).bind fun U3=>_) _=_
  have rf:cut (dv l i) 1 ((dv l i).length:Int)=some (dv l i).tail:=by
   unfold cut
   rw [if_pos (by rw [aE];simp only [List.length_cons];omega)]
   rw [aE];simp
  rw [bw ad,Option.bind_some,ats,Option.bind_some,rf,Option.bind_some,cB,mX,oX,mV,ad]
  rfl) (fun k=>by
   rw [wE]
   show cond (decide ((l.length:Int) <(l.length:Int))) _ _=_
   rw [bM];rfl) (F:=F) (by omega)
 unfold Gf
 rw [this]
 cases (List.range l.length).findSome? (fun i=>(l[i]?).bind fun c=>CX l c i) <;> rfl
theorem awZ (aD:1100 <F) (h:ht l):yH F l F 0 =some (cr ((List.range l.length).findSome? fun i=>(l[i]?).bind fun c=>CX l c i)):=by
 have hlen:=h.right.len
 exact jM _ (by omega) (fun k i hi=>by
  obtain ⟨c,ad⟩:∃ x,l[i]? =some x:=⟨l[i],List.getElem?_eq_getElem hi⟩
  have rc:=List.mem_of_getElem? ad
  have ni:=h.right.methods c rc
  obtain ⟨Cq,hB,kf⟩:=h.chain (n:=(i:Int)) (by omega) (by omega)
  obtain ⟨r,aE⟩:=VQ Cq (by omega)
  have at2:(dv l i).reverse=(dv l i).tail.reverse++[(i:Int)]:=by rw [aE];simp
  have avj:yI F l (i:Int) (dv l i).reverse F 0 =some (cr ((dv l i).tail.reverse.findSome? (sS l c))):=each (l:=(dv l i).tail.reverse) (sS l c) (by simp;omega) (fun k u x Sb=>by
   have KD:=(List.getElem?_eq_some_iff.1 Sb).1
   have ag:=kf x (List.mem_of_mem_tail (by simpa using List.mem_of_getElem? Sb))
   obtain ⟨w,hw,_⟩:=uF (l:=l) ag.1 ag.2
   have FY:w ∈ l:=by obtain ⟨_,_,aa⟩:=km hw;exact List.mem_of_getElem? aa
   have aG9:=h.right.methods w FY
   have hm:eM l x=w.bc:=by unfold eM;rw [hw];rfl
   have aci:(dv l i).reverse[u]? =some x:=by rw [at2,List.getElem?_append_left KD];exact Sb
   have avk:yJ F l (i:Int) (dv l i).reverse (u:Int) F 0 =some (cr (sS l c x)):=each (l:=c.bc) (fun a=>(eM l x).findSome? (og a)) (by omega) (fun k j a aK=>by
    have asx:=List.mem_of_getElem? aK
    have avp:vk F l (i:Int) (dv l i).reverse (u:Int) (j:Int) F 0 =some (cr (w.bc.findSome? (og a))):=each (l:=w.bc) (og a) (by omega) (fun k q b ag=>by
     have Fm:=List.mem_of_getElem? ag
     have asu:=h.right.method c rc a asx
     have Ki:=h.right.method w FY b Fm
     rw [vk]
     simp only [bw aci,Option.bind_some,hw,bN (List.getElem?_eq_some_iff.1 ag).1,cond_true,bw ad,bw aK,bw ag]
     rw [afB (by omega) (by omega) aD]
     unfold og Pa
     show cond _ (cond _ _ (Option.bind _ fun r=>cond (!r) _ (cond (!decide (a.Returns=b.Returns)) _ _))) _=_
     by_cases aJ:a.Name=b.Name
     · rw [decide_eq_true aJ]
       simp only [Option.bind_some,cond_true,Bool.true_and]
       cases a.Static <;> cases b.Static <;> cases decide (a.cw=b.cw) <;> cases decide (a.Returns=b.Returns) <;> rfl
     · rw [decide_eq_false aJ];rfl) (fun k=>by rw [vk];simp only [bw aci,Option.bind_some,hw,bM];rfl) (by omega)
    rw [yJ,bw ad,Option.bind_some,bN (List.getElem?_eq_some_iff.1 aK).1,cond_true,avp,mX,oX,mV,hm]) (fun k=>by rw [yJ,bw ad,Option.bind_some,bM];rfl) (by omega)
   have Fo:decide ((u:Int) <aA (((dv l i).reverse.length:Int) - 1))=true:=by
    rw [dt (by omega) (by simp;omega)]
    simp only [List.length_reverse,List.length_tail] at KD
    exact decide_eq_true (by simp only [List.length_reverse];omega)
   rw [yI,Fo,cond_true,avk,mX,oX,mV]) (fun k=>by
    have Fo:decide (((dv l i).tail.reverse.length:Int) <aA (((dv l i).reverse.length:Int) - 1))=false:=by
     rw [dt (by omega) (by simp;omega)]
     exact decide_eq_false (by rw [aE];simp)
    rw [yI,Fo];rfl) (by simp;omega)
  rw [yH,bN hi,cond_true,MF aD h.right (by omega),Option.bind_some,avj,mX,oX,mV,ad,arC (Y2 c)]
  rfl) (fun k=>by rw [yH,bM];rfl) (by omega)
end
end J
namespace J
def wd (W:List Int) (i:Nat):Int:=(W[i]?).getD 0
def jf (k:aU) (t:Int):List Field:=(k.Fields[(t - 3).toNat]?).getD []
def hC (k:aU) (t:Int):Bool:=decide (1 <=t) && decide (t<= 2 +k.ba.length)
def isLen (k:aU) (t n:Int):Bool:=decide (0 <=n) && decide (n<= 500) && (decide (t < 3) || decide (n=(jf k t).length))
def h4 (k:aU) (t:Int) (j:Nat):Bool:=decide (t= 2) || (decide (3 <=t) && ((jf k t)[j]?.map fun f=>!decide (f.Kind.Kind= 1)).getD false)
structure g7 (k:aU):Prop where
 fB:k.ba.length<= 1000
 mv:k.Fields.length=k.ba.length
theorem jv {W:List Int} {i:Nat} (h:i <W.length):idx W (i:Int)=some (wd W i):=by
 rw [bw (List.getElem?_eq_getElem h)];unfold wd;rw [List.getElem?_eq_getElem h];rfl
theorem nv {W:List Int} {a:Int} {i:Nat} (e:a=(i:Int)) (h:i <W.length):idx W a=some (wd W i):=by rw [e];exact jv h
theorem auU {k:aU} {t:Int}:hC k t=true ↔ 1 <=t/\t<= 2 +k.ba.length:=by simp [hC]
theorem tF {k:aU} {t n:Int}:isLen k t n=true ↔ (0 <=n/\n<= 500)/\(t < 3 \/n=(jf k t).length):=by simp [isLen]
section
variable {k:aU}
theorem afL (h:g7 k) (t:Int):tg ⟨k⟩ t=some (hC k t):=by
 have hc:=h.fB
 unfold tg np hC
 have e:aA (aA (3 +(k.ba.length:Int)) - 1)= 2 +k.ba.length:=by rw [dt (n:=3 +(k.ba.length:Int)) (by omega) (by omega),dt (by omega) (by omega)];omega
 simp only [e,Option.bind_some]
 by_cases I:t= 1
 · subst I;simp;omega
 by_cases aa:t= 2
 · subst aa;simp;omega
 rw [show ((decide (t= 1)) || (decide (t= 2)))=false by simp [I,aa],cond_false,Option.some.injEq,Bool.eq_iff_iff]
 simp;omega
theorem My (h:g7 k) {t:Int} (aO:hC k t=true) (aw: ¬ t < 3):idx k.Fields (aA (t - 3))=some (jf k t):=by
 obtain ⟨I,aa⟩:=auU.1 aO
 have hc:=h.fB;have af:=h.mv
 rw [dt (by omega) (by omega)]
 unfold idx jf
 rw [if_pos (by omega)]
 have:(t - 3).toNat <k.Fields.length:=by omega
 rw [List.getElem?_eq_getElem this];rfl
theorem afM (h:g7 k) {t:Int} (aO:hC k t=true) (n:Int):th ⟨k⟩ t n=some (isLen k t n):=by
 unfold th np isLen
 simp only [Option.bind_some]
 cases ag:(decide (0 <=n) && decide (n<= 500)) with
 | false=>simp
 | true=>
   by_cases aw:t < 3
   · simp [aw]
   · rw [My h aO aw];simp [aw]
theorem afN (h:g7 k) {t:Int} (aO:hC k t=true) {n:Int} (aJ:isLen k t n=true) {j:Nat} (aI:(j:Int) <n):tj ⟨k⟩ t (j:Int)=some (h4 k t j):=by
 unfold tj h4
 obtain ⟨_,aq⟩:=tF.1 aJ
 by_cases aa:t= 2
 · simp [aa]
 by_cases aw:t < 3
 · have: ¬ 3 <=t:=by omega
   simp [aa,this]
 · have aq:=aq.resolve_left aw
   have Rc:3 <=t:=by omega
   have rl:j <(jf k t).length:=by omega
   rw [My h aO aw,Option.bind_some,bw (List.getElem?_eq_getElem rl),List.getElem?_eq_getElem rl]
   simp [aa,Rc]
inductive fw (k:aU) (W:List Int) (to:Nat):Nat->List Int->Prop
 | nil:fw k W to to []
 | cons {q:Nat} {r:List Int}:hC k (wd W q)=true->isLen k (wd W q) (wd W (q+ 1))=true->q+ 3 +(wd W (q+ 1)).toNat<=to->fw k W to (q+ 3 +(wd W (q+ 1)).toNat) r->fw k W to q ((q:Int)::r)
theorem fw.inv {W:List Int} {to q:Nat} {L:List Int} (h:fw k W to q L) (aT:q <to):∃ r,L=(q:Int)::r/\hC k (wd W q)=true/\isLen k (wd W q) (wd W (q+ 1))=true/\q+ 3 +(wd W (q+ 1)).toNat<=to/\fw k W to (q+ 3 +(wd W (q+ 1)).toNat) r:=by
 cases h with
 | nil=>omega
 | cons I aa aw bi=>exact ⟨_,rfl,I,aa,aw,bi⟩
theorem aBP (v:bd) (ao:g7 v.S.K) {to:Nat} (gv:to<=v.H.Words.length) (h3:v.H.Words.length<= 5000):∀ (f q:Nat) (acc:List Int) (m:List (Int × Bool)),q<=to->to - q <f->acc.length+(to - q)<= 5000 ->(∀ p ∈ m,p.1 <(q:Int)) ->
 (∃ L,fw v.S.K v.H.Words to q L/\nn (to:Int) v f acc m (q:Int)=some (.go (acc++L,m++L.map fun a=>(a,true)))) \/
 ((∀ L,¬ fw v.S.K v.H.Words to q L)/\ ∃ eU,nn (to:Int) v f acc m (q:Int)=some (.out ([],false,{ v with dE:=eU }))):=by
 intro f
 induction f with
 | zero=>intro q acc m _ h;omega
 | succ f bq=>
   intro q acc m aT af s7 hm
   rw [nn]
   by_cases bE:q <to
   case neg=>
    have:q=to:=by omega
    subst this
    refine .inl ⟨[],.nil,?_⟩
    rw [bM];simp
   rw [bN bE,cond_true,dt (n:=(q:Int)+ 3) (by omega) (by omega)]
   by_cases aw:(to:Int) <(q:Int)+ 3
   · rw [decide_eq_true aw]
     refine .inr ⟨fun L c0=>?_,m,rfl⟩
     obtain ⟨_,_,_,_,h,_⟩:=c0.inv bE
     omega
   rw [decide_eq_false aw,cond_false,jv (by omega),Option.bind_some,dt (n:=(q:Int)+ 1) (by omega) (by omega),nv (i:=q+ 1) (by omega) (by omega),Option.bind_some]
   have ak:tg (⟨(⟨v.S.K.ba,v.S.K.a8,v.S.K.Fields,v.S.K.Names,v.S.K.a9⟩:aU)⟩:b') (wd v.H.Words q)=some (hC v.S.K (wd v.H.Words q)):=afL ao _
   rw [ak,Option.bind_some]
   cases aO:hC v.S.K (wd v.H.Words q) with
   | false=>
     refine .inr ⟨fun L c0=>?_,m,rfl⟩
     obtain ⟨_,_,h,_⟩:=c0.inv bE
     rw [aO] at h;cases h
   | true=>
     have al:th (⟨(⟨v.S.K.ba,v.S.K.a8,v.S.K.Fields,v.S.K.Names,v.S.K.a9⟩:aU)⟩:b') (wd v.H.Words q) (wd v.H.Words (q+ 1))=some (isLen v.S.K (wd v.H.Words q) (wd v.H.Words (q+ 1))):=afM ao aO _
     rw [al,Option.bind_some,Bool.not_true,cond_false]
     cases aq:isLen v.S.K (wd v.H.Words q) (wd v.H.Words (q+ 1)) with
     | false=>
       refine .inr ⟨fun L c0=>?_,m,rfl⟩
       obtain ⟨_,_,_,h,_⟩:=c0.inv bE
       rw [aq] at h;cases h
     | true=>
       obtain ⟨⟨pV,l1⟩,_⟩:=tF.1 aq
       rw [Bool.not_true,Bool.false_or,dt (n:=(q:Int)+ 3 +wd v.H.Words (q+ 1)) (by omega) (by omega)]
       by_cases zE:(to:Int) <(q:Int)+ 3 +wd v.H.Words (q+ 1)
       · rw [decide_eq_true zE]
         refine .inr ⟨fun L c0=>?_,m,rfl⟩
         obtain ⟨_,_,_,_,h,_⟩:=c0.inv bE
         omega
       rw [decide_eq_false zE,cond_false,jq (by simp;omega),Option.bind_some,dt (n:=3 +wd v.H.Words (q+ 1)) (by omega) (by omega),dt (n:=(q:Int)+(3 +wd v.H.Words (q+ 1))) (by omega) (by omega)]
       have FM:dI m (q:Int)=none:=by
        clear bq ak al
        induction m with
        | nil=>rfl
        | cons p r bq=>
          have aN:=hm p List.mem_cons_self
          rw [dI,if_neg (by omega)]
          exact bq (fun x ad=>hm x (List.mem_cons_of_mem _ ad))
       rw [S' FM,show (q:Int)+(3 +wd v.H.Words (q+ 1))=((q+ 3 +(wd v.H.Words (q+ 1)).toNat:Nat):Int) by omega]
       rcases bq (q+ 3 +(wd v.H.Words (q+ 1)).toNat) (acc++[(q:Int)]) (m++[((q:Int),true)]) (by omega) (by omega) (by simp;omega) (fun p aN=>by
        rcases List.mem_append.1 aN with aN | aN
        · have:=hm p aN;omega
        · simp at aN;subst aN;simp;omega) with ⟨L,c0,e⟩ | ⟨aJ,eU,e⟩
       · refine .inl ⟨(q:Int)::L,.cons aO aq (by omega) c0,?_⟩
         rw [e];simp
       · refine .inr ⟨fun L c0=>?_,eU,e⟩
         obtain ⟨r,_,_,_,_,h⟩:=c0.inv bE
         exact aJ r h
theorem af7 {F:Nat} (aD:6000 <F) (v:bd) (ao:g7 v.S.K) {q to:Nat} (aT:q<=to) (gv:to<=v.H.Words.length) (h3:v.H.Words.length<= 5000) (hm:∀ p ∈ v.dE,p.1 <(q:Int)) :
 (∃ L,fw v.S.K v.H.Words to q L/\lG F v (q:Int) (to:Int)=some (L,true,{ v with dE:=v.dE++L.map fun a=>(a,true) })) \/
 ((∀ L,¬ fw v.S.K v.H.Words to q L)/\ ∃ eU,lG F v (q:Int) (to:Int)=some ([],false,{ v with dE:=eU })):=by
 unfold lG
 rcases aBP v ao gv h3 F q [] v.dE aT (by omega) (by simp;omega) hm with ⟨L,c0,e⟩ | ⟨aJ,eU,e⟩
 · exact .inl ⟨L,c0,by rw [e,oW];simp⟩
 · exact .inr ⟨aJ,eU,by rw [e,afI]⟩
end
end J
namespace J
def refs (k:aU) (W:List Int) (q:Nat):List Int:=(List.range (wd W (q+ 1)).toNat).flatMap fun j=>if h4 k (wd W q) j then [((q+ 3 +j:Nat):Int)] else []
theorem K7 {k:aU} {W:List Int} {q:Nat} {x:Int}:x ∈ refs k W q ↔ ∃ j,j <(wd W (q+ 1)).toNat/\h4 k (wd W q) j=true/\x=((q+ 3 +j:Nat):Int):=by
 unfold refs
 rw [List.mem_flatMap]
 constructor
 · rintro ⟨j,aI,ad⟩
   split at ad
   · rename_i h;exact ⟨j,by simpa using aI,h,by simpa using ad⟩
   · cases ad
 · rintro ⟨j,aI,h,e⟩
   exact ⟨j,by simpa using aI,by rw [if_pos h,e];simp⟩
section
variable {F:Nat} {k:aU}
theorem aA1 (aD:6000 <F) (v:bd) (ao:g7 v.S.K) {q:Nat} (aT:q+ 3 +(wd v.H.Words (q+ 1)).toNat<=v.H.Words.length) (h3:v.H.Words.length<= 5000) (aO:hC v.S.K (wd v.H.Words q)=true) (aq:isLen v.S.K (wd v.H.Words q) (wd v.H.Words (q+ 1))=true) :
 ou F v (q:Int)=some (refs v.S.K v.H.Words q):=by
 obtain ⟨⟨pV,l1⟩,_⟩:=tF.1 aq
 unfold ou
 rw [dt (n:=(q:Int)+ 1) (by omega) (by omega),nv (i:=q+ 1) (by omega) (by omega),Option.bind_some]
 generalize aJ:(wd v.H.Words (q+ 1)).toNat=n at aT
 have ET:wd v.H.Words (q+ 1)=(n:Int):=by omega
 have nr:=aq
 rw [ET] at nr ⊢
 have l1:=sH (l:=List.range n) (fun k acc i=>tl (q:Int) v (n:Int) k acc (i:Int)) (fun j=>if h4 v.S.K (wd v.H.Words q) j then [((q+ 3 +j:Nat):Int)] else []) 1 5000 (fun x _=>by split <;> simp) (fun f i x acc ad aK=>by
  have hi:i <n:=by have:=(List.getElem?_eq_some_iff.1 ad).1;simpa using this
  rw [List.getElem?_range hi] at ad
  simp only [Option.some.injEq] at ad
  subst ad
  rw [tl,bN hi,cond_true,jv (by omega),Option.bind_some]
  have ak:tj (⟨(⟨v.S.K.ba,v.S.K.a8,v.S.K.Fields,v.S.K.Names,v.S.K.a9⟩:aU)⟩:b') (wd v.H.Words q) (i:Int)=some (h4 v.S.K (wd v.H.Words q) i):=afN ao aO nr (by omega)
  rw [ak,Option.bind_some]
  show _=tl (q:Int) v (n:Int) f _ _
  cases h4 v.S.K (wd v.H.Words q) i with
  | true=>
    rw [cond_true,dt (n:=(q:Int)+ 3) (by omega) (by omega),dt (n:=(q:Int)+ 3 +i) (by omega) (by omega),jq (by simp;omega),Option.bind_some,Option.bind_some,eP hi (by omega),if_pos rfl]
    congr 2
  | false=>
    rw [cond_false,Option.bind_some,eP hi (by omega),if_neg (by decide),List.append_nil]) (fun f acc=>by
  rw [List.length_range,tl,bM];rfl) (F:=F) (by simp;omega) (acc:=[]) (by simp;omega)
 have l1:tl (q:Int) v (n:Int) F [] 0 =_:=l1
 rw [l1,Option.bind_some,List.nil_append,refs,aJ]
theorem Y4 (aD:10000 <F) {ls:List (List Int)} (I:ls.length<= 10) (aa:ls.flatten.length<= 10000):Du F ls=some ls.flatten:=by
 unfold Du
 have au_:∀ (d i f:Nat) (n:Int),i+d=ls.length->d <f-> 0 <=n->n+(ls.drop i).flatten.length<= 10000 ->uB ls f n (i:Int)=some (n+(ls.drop i).flatten.length):=by
  intro d
  induction d with
  | zero=>
    intro i f n h af aJ _
    obtain ⟨f,rfl⟩:∃ b7,f=b7+ 1 :=⟨f - 1,by omega⟩
    have:i=ls.length:=by omega
    subst this
    rw [uB,bM];simp
  | succ d bq=>
    intro i f n h af aJ ag
    obtain ⟨f,rfl⟩:∃ b7,f=b7+ 1 :=⟨f - 1,by omega⟩
    have hi:i <ls.length:=by omega
    rw [List.drop_eq_getElem_cons hi] at ag
    simp only [List.flatten_cons,List.length_append] at ag
    rw [uB,bN hi,cond_true,bw (List.getElem?_eq_getElem hi),Option.bind_some,dt (n:=n+((ls[i]).length:Int)) (by omega) (by omega),show decide (n+((ls[i]).length:Int) < 0)=false from decide_eq_false (by omega),cond_false,Option.bind_some,eP hi (by omega),bq (i+ 1) f _ (by omega) (by omega) (by omega) (by omega),List.drop_eq_getElem_cons hi]
    simp only [List.flatten_cons,List.length_append]
    congr 1;omega
 have bg:=au_ ls.length 0 F 0 (by omega) (by omega) (by omega) (by simp at aa ⊢;omega)
 have bg:uB ls F 0 0 =some (0 +((ls.drop 0).flatten.length:Int)):=bg
 rw [bg,Option.bind_some,List.drop_zero,Int.zero_add]
 have bf:Mr (ls.flatten.length:Int)=some []:=by
  unfold Mr
  rw [show decide ((ls.flatten.length:Int) < 0)=false from decide_eq_false (by omega),cond_false,Option.bind_some,dt (n:=(ls.flatten.length:Int) - 0) (by omega) (by omega),Int.sub_zero]
  by_cases aQ:(0 :Int) <(ls.flatten.length:Int)
  · rw [decide_eq_true aQ,cond_true]
    unfold EH
    rw [if_pos ⟨aQ,by omega⟩];rfl
  · rw [decide_eq_false aQ];rfl
 rw [bf,Option.bind_some]
 have au':∀ (d i f:Nat) (acc:List Int),i+d=ls.length->d <f->acc.length+(ls.drop i).flatten.length<= 10000 ->uC ls f acc (i:Int)=some (acc++(ls.drop i).flatten):=by
  intro d
  induction d with
  | zero=>
    intro i f n h af aJ
    obtain ⟨f,rfl⟩:∃ b7,f=b7+ 1 :=⟨f - 1,by omega⟩
    have:i=ls.length:=by omega
    subst this
    rw [uC,bM];simp
  | succ d bq=>
    intro i f acc h af ag
    obtain ⟨f,rfl⟩:∃ b7,f=b7+ 1 :=⟨f - 1,by omega⟩
    have hi:i <ls.length:=by omega
    rw [List.drop_eq_getElem_cons hi] at ag
    simp only [List.flatten_cons,List.length_append] at ag
    rw [uC,bN hi,cond_true,bw (List.getElem?_eq_getElem hi),Option.bind_some,jq (by omega),Option.bind_some,eP hi (by omega),bq (i+ 1) f _ (by omega) (by omega) (by simp only [List.length_append];omega),List.drop_eq_getElem_cons hi,List.flatten_cons,List.append_assoc]
 have bf:=au' ls.length 0 F [] (by omega) (by omega) (by simp at aa ⊢;omega)
 have bf:uC ls F [] 0 =some ([]++(ls.drop 0).flatten):=bf
 rw [bf];simp
theorem all_eq (aD:10000 <F) (v:bd) (h:v.aL.length+v.aW.length<= 10000):v' F v=some (v.aL++v.aW):=by
 unfold v'
 rw [Y4 aD (by simp) (by simp;omega)]
 simp
def ao (W:List Int) (a:Int):Int:=wd W (a.toNat+ 2)
def xf (l:List Int) (m:List (Int × Bool)):List (Int × Bool):=l.foldl (fun m x=>hg m x true) m
theorem aez:∀ (l:List Int) (m:List (Int × Bool)),(xf l m).length<=m.length+l.length/\((xf l m).length=m.length+l.length ↔ l.Nodup/\ ∀ x ∈ l,(dI m x).isSome=false)
 | [],m=>by simp [xf]
 | x::r,m=>by
   have bq:=aez r (hg m x true)
   have e:xf (x::r) m=xf r (hg m x true):=rfl
   rw [e]
   have aq:=La (k:=x) (v:=true) m
   rw [List.length_cons]
   cases ad:(dI m x).isSome with
   | true=>
     rw [ad,if_pos rfl] at aq
     rw [aq] at bq
     refine ⟨by omega,⟨fun h=>by omega,fun h=>?_⟩⟩
     have:=h.2 x List.mem_cons_self
     rw [ad] at this;cases this
   | false=>
     rw [ad,if_neg (by decide)] at aq
     rw [aq] at bq
     refine ⟨by omega,?_⟩
     rw [show m.length+(r.length+ 1)=m.length+ 1 +r.length by omega,bq.2,List.nodup_cons]
     constructor
     · rintro ⟨I,aa⟩
       refine ⟨⟨fun hm=>?_,I⟩,fun y hy=>?_⟩
       · have:=aa x hm
         have aw:=(Gq (k:=x) (s:=x) (v:=true) m).2 (.inl rfl)
         rw [this] at aw;cases aw
       · rcases List.mem_cons.1 hy with rfl | hy
         · exact ad
         · cases ai:(dI m y).isSome with
           | false=>rfl
           | true=>
             have aw:=(Gq (k:=x) (s:=y) (v:=true) m).2 (.inr ai)
             rw [aa y hy] at aw;cases aw
     · rintro ⟨⟨I,aa⟩,aw⟩
       refine ⟨aa,fun y hy=>?_⟩
       cases ai:(dI (hg m x true) y).isSome with
       | false=>rfl
       | true=>
         rcases (Gq (k:=x) (s:=y) (v:=true) m).1 ai with e | e
         · subst e;exact absurd hy I
         · rw [aw y (List.mem_cons_of_mem _ hy)] at e;cases e
def kS (v:bd) (a:Int):Bool:=decide (ao v.H.Words a < 1) || decide (v.H.Next<=ao v.H.Words a)
theorem asz (v:bd) (r:List Int) (aE:r.length<= 10000) (ag:∀ a ∈ r,0 <=a/\a.toNat+ 3 <=v.H.Words.length) (h3:v.H.Words.length<= 5000):∀ (d i f:Nat) (m:List (Int × Bool)),i+d=r.length->d <f ->
 tm v r f m (i:Int)=if (r.drop i).any (kS v) then some (.out 3) else some (.go (xf ((r.drop i).map (ao v.H.Words)) m)):=by
 intro d
 induction d with
 | zero=>
   intro i f m h af
   obtain ⟨f,rfl⟩:∃ b7,f=b7+ 1 :=⟨f - 1,by omega⟩
   have:i=r.length:=by omega
   subst this
   rw [tm,bM];simp [xf]
 | succ d bq=>
   intro i f m h af
   obtain ⟨f,rfl⟩:∃ b7,f=b7+ 1 :=⟨f - 1,by omega⟩
   have hi:i <r.length:=by omega
   obtain ⟨aQ,I⟩:=ag r[i] (List.getElem_mem hi)
   rw [tm,bN hi,cond_true,bw (List.getElem?_eq_getElem hi),Option.bind_some,dt (n:=r[i]+ 2) (by omega) (by omega),nv (i:=(r[i]).toNat+ 2) (by omega) (by omega),Option.bind_some,List.drop_eq_getElem_cons hi,List.any_cons]
   show cond (kS v r[i]) _ _=_
   cases kS v r[i] with
   | true=>rfl
   | false=>
     rw [cond_false,eP hi (by omega),bq (i+ 1) f _ (by omega) (by omega),Bool.false_or]
     rfl
theorem asy (aD:10000 <F) (v:bd) (h:v.aL.length+v.aW.length<= 5000) (ag:∀ a ∈ v.aL++v.aW,0 <=a/\a.toNat+ 3 <=v.H.Words.length) (h3:v.H.Words.length<= 5000) (abS:v.dE.length=(v.aL++v.aW).length) :
 Ct F v=some (if (v.aL++v.aW).any (kS v) then 3 else if ((v.aL++v.aW).map (ao v.H.Words)).Nodup then 0 else 6):=by
 unfold Ct
 have e:v' F (⟨(⟨v.H.Words,v.H.aL,v.H.aW,v.H.a5,v.H.a2,v.H.aZ,v.H.Next⟩:aY),(⟨(⟨v.S.K.ba,v.S.K.a8,v.S.K.Fields,v.S.K.Names,v.S.K.a9⟩:aU)⟩:b'),v.aL,v.aW,v.dE⟩:bd)=some (v.aL++v.aW):=all_eq aD v (by omega)
 rw [e,Option.bind_some]
 have l1:=asz v (v.aL++v.aW) (by simp;omega) ag h3 (v.aL++v.aW).length 0 F [] (by omega) (by simp;omega)
 have l1:tm v (v.aL++v.aW) F [] 0 =_:=l1
 rw [l1,List.drop_zero]
 cases (v.aL++v.aW).any (kS v) with
 | true=>rfl
 | false=>
   rw [if_neg (by decide),if_neg (by decide),oW]
   obtain ⟨dF,fF⟩:=aez ((v.aL++v.aW).map (ao v.H.Words)) []
   rw [List.length_map,List.length_nil,Nat.zero_add] at dF fF
   by_cases aJ:((v.aL++v.aW).map (ao v.H.Words)).Nodup
   · rw [if_pos aJ]
     have:=fF.2 ⟨aJ,fun _ _=>rfl⟩
     rw [decide_eq_false (by rw [this,abS];omega)];rfl
   · rw [if_neg aJ]
     have:(xf ((v.aL++v.aW).map (ao v.H.Words)) []).length≠(v.aL++v.aW).length:=fun e=>aJ (fF.1 e).1
     rw [decide_eq_true (by rw [abS];omega)];rfl
end
end J
namespace J
def zd (l:List Int):Prop:=∀ a b,a <b->b <l.length->wd l a <wd l b
theorem VG {l:List Int} (h:∀ i,i+ 1 <l.length->wd l i <wd l (i+ 1)):zd l:=by
 intro a b Kh
 induction b with
 | zero=>omega
 | succ b bq=>
   intro ag
   by_cases e:a=b
   · subst e;exact h a ag
   · exact Int.lt_trans (bq (by omega) (by omega)) (h b ag)
theorem VZ {l:List Int} {i:Nat} (h:i <l.length):wd l i ∈ l:=by unfold wd;rw [List.getElem?_eq_getElem h];exact List.getElem_mem h
theorem qy {l:List Int} {i:Nat} {x:Int} (h:l[i]? =some x):wd l i=x:=by unfold wd;rw [h];rfl
theorem S8 {l:List Int} {x:Int} (h:x ∈ l):∃ i,i <l.length/\wd l i=x:=by
 obtain ⟨i,hi,e⟩:=List.getElem_of_mem h
 exact ⟨i,hi,qy (by rw [List.getElem?_eq_getElem hi,e])⟩
theorem aeq {α:Type} {p:α->Bool}:∀ {l:List α},(eo p l).isSome=l.any p
 | []=>rfl
 | x::r=>by
   rw [eo,List.any_cons]
   cases h:p x with
   | true=>rfl
   | false=>simp only [Bool.false_eq_true,if_false,Bool.false_or];rw [<-aeq (l:=r)];cases eo p r <;> rfl
theorem P2 {α:Type} {l:List α} {L:Nat->Int->Option (Way Int Unit)} (p:α->Bool) (aq:l.length<= 140737488355328)
 (ao:∀ k (i:Nat) x,l[i]? =some x->L (k+ 1) (i:Int)=cond (p x) (some (.out (i:Int))) (L k (aA ((i:Int)+ 1))))
 (he:∀ k,L (k+ 1) (l.length:Int)=some (.go ())) {F:Nat} (aD:l.length <F):((cd (α:=Unit) (L F 0) fun (_:Unit)=>some (-1)).bind fun r=>some (decide ((0 :Int)<=r)))=some (l.any p):=by
 rw [P3 p (fun n:Nat=>(n:Int)) aq ao he aD,<-aeq]
 cases eo p l with
 | none=>rfl
 | some i=>
   show some (decide ((0 :Int)<=(i:Int)))=_
   rw [decide_eq_true (by omega)];rfl
section
variable {F:Nat}
theorem aBE {l:List Int} (aq:l.length<= 10000) (t:Int):∀ (f i j:Nat),i<=j->j<=l.length->j - i <f->(∀ a,a <i->wd l a <t)->(∀ a,j<=a->a <l.length->t<=wd l a)->zd l ->
 ∃ p:Nat,r6 t l f (i:Int) (j:Int)=some (p:Int)/\p<=l.length/\(∀ a,a <p->wd l a <t)/\(∀ a,p<=a->a <l.length->t<=wd l a):=by
 intro f
 induction f with
 | zero=>intro i j _ _ h;omega
 | succ f bq=>
   intro i j FA aI af I aa ao
   rw [r6]
   by_cases h:i <j
   case neg=>
    have:i=j:=by omega
    subst this
    rw [bM]
    exact ⟨i,rfl,aI,I,aa⟩
   have em:aA (uA (DF (aA ((i:Int)+(j:Int)))) 1)=(((i+j) / 2 :Nat):Int):=by
    rw [dt (n:=(i:Int)+j) (by omega) (by omega)]
    unfold DF uA
    rw [dt (by omega) (by omega)]
    omega
   have hm:(i+j) / 2 <j:=by omega
   have dH:i<=(i+j) / 2 :=by omega
   rw [bN h,cond_true,em,jv (by omega),Option.bind_some]
   unfold Jo Jp
   rw [Option.bind_some,show (!decide (wd l ((i+j) / 2)=wd l ((i+j) / 2)))=false by simp,cond_false,Option.bind_some]
   by_cases hc:wd l ((i+j) / 2) <t
   · rw [decide_eq_true hc,cond_true,Option.bind_some]
     show ∃ p:Nat,r6 t l f (aA ((((i+j) / 2 :Nat):Int)+ 1)) (j:Int)=_/\_
     rw [dt (n:=(((i+j) / 2 :Nat):Int)+ 1) (by omega) (by omega),show (((i+j) / 2 :Nat):Int)+ 1 =(((i+j) / 2 + 1 :Nat):Int) by omega]
     refine bq ((i+j) / 2 + 1) j (by omega) aI (by omega) (fun a aK=>?_) aa ao
     by_cases e:a=(i+j) / 2
     · subst e;exact hc
     · exact Int.lt_trans (ao a ((i+j) / 2) (by omega) (by omega)) hc
   · rw [decide_eq_false hc,cond_false,Option.bind_some]
     show ∃ p:Nat,r6 t l f (i:Int) (((i+j) / 2 :Nat):Int)=_/\_
     refine bq i ((i+j) / 2) (by omega) (by omega) (by omega) I (fun a aK ag=>?_) ao
     by_cases e:a=(i+j) / 2
     · subst e;omega
     · have:=ao ((i+j) / 2) a (by omega) ag
       omega
theorem aBD (aD:10000 <F) {l:List Int} (aq:l.length<= 10000) (ao:zd l) (t:Int) :
 ∃ p:Nat,Hj F l t=some ((p:Int),decide (t ∈ l))/\p<=l.length/\(∀ a,a <p->wd l a <t)/\(∀ a,p<=a->a <l.length->t<=wd l a):=by
 obtain ⟨p,e,aN,I,aa⟩:=aBE aq t F 0 l.length (by omega) (Nat.le_refl _) (by omega) (fun a aK=>by omega) (fun a aK ag=>by omega) ao
 refine ⟨p,?_,aN,I,aa⟩
 unfold Hj
 have e:r6 t l F 0 (l.length:Int)=some (p:Int):=e
 rw [e,Option.bind_some]
 by_cases bE:p <l.length
 · rw [bN bE,cond_true,jv bE,Option.bind_some]
   by_cases aO:wd l p=t
   · rw [decide_eq_true aO,cond_true,decide_eq_true (aO ▸ VZ bE)]
   · have aJ: ¬ t ∈ l:=fun hm=>by
      obtain ⟨a,aK,ZT⟩:=S8 hm
      by_cases Ri:a <p
      · have:=I a Ri;omega
      · have aw:=aa p (Nat.le_refl _) bE
        by_cases e:a=p
        · subst e;exact aO ZT
        · have:=ao p a (by omega) aK;omega
     rw [decide_eq_false aO,cond_false,Option.bind_some,decide_eq_false aJ]
     unfold Mv
     rw [Option.bind_some,show (!decide (wd l p=wd l p))=false by simp,cond_false]
 · have:p=l.length:=by omega
   subst this
   have aJ: ¬ t ∈ l:=fun hm=>by
    obtain ⟨a,aK,ZT⟩:=S8 hm
    have:=I a aK;omega
   rw [bM,cond_false,decide_eq_false aJ]
structure pq (v:bd) (a:Int):Prop where
 pos:0 <=a
 fit:a.toNat+ 3 +(wd v.H.Words (a.toNat+ 1)).toNat<=v.H.Words.length
 tag:hC v.S.K (wd v.H.Words a.toNat)=true
 len:isLen v.S.K (wd v.H.Words a.toNat) (wd v.H.Words (a.toNat+ 1))=true
structure nb (v:bd):Prop where
 r4:g7 v.S.K
 gk:v.H.Words.length<= 4900
 py:v.aL.length+v.aW.length<= 5000
 qp:∀ a ∈ v.aL++v.aW,pq v a
 dE:∀ x,(dI v.dE x).getD false=decide (x ∈ v.aL++v.aW)
theorem pq.Vk {v:bd} {a:Int} (ah:nb v) (h:pq v a) (aD:6000 <F):ou F v a=some (refs v.S.K v.H.Words a.toNat):=by
 have:=aA1 aD v ah.r4 h.fit (by have:=ah.gk;omega) h.tag h.len
 rwa [show ((a.toNat:Nat):Int)=a by have:=h.pos;omega] at this
theorem pq.L8 {v:bd} {a w:Int} (h:pq v a) (hw:w ∈ refs v.S.K v.H.Words a.toNat):idx v.H.Words w=some (wd v.H.Words w.toNat):=by
 obtain ⟨j,aI,_,e⟩:=K7.1 hw
 have:=h.fit
 subst e
 exact jv (by omega)
theorem L9 {v:bd} {a:Int} (ah:nb v) (h:pq v a):(refs v.S.K v.H.Words a.toNat).length<= 5000 :=by
 have:(refs v.S.K v.H.Words a.toNat).length<= 1 *(List.range (wd v.H.Words (a.toNat+ 1)).toNat).length:=vU fun x _=>by split <;> simp
 have I:=h.fit;have aa:=ah.gk
 rw [List.length_range] at this
 omega
def r' (v:bd) (w:Int):Bool:=!decide (wd v.H.Words w.toNat= 0) && !decide (wd v.H.Words w.toNat ∈ v.aL++v.aW)
def mQ (v:bd) (a:Int):Bool:=(refs v.S.K v.H.Words a.toNat).any (r' v)
def free (h:aY):List Int:=h.Words.take 1 ++((h.Words.take (h.aL+ 1).toNat).drop h.a5.toNat++h.Words.drop h.a2.toNat)
theorem my {α:Type} {p:α->Bool} {e:Int}:∀ l:List α,l.findSome? (fun x=>if p x then some e else none)=if l.any p then some e else none
 | []=>rfl
 | x::r=>by
   rw [List.findSome?_cons,List.any_cons]
   cases p x with
   | true=>rfl
   | false=>simp only [Bool.false_eq_true,if_false,Bool.false_or];exact my r
theorem aCy (aD:10000 <F) {v:bd} (ah:nb v) (aQ:0 <=v.H.aL) (I:0 <=v.H.a5/\v.H.a5<=v.H.aL+ 1 /\v.H.aL+ 1 <=v.H.Words.length) (aa:0 <=v.H.a2/\v.H.a2<=v.H.Words.length) :
 Cv F v=some (if (v.aL++v.aW).any (mQ v) then 5 else if (free v.H).any (fun x=>!decide (x= 0)) then 1 else 0):=by
 have hc:=ah.py;have hw:=ah.gk
 unfold Cv
 have e:v' F (⟨(⟨v.H.Words,v.H.aL,v.H.aW,v.H.a5,v.H.a2,v.H.aZ,v.H.Next⟩:aY),(⟨(⟨v.S.K.ba,v.S.K.a8,v.S.K.Fields,v.S.K.Names,v.S.K.a9⟩:aU)⟩:b'),v.aL,v.aW,v.dE⟩:bd)=some (v.aL++v.aW):=all_eq aD v (by omega)
 rw [e,Option.bind_some]
 have l1:wa F v (v.aL++v.aW) F 0 =some (cr ((v.aL++v.aW).findSome? fun a=>if mQ v a then some 5 else none)):=each _ (by simp;omega) (fun f i a aK=>by
  have hm:=List.mem_of_getElem? aK
  have aO:=ah.qp a hm
  rw [wa,bN (List.getElem?_eq_some_iff.1 aK).1,cond_true,bw aK,Option.bind_some]
  have al:ou F (⟨(⟨v.H.Words,v.H.aL,v.H.aW,v.H.a5,v.H.a2,v.H.aZ,v.H.Next⟩:aY),(⟨(⟨v.S.K.ba,v.S.K.a8,v.S.K.Fields,v.S.K.Names,v.S.K.a9⟩:aU)⟩:b'),v.aL,v.aW,v.dE⟩:bd) a=some (refs v.S.K v.H.Words a.toNat):=aO.Vk ah (by omega)
  have CG:=L9 ah aO
  rw [al,Option.bind_some]
  have cB:tq v (refs v.S.K v.H.Words a.toNat) F 0 =some (cr ((refs v.S.K v.H.Words a.toNat).findSome? fun w=>if r' v w then some 5 else none)):=each _ (by omega) (fun b7 dm w f_=>by
   have dH:=List.mem_of_getElem? f_
   rw [tq,bN (List.getElem?_eq_some_iff.1 f_).1,cond_true,bw f_,Option.bind_some,aO.L8 dH,Option.bind_some,ah.dE]
   unfold r'
   cases decide (wd v.H.Words w.toNat= 0) <;> cases decide (wd v.H.Words w.toNat ∈ v.aL++v.aW) <;> rfl) (fun b7=>by rw [tq,bM];rfl) (by omega)
  rw [cB,my]
  show _=gC (if (refs v.S.K v.H.Words a.toNat).any (r' v) then some 5 else none) _
  cases (refs v.S.K v.H.Words a.toNat).any (r' v) <;> rfl) (fun f=>by rw [wa,bM];rfl) (by simp;omega)
 rw [l1,my]
 cases (v.aL++v.aW).any (mQ v) with
 | true=>rfl
 | false=>
   simp only [Bool.false_eq_true,if_false,cr,oW]
   have c1:cut v.H.Words 0 1 =some (v.H.Words.take 1):=by
    unfold cut;rw [if_pos ⟨by omega,by omega,by omega⟩];rfl
   have c2:cut v.H.Words v.H.a5 (aA (v.H.aL+ 1))=some ((v.H.Words.take (v.H.aL+ 1).toNat).drop v.H.a5.toNat):=by
    rw [dt (by omega) (by omega)]
    unfold cut;rw [if_pos ⟨by omega,by omega,by omega⟩]
   have c3:cut v.H.Words v.H.a2 (v.H.Words.length:Int)=some (v.H.Words.drop v.H.a2.toNat):=by
    unfold cut;rw [if_pos ⟨by omega,by omega,by omega⟩,Int.toNat_natCast,List.take_length]
   have abM:(free v.H).length<= 10000 :=by unfold free;simp;omega
   rw [c1,c2,c3,Option.bind_some,Option.bind_some,Option.bind_some,Y4 aD (by simp) (by simp;omega),Option.bind_some]
   have aqf:[v.H.Words.take 1,(v.H.Words.take (v.H.aL+ 1).toNat).drop v.H.a5.toNat,v.H.Words.drop v.H.a2.toNat].flatten=free v.H:=by simp [free]
   rw [aqf]
   unfold Mp Mt
   rw [P2 (l:=free v.H) (L:=xv (free v.H)) (fun x=>!decide (x= 0)) (by omega) (fun f i x ad=>by
    rw [xv,bN (List.getElem?_eq_some_iff.1 ad).1,cond_true,bw ad,Option.bind_some]
    rfl) (fun f=>by rw [xv,bM];rfl) (by omega),Option.bind_some]
   cases (free v.H).any (fun x=>!decide (x= 0)) <;> rfl
def jw (v:bd) (x:Int):Bool:=decide (0 <x) && decide (x<=v.H.aL)
def qa (v:bd) (x:Int):Bool:=!decide (x ∈ v.aL++v.aW) || jw v x || (refs v.S.K v.H.Words x.toNat).isEmpty
def gW (v:bd) (i:Nat):Bool:=(decide (0 <i) && decide (wd v.H.aZ i<=wd v.H.aZ (i - 1))) || qa v (wd v.H.aZ i)
def n2 (v:bd) (x:Int):Bool:=!decide (x ∈ v.H.aZ) && (refs v.S.K v.H.Words x.toNat).any fun w=>jw v (wd v.H.Words w.toNat)
theorem axY (aD:10000 <F) {v:bd} (ah:nb v) (x:Int) (Y:Option (Way Int Unit)):(cond (!((dI v.dE x).getD false)) (some (.out 4)) ((Cs v x).bind fun UY=>
 cond (UY) (some (.out 4)) ((ou F v x).bind fun UZ=>
 cond (decide ((UZ.length:Int)= 0)) (some (.out 4)) Y)))=gC (if qa v x then some 4 else none) Y:=by
 rw [ah.dE]
 unfold qa
 by_cases hm:x ∈ v.aL++v.aW
 · rw [decide_eq_true hm,(ah.qp x hm).Vk ah (by omega)]
   show cond (jw v x) _ ((some _).bind _)=_
   cases jw v x with
   | true=>rfl
   | false=>
     rw [cond_false,Option.bind_some]
     cases refs v.S.K v.H.Words x.toNat with
     | nil=>rfl
     | cons a r=>rw [decide_eq_false (by simp;omega)];rfl
 · rw [decide_eq_false hm];rfl
theorem axX (aD:10000 <F) {v:bd} (ah:nb v) (aJ:v.H.aZ.length<= 140737488355328) (pQ:v.H.aZ.length <F) (at9:(∀ i,i <v.H.aZ.length->gW v i=false)->v.H.aZ.length<= 10000) :
 Cu F v=some (if (List.range v.H.aZ.length).any (gW v) || v.aW.any (n2 v) then 4 else 0):=by
 have hc:=ah.py;have hw:=ah.gk
 unfold Cu
 have l1:ri F v F 0 =some (cr ((List.range v.H.aZ.length).findSome? fun i=>if gW v i then some 4 else none)):=jM _ aJ (fun f i hi=>by
  have aE:=axY aD ah (wd v.H.aZ i) (ri F v f (aA ((i:Int)+ 1)))
  rw [ri,bN hi,cond_true,jv hi,Option.bind_some]
  unfold gW
  by_cases aQ:0 <i
  · rw [show decide ((0 :Int) <(i:Int))=true from decide_eq_true (by omega),cond_true,dt (n:=(i:Int) - 1) (by omega) (by omega),nv (i:=i - 1) (by omega) (by omega),Option.bind_some,decide_eq_true aQ,Bool.true_and]
    cases decide (wd v.H.aZ i<=wd v.H.aZ (i - 1)) with
    | true=>rfl
    | false=>exact aE
  · rw [show decide ((0 :Int) <(i:Int))=false from decide_eq_false (by omega),cond_false,decide_eq_false aQ,Bool.false_and,Bool.false_or]
    exact aE) (fun f=>by rw [ri,bM];rfl) pQ
 rw [l1,my]
 cases ag:(List.range v.H.aZ.length).any (gW v) with
 | true=>rfl
 | false=>
   have iU:∀ i,i <v.H.aZ.length->gW v i=false:=fun i hi=>by
    rw [List.any_eq_false] at ag
    simpa using ag i (by simpa using hi)
   have hlen:=at9 iU
   have aua:zd v.H.aZ:=VG fun i hi=>by
    have:=iU (i+ 1) hi
    unfold gW at this
    simp only [Bool.or_eq_false_iff,Bool.and_eq_false_iff,decide_eq_false_iff_not,Nat.add_sub_cancel] at this
    rcases this.1 with h | h <;> omega
   simp only [Bool.false_eq_true,if_false,cr,oW,Bool.false_or]
   have cB:tp F v F 0 =some (cr (v.aW.findSome? fun x=>if n2 v x then some 4 else none)):=each _ (by omega) (fun f i x ad=>by
    have hm:x ∈ v.aL++v.aW:=List.mem_append_right _ (List.mem_of_getElem? ad)
    have aO:=ah.qp x hm
    obtain ⟨p,aN,_⟩:=aBD aD hlen aua x
    rw [tp,bN (List.getElem?_eq_some_iff.1 ad).1,cond_true,bw ad,Option.bind_some,aN,Option.bind_some]
    unfold n2
    by_cases fN:x ∈ v.H.aZ
    · rw [decide_eq_true fN];rfl
    · rw [decide_eq_false fN]
      have al:ou F (⟨(⟨v.H.Words,v.H.aL,v.H.aW,v.H.a5,v.H.a2,v.H.aZ,v.H.Next⟩:aY),(⟨(⟨v.S.K.ba,v.S.K.a8,v.S.K.Fields,v.S.K.Names,v.S.K.a9⟩:aU)⟩:b'),v.aL,v.aW,v.dE⟩:bd) x=some (refs v.S.K v.H.Words x.toNat):=aO.Vk ah (by omega)
      have CG:=L9 ah aO
      simp only [Bool.not_false,cond_true,Bool.true_and]
      rw [al,Option.bind_some]
      unfold Mo Ms
      rw [P2 (l:=refs v.S.K v.H.Words x.toNat) (L:=xu (refs v.S.K v.H.Words x.toNat) v) (fun w=>jw v (wd v.H.Words w.toNat)) (by omega) (fun b7 dm w f_=>by
       rw [xu,bN (List.getElem?_eq_some_iff.1 f_).1,cond_true,bw f_,Option.bind_some]
       unfold Km
       rw [aO.L8 (List.mem_of_getElem? f_)]
       rfl) (fun b7=>by rw [xu,bM];rfl) (by omega),Option.bind_some]
      cases (refs v.S.K v.H.Words x.toNat).any (fun w=>jw v (wd v.H.Words w.toNat)) <;> rfl) (fun f=>by rw [tp,bM];rfl) (by omega)
   rw [cB,my]
   cases v.aW.any (n2 v) <;> rfl
end
end J
namespace J
def Ly:aU:=⟨[],[],[],[],[]⟩
def rows {β:Type} (f:Int->β) (i:Nat):List β:=(List.range i).map fun j:Nat=>f (j:Int)
theorem Dp {β:Type} (f:Int->β) (i:Nat):rows f (i+ 1)=rows f i++[f (i:Int)]:=by simp [rows,List.range_succ]
def linked (l:List ap):aU:=⟨l,dd l,rows (fi l) l.length,rows (fun i=>(gO l i).1) l.length,rows (fun i=>(gO l i).2) l.length⟩
def BV (l:List ap) (i:Nat):Option (aU × Int):=if 12 <(fi l i).length\/ 16 <(gO l i).1.length then some (Ly,2) else none
section
variable {F:Nat} {l:List ap}
theorem YC (x y:Nat):((decide ((12 :Int) <(x:Int))) || (decide ((16 :Int) <(y:Int))))=decide (12 <x\/ 16 <y):=by
 rw [Bool.eq_iff_iff];simp;omega
theorem awD (aD:1100 <F) (h:ht l) (rX qh:Int × bj) (Rb:rX.2.b2=eO 0 l) (E_:qh.2.dj=dd l) :
 mJ F l rX qh F [] [] [] 0 =some (AQ ((List.range l.length).findSome? (BV l)) (rows (fun i=>(gO l i).2) l.length,rows (fun i=>(gO l i).1) l.length,rows (fi l) l.length)):=by
 have hlen:=h.right.len
 refine OT (n:=l.length) (fun k i=>mJ F l rX qh k (rows (fun i=>(gO l i).2) i) (rows (fun i=>(gO l i).1) i) (rows (fi l) i) (i:Int)) _ _ (fun k i hi=>?_) (fun k=>?_) (F:=F) (by omega)
 · show mJ F l rX qh (k+ 1) (rows (fun i=>(gO l i).2) i) (rows (fun i=>(gO l i).1) i) (rows (fi l) i) (i:Int)=_
   rw [mJ,bN hi,cond_true,Rb,E_,h.awE aD (eO 0 l) (by omega) (by omega),Option.bind_some,h.SZ aD (eO 0 l) (by omega) (by omega),Option.bind_some,
    jq (by simp only [rows,List.length_map,List.length_range,List.length_cons,List.length_nil];omega),Option.bind_some,jq (by simp only [rows,List.length_map,List.length_range,List.length_cons,List.length_nil];omega),Option.bind_some,
    jq (by simp only [rows,List.length_map,List.length_range,List.length_cons,List.length_nil];omega),Option.bind_some,bw (i:=i) (x:=fi l i) (by simp [rows]),Option.bind_some,YC,eP hi (by omega),<-Dp (fi l),<-Dp (fun i=>(gO l i).1),<-Dp (fun i=>(gO l i).2)]
   unfold BV
   by_cases ag:12 <(fi l i).length\/ 16 <(gO l i).1.length
   · rw [decide_eq_true ag,if_pos ag];rfl
   · rw [decide_eq_false ag,if_neg ag];rfl
 · show mJ F l rX qh (k+ 1) (rows (fun i=>(gO l i).2) l.length) (rows (fun i=>(gO l i).1) l.length) (rows (fi l) l.length) (l.length:Int)=_
   rw [mJ,bM];rfl
theorem aAY (aD:1100 <F) (h:ht l) :
 pg F l F [] [] [] [] 0 =some (AQ ((List.range l.length).findSome? (BV l)) (rows (fun i=>(gO l i).2) l.length,rows (fun i=>(gO l i).1) l.length,rows (fi l) l.length,dd l)):=by
 have hlen:=h.right.len
 refine OT (n:=l.length) (fun k i=>pg F l k (rows (fun i=>(gO l i).2) i) (rows (fun i=>(gO l i).1) i) (rows (fi l) i) ((dd l).take i) (i:Int)) _ _ (fun k i hi=>?_) (fun k=>?_) (F:=F) (by omega)
 · obtain ⟨x,ad⟩:∃ x,l[i]? =some x:=⟨l[i],List.getElem?_eq_getElem hi⟩
   have aV:(dd l).take i++[cK l x.cP]=(dd l).take (i+ 1):=by rw [List.take_add_one,VH ad];rfl
   show pg F l (k+ 1) (rows (fun i=>(gO l i).2) i) (rows (fun i=>(gO l i).1) i) (rows (fi l) i) ((dd l).take i) (i:Int)=_
   rw [pg,bN hi,cond_true,h.Vf aD (by omega) (by omega),Option.bind_some,h.aAZ aD (by omega) (by omega),Option.bind_some,YC,bw ad,Option.bind_some,vo ⟨by omega,by omega⟩,Option.bind_some,
    jq (by simp only [List.length_take,Dv,List.length_cons,List.length_nil];omega),Option.bind_some,
    jq (by simp only [rows,List.length_map,List.length_range,List.length_cons,List.length_nil];omega),Option.bind_some,jq (by simp only [rows,List.length_map,List.length_range,List.length_cons,List.length_nil];omega),Option.bind_some,
    jq (by simp only [rows,List.length_map,List.length_range,List.length_cons,List.length_nil];omega),Option.bind_some,eP hi (by omega),<-Dp (fi l),<-Dp (fun i=>(gO l i).1),<-Dp (fun i=>(gO l i).2),aV]
   unfold BV
   by_cases ag:12 <(fi l i).length\/ 16 <(gO l i).1.length
   · rw [decide_eq_true ag,if_pos ag];rfl
   · rw [decide_eq_false ag,if_neg ag];rfl
 · show pg F l (k+ 1) (rows (fun i=>(gO l i).2) l.length) (rows (fun i=>(gO l i).1) l.length) (rows (fi l) l.length) ((dd l).take l.length) (l.length:Int)=_
   rw [pg,bM,List.take_of_length_le (by rw [Dv];omega)];rfl
theorem qb {α:Type} {e:Int} (h:e≠ 0) {x y:α}:cond (!decide (e= 0)) x y=x:=by rw [decide_eq_false h];rfl
theorem pC {α:Type} {x y:α}:cond (!decide ((0 :Int)= 0)) x y=y:=rfl
theorem aBY {e:Int} (h:l.findSome? r_=some e):e= 4 :=by
 obtain ⟨x,_,ad⟩:=List.exists_of_findSome?_eq_some h
 unfold r_ at ad
 split at ad
 · cases ad
 · injection ad with ad;exact ad.symm
theorem aw2 {e:Int} (h:l.findSome? (oJ l)=some e):e= 5 :=by
 obtain ⟨x,_,ad⟩:=List.exists_of_findSome?_eq_some h
 unfold oJ at ad
 split at ad
 · cases ad
 · injection ad with ad;exact ad.symm
theorem ao' {e:Int} (h:(List.range l.length).findSome? (sT l)=some e):e= 4 :=by
 obtain ⟨x,_,ad⟩:=List.exists_of_findSome?_eq_some h
 unfold sT at ad
 split at ad
 · cases ad
 · injection ad with ad;exact ad.symm
theorem aB9 {nm:List UInt8} (h:0 <=cK l nm):(dI (eO 0 l) nm).getD 0 =cK l nm:=by
 rw [C2]
 unfold cK at h ⊢
 cases aN:eo (f' nm) l with
 | none=>rw [aN] at h;simp at h
 | some i=>simp
theorem aoH (aD:1100 <F) (af:Fits F l):∃ e,Ex F l=some e /\
 ((e≠ 0 /\Ad F l=some (Ly,e)) \/
  (e= 0 /\ht l/\ ∃ rX qh:Int × bj,rX.2.b2=eO 0 l/\qh.2.dj=dd l /\
   Ad F l=cd (α:=(List (List Target)) × (List (List (List UInt8))) × (List (List Field))) (mJ F l rX qh F [] [] [] 0) fun ((SQ,SR,SS):(List (List Target)) × (List (List (List UInt8))) × (List (List Field)))=>some ((⟨l,qh.2.dj,SS,SR,SQ⟩:aU),0))):=by
 unfold Ex Ad
 rw [anV af,auE af,Option.bind_some,Option.bind_some]
 by_cases aQ:qZ l= 0
 case neg=>exact ⟨qZ l,by rw [qb aQ],.inl ⟨aQ,by rw [qb aQ];rfl⟩⟩
 rw [aQ,pC,pC]
 have eH:=aoK aQ
 have hlen:=eH.len
 rw [ayh (by omega) eH,Option.bind_some]
 rcases axq (F:=F) (by omega) eH with ⟨lE,rJ,rM⟩ | ⟨_,⟨m,rJ⟩,rM⟩
 case inr=>
  unfold CR
  simp only
  rw [rJ,rM]
  exact ⟨6,rfl,.inl ⟨by decide,rfl⟩⟩
 rw [rM,oW,vo ⟨by omega,by omega⟩,Option.bind_some,vo ⟨by omega,by omega⟩,Option.bind_some]
 have atE:CR F ⟨l,[],[]⟩=some (cond (decide (0 <=cK l [79,98,106,101,99,116]) && decide (0 <=cK l [69,114,114,111,114])) 0 5,⟨l,eO 0 l,[]⟩):=by
  unfold CR
  simp only
  rw [rJ,oW,Ty,Ty]
  cases decide (0 <=cK l [79,98,106,101,99,116]) <;> cases decide (0 <=cK l [69,114,114,111,114]) <;> rfl
 rw [atE,Option.bind_some]
 by_cases RY:0 <=cK l [79,98,106,101,99,116]
 case neg=>
  rw [decide_eq_true (show cK l [79,98,106,101,99,116] < 0 by omega),decide_eq_false RY]
  exact ⟨5,rfl,.inl ⟨by decide,rfl⟩⟩
 rw [decide_eq_false (show ¬ cK l [79,98,106,101,99,116] < 0 by omega),decide_eq_true RY,cond_false]
 by_cases Cx:0 <=cK l [69,114,114,111,114]
 case neg=>
  rw [decide_eq_true (show cK l [69,114,114,111,114] < 0 by omega),decide_eq_false Cx]
  exact ⟨5,rfl,.inl ⟨by decide,rfl⟩⟩
 rw [decide_eq_false (show ¬ cK l [69,114,114,111,114] < 0 by omega),decide_eq_true Cx,cond_false,Bool.and_self,cond_true]
 simp only [Option.bind_some,decide_true,Bool.not_true,cond_false]
 unfold K0
 simp only
 rw [aBW (by omega) eH,aBX (by omega) eH,jd,jd]
 cases aO:l.findSome? r_ with
 | some e=>
   have:=aBY aO
   subst this
   exact ⟨4,rfl,.inl ⟨by decide,rfl⟩⟩
 | none=>
 simp only [Option.map_none,nK]
 obtain ⟨o,av,hm⟩:=aw0 (F:=F) (by omega) eH
 rw [aw1 (by omega) eH,jd,hm,<-av]
 cases o with
 | some r=>
   simp only [Option.map_some] at av
   have:=aw2 av.symm
   refine ⟨5,by simp only [Option.map_some,nK];rw [this],.inl ⟨by decide,?_⟩⟩
   obtain ⟨a,b⟩:=r
   simp only at this
   subst this
   rfl
 | none=>
 simp only [Option.map_none,nK,AQ,oW]
 simp only [Option.map_none] at av
 rw [ao_ aD eH,jd,ao9 aD eH,jd]
 cases hc:(List.range l.length).findSome? (sT l) with
 | some e=>
   have:=ao' hc
   subst this
   exact ⟨4,rfl,.inl ⟨by decide,rfl⟩⟩
 | none=>
 simp only [Option.map_none,nK,Option.bind_some,decide_true,Bool.not_true,cond_false]
 have atA:∀ c ∈ l,c.cP= []\/ 0 <=cK l c.cP:=fun c hB=>by
  have:=List.findSome?_eq_none_iff.1 av.symm c hB
  unfold oJ at this
  split at this
  · assumption
  · cases this
 have auj:∀ i,i <l.length-> ∃ c,dn (dd l) l.length (i:Int)=some c:=fun i hi=>by
  have:=List.findSome?_eq_none_iff.1 hc i (by simpa using hi)
  unfold sT at this
  split at this
  · rename_i I;exact Option.isSome_iff_exists.1 I
  · cases this
 have kc:ht l:=⟨eH,lE,atA,auj,fun c hB=>List.findSome?_eq_none_iff.1 aO c hB,RY⟩
 have Fq:cK l [69,114,114,111,114] <l.length:=O_
 obtain ⟨x,ad,_⟩:=uF (l:=l) Cx Fq
 unfold K1
 simp only [aB9 Cx]
 rw [kc.Vf aD Cx Fq,Option.bind_some,kc.SZ aD (eO 0 l) Cx Fq,Option.bind_some,ad,Option.bind_some,Option.bind_some]
 by_cases ao:((!decide (x.cP= [79,98,106,101,99,116])) || (decide (((fi l (cK l [69,114,114,111,114])).length:Int)= 0)))=true
 · rw [ao]
   exact ⟨4,rfl,.inl ⟨by decide,rfl⟩⟩
 rw [Bool.eq_false_iff.2 ao,cond_false,cond_false]
 have b3:0 <(fi l (cK l [69,114,114,111,114])).length:=by
  simp only [Bool.or_eq_true,decide_eq_true_eq,not_or] at ao
  omega
 have R_:idx (fi l (cK l [69,114,114,111,114])) 0 =some ((fi l (cK l [69,114,114,111,114]))[0]):=by
  have:=bw (l:=fi l (cK l [69,114,114,111,114])) (i:=0) (List.getElem?_eq_getElem b3)
  exact this
 rw [R_,Option.bind_some,Option.bind_some]
 by_cases aj:((fi l (cK l [69,114,114,111,114]))[0]).Kind.Kind= 1
 case neg=>
  rw [decide_eq_false aj]
  exact ⟨4,rfl,.inl ⟨by decide,rfl⟩⟩
 rw [decide_eq_true aj]
 simp only [Bool.not_true,cond_false,Option.bind_some,decide_true]
 rw [aBU aD eH,jd,aBT aD eH,Option.bind_some]
 cases gv:(qt l).findSome? (jh l) with
 | some e=>
   have:e= 5 :=by
    obtain ⟨s,_,I⟩:=List.exists_of_findSome?_eq_some gv
    rcases af_ (l:=l) (s:=s) with aa | aa
    · rw [aa] at I;cases I
    · rw [aa] at I;injection I with I;exact I.symm
   subst this
   exact ⟨5,rfl,.inl ⟨by decide,rfl⟩⟩
 | none=>
 simp only [nK,Option.getD_none,decide_true,Bool.not_true,cond_false]
 rw [ax9 aD kc,jd,ax8 aD kc,Option.bind_some]
 cases R0:(List.range l.length).findSome? (xa l) with
 | some e=>
   have:e= 6 :=by
    obtain ⟨s,_,I⟩:=List.exists_of_findSome?_eq_some R0
    unfold xa sU at I
    split at I
    · split at I
      · cases I
      · simp at I;exact I.symm
    · simp at I;exact I.symm
   subst this
   exact ⟨6,rfl,.inl ⟨by decide,rfl⟩⟩
 | none=>
 simp only [nK,Option.getD_none,decide_true,Bool.not_true,cond_false]
 rw [awZ aD kc,jd,awY aD kc,Option.bind_some]
 cases RS:(List.range l.length).findSome? (fun i=>(l[i]?).bind fun c=>CX l c i) with
 | some e=>
   have:e= 4 :=by
    obtain ⟨i,_,I⟩:=List.exists_of_findSome?_eq_some RS
    cases Kx:l[i]? with
    | none=>rw [Kx] at I;cases I
    | some c=>
      rw [Kx,Option.bind_some] at I
      unfold CX at I
      rcases q7 (Y2 (l:=l) c) (dv l i).tail with aa | aa
      · rw [aa] at I;cases I
      · rw [aa] at I;injection I with I;exact I.symm
   subst this
   exact ⟨4,rfl,.inl ⟨by decide,rfl⟩⟩
 | none=>
 simp only [nK,Option.getD_none,decide_true,Bool.not_true,cond_false]
 exact ⟨0,rfl,.inr ⟨rfl,kc,(0,⟨l,eO 0 l,[]⟩),(0,⟨l,eO 0 l,dd l⟩),rfl,rfl,rfl⟩⟩
theorem awC (aD:1100 <F) (af:Fits F l):∃ r:aU × Int,Ad F l=some r/\Ez F l=some r/\(r.2 = 0 ->ht l/\r.1 =linked l)/\(r.2 ≠ 0 ->r.1 =Ly):=by
 obtain ⟨e,I,aa⟩:=aoH aD af
 unfold Ez
 rw [I,Option.bind_some]
 rcases aa with ⟨he,aa⟩ | ⟨rfl,kc,rX,qh,Rb,E_,aa⟩
 · exact ⟨_,aa,by rw [qb he];rfl,fun h=>absurd h he,fun _=>rfl⟩
 · rw [pC,aa,awD aD kc rX qh Rb E_,aAY aD kc]
   cases ag:(List.range l.length).findSome? (BV l) with
   | some r=>
     have:r=(Ly,2):=by
      obtain ⟨i,_,I⟩:=List.exists_of_findSome?_eq_some ag
      unfold BV at I
      split at I
      · injection I with I;exact I.symm
      · cases I
     subst this
     exact ⟨_,rfl,rfl,fun h=>absurd h (by decide),fun _=>rfl⟩
   | none=>
     refine ⟨_,rfl,?_,fun _=>⟨kc,?_⟩,fun h=>absurd rfl h⟩
     · simp only [AQ,oW,E_]
     · simp only [E_];rfl
end
end J
namespace J
theorem lx {α:Type} [DecidableEq α] {F:Nat} {a b:List α} (aq:a.length=b.length) {L:Nat->Int->Option (Way Bool Unit)} (aJ:a.length<= 140737488355328)
 (ao:∀ k (i:Nat) x y,a[i]? =some x->b[i]? =some y->L (k+ 1) (i:Int)=cond (!decide (x=y)) (some (.out false)) (L k (aA ((i:Int)+ 1)))) (he:∀ k,L (k+ 1) (a.length:Int)=some (.go ())) (aD:a.length <F) :
 L F 0 =some (if a=b then .go () else .out false):=by
 have l1:L F 0 =some (cr ((List.range a.length).findSome? fun i=>if a[i]? =b[i]? then none else some false)):=jM _ aJ (fun k i hi=>by
  rw [ao k i a[i] (b[i]'(by omega)) (List.getElem?_eq_getElem hi) (List.getElem?_eq_getElem (show i <b.length by omega)),List.getElem?_eq_getElem hi,List.getElem?_eq_getElem (show i <b.length by omega)]
  simp only [Option.some.injEq]
  by_cases e:a[i]=b[i]'(by omega)
  · rw [decide_eq_true e,if_pos e];rfl
  · rw [decide_eq_false e,if_neg e];rfl) he aD
 rw [l1]
 cases af:(List.range a.length).findSome? fun i=>if a[i]? =b[i]? then none else some false with
 | some e=>
   obtain ⟨i,hi,I⟩:=List.exists_of_findSome?_eq_some af
   split at I
   · cases I
   · rename_i b3
     injection I with I
     subst I
     rw [if_neg (fun e=>b3 (by rw [e]))];rfl
 | none=>
   rw [if_pos];rfl
   apply List.ext_getElem?
   intro i
   by_cases hi:i <a.length
   · have:=List.findSome?_eq_none_iff.1 af i (by simpa using hi)
     split at this
     · assumption
     · cases this
   · rw [List.getElem?_eq_none (by omega),List.getElem?_eq_none (by omega)]
theorem Qc {α β:Type} (l:List α):l.findSome? (fun _=>(none:Option β))=none:=by rw [List.findSome?_eq_none_iff];intro _ _;rfl
theorem ng {p:Prop} [Decidable p] {Y:Option Bool}:cd (α:=Unit) (some (if p then (.go ():Way Bool Unit) else .out false)) (fun _=>Y)=if p then Y else some false:=by by_cases h:p <;> simp [h]
theorem Y3 {p:Prop} [Decidable p] {Y:Option (Way Bool Unit)}:cT (α:=Unit) (some (if p then (.go ():Way Bool Unit) else .out false)) (fun _=>Y)=if p then Y else some (.out false):=by by_cases h:p <;> simp [h]
theorem lO {α:Type} {a b:List α}:decide ((a.length:Int)=(b.length:Int))=decide (a.length=b.length):=by
 rw [Bool.eq_iff_iff];simp;omega
theorem pD {α:Type} [DecidableEq α] {a b:List α} (h:a.length≠b.length):decide (a=b)=false:=decide_eq_false (fun e=>h (by rw [e]))
section
variable {F:Nat}
theorem afA {a b:List Field} (aK:Small F a.length):BM F a b=some (decide (a=b)):=by
 unfold BM
 rw [lO]
 by_cases aq:a.length=b.length
 · rw [decide_eq_true aq]
   simp only [Bool.not_true,cond_false]
   rw [lx aq aK.1 (L:=y3 a b) (fun k i x y ad hy=>by rw [y3,bN (List.getElem?_eq_some_iff.1 ad).1,cond_true,bw ad,Option.bind_some,bw hy,Option.bind_some]) (fun k=>by rw [y3,bM];rfl) aK.2,ng]
   by_cases h:a=b <;> simp [h]
 · rw [decide_eq_false aq,pD aq];rfl
theorem aBw {a b:List Kind} (aK:Small F a.length):sF F a b=some (decide (a=b)):=by
 unfold sF
 rw [lO]
 by_cases aq:a.length=b.length
 · rw [decide_eq_true aq]
   simp only [Bool.not_true,cond_false]
   rw [lx aq aK.1 (L:=n' a b) (fun k i x y ad hy=>by rw [n',bN (List.getElem?_eq_some_iff.1 ad).1,cond_true,bw ad,Option.bind_some,bw hy,Option.bind_some]) (fun k=>by rw [n',bM];rfl) aK.2,ng]
   by_cases h:a=b <;> simp [h]
 · rw [decide_eq_false aq,pD aq];rfl
theorem aBA {l:List ap} (h:Fits F l):BL F l l=some true:=by
 unfold BL
 rw [decide_eq_true rfl]
 simp only [Bool.not_true,cond_false]
 have l1:y0 F l l F 0 =some (cr (l.findSome? fun _=>(none:Option Bool))):=each (fun _=>none) h.1.1 (fun k i c ad=>by
  have hc:=h.2 c (List.mem_of_getElem? ad)
  have cB:y1 F c c F 0 =some (cr (c.bc.findSome? fun _=>(none:Option Bool))):=each (fun _=>none) hc.methods.1 (fun k i m hy=>by
   have hm:=hc.method m (List.mem_of_getElem? hy)
   have iY:y2 m m F 0 =some (cr (m.cz.findSome? fun _=>(none:Option Bool))):=each (fun _=>none) hm.v8.1 (fun k i x ai=>by
    rw [y2,bN (List.getElem?_eq_some_iff.1 ai).1,cond_true,bw ai,Option.bind_some,Option.bind_some,decide_eq_true rfl];rfl) (fun k=>by rw [y2,bM];rfl) hm.v8.2
   rw [y1,bN (List.getElem?_eq_some_iff.1 hy).1,cond_true,bw hy,Option.bind_some,Option.bind_some,aBw hm.args,Option.bind_some,iY,Qc]
   simp
   rfl) (fun k=>by rw [y1,bM];rfl) hc.methods.2
  rw [y0,bN (List.getElem?_eq_some_iff.1 ad).1,cond_true,bw ad,Option.bind_some,Option.bind_some,afA hc.fields,Option.bind_some,cB,Qc]
  simp
  rfl) (fun k=>by rw [y0,bM];rfl) h.1.2
 rw [l1,Qc];rfl
structure IW (F:Nat) (k:aU):Prop where
 dj:Small F k.a8.length
 fields:Small F k.Fields.length
 field:∀ x ∈ k.Fields,Small F x.length
 names:Small F k.Names.length
 name:∀ x ∈ k.Names,Small F x.length
 targets:Small F k.a9.length
 target:∀ x ∈ k.a9,Small F x.length
instance:DecidableEq (List (List Field)):=inferInstance
theorem aBx {a b:aU} (aK:IW F a) (hc:BL F a.ba b.ba=some true) :
 BN F a b=some (decide (a.a8=b.a8/\a.Fields=b.Fields/\a.Names=b.Names/\a.a9=b.a9)):=by
 unfold BN
 rw [hc,Option.bind_some,lO,lO,lO,lO]
 have aM:∀ (_: ¬ (a.a8=b.a8/\a.Fields=b.Fields/\a.Names=b.Names/\a.a9=b.a9)),decide (a.a8=b.a8/\a.Fields=b.Fields/\a.Names=b.Names/\a.a9=b.a9)=false:=fun h=>decide_eq_false h
 by_cases I:b.a8.length=a.a8.length
 case neg=>rw [aM (fun e=>I (by rw [e.1])),decide_eq_false I];rfl
 by_cases aa:a.Fields.length=b.Fields.length
 case neg=>rw [aM (fun e=>aa (by rw [e.2.1])),decide_eq_true I,decide_eq_false aa];rfl
 by_cases aw:a.Names.length=b.Names.length
 case neg=>rw [aM (fun e=>aw (by rw [e.2.2.1])),decide_eq_true I,decide_eq_true aa,decide_eq_false aw];rfl
 by_cases bi:a.a9.length=b.a9.length
 case neg=>rw [aM (fun e=>bi (by rw [e.2.2.2])),decide_eq_true I,decide_eq_true aa,decide_eq_true aw,decide_eq_false bi];rfl
 rw [decide_eq_true I,decide_eq_true aa,decide_eq_true aw,decide_eq_true bi]
 simp only [Bool.not_true,Bool.or_self,cond_false]
 have l1:=lx (F:=F) I.symm aK.dj.1 (L:=vp a b) (fun k i x y ad hy=>by rw [vp,bN (List.getElem?_eq_some_iff.1 ad).1,cond_true,bw ad,Option.bind_some,bw hy,Option.bind_some]) (fun k=>by rw [vp,bM];rfl) aK.dj.2
 have cB:=lx (F:=F) aa aK.fields.1 (L:=y4 F a b) (fun k i x y ad hy=>by
  rw [y4,bN (List.getElem?_eq_some_iff.1 ad).1,cond_true,bw ad,Option.bind_some,bw hy,Option.bind_some,afA (aK.field x (List.mem_of_getElem? ad)),Option.bind_some]) (fun k=>by rw [y4,bM];rfl) aK.fields.2
 have iY:=lx (F:=F) aw aK.names.1 (L:=y5 F a b) (fun k i x y ad hy=>by
  have jt:=aK.name x (List.mem_of_getElem? ad)
  rw [y5,bN (List.getElem?_eq_some_iff.1 ad).1,cond_true,bw ad,Option.bind_some,bw hy,Option.bind_some,lO]
  by_cases aq:x.length=y.length
  · rw [decide_eq_true aq]
    simp only [Bool.not_true,cond_false]
    rw [lx (F:=F) aq jt.1 (L:=y6 a b i) (fun k j u v hu ah=>by
     rw [y6,bw ad,Option.bind_some,bN (List.getElem?_eq_some_iff.1 hu).1,cond_true,Option.bind_some,bw hu,Option.bind_some,bw hy,Option.bind_some,bw ah,Option.bind_some]) (fun k=>by rw [y6,bw ad,Option.bind_some,bM];rfl) jt.2,Y3]
    by_cases h:x=y
    · rw [if_pos h,decide_eq_true h];rfl
    · rw [if_neg h,decide_eq_false h];rfl
  · rw [decide_eq_false aq,pD aq];rfl) (fun k=>by rw [y5,bM];rfl) aK.names.2
 have SH:=lx (F:=F) bi aK.targets.1 (L:=y7 F a b) (fun k i x y ad hy=>by
  have jt:=aK.target x (List.mem_of_getElem? ad)
  rw [y7,bN (List.getElem?_eq_some_iff.1 ad).1,cond_true,bw ad,Option.bind_some,bw hy,Option.bind_some,lO]
  by_cases aq:x.length=y.length
  · rw [decide_eq_true aq]
    simp only [Bool.not_true,cond_false]
    rw [lx (F:=F) aq jt.1 (L:=y8 a b i) (fun k j u v hu ah=>by
     rw [y8,bw ad,Option.bind_some,bN (List.getElem?_eq_some_iff.1 hu).1,cond_true,Option.bind_some,bw hu,Option.bind_some,bw hy,Option.bind_some,bw ah,Option.bind_some]) (fun k=>by rw [y8,bw ad,Option.bind_some,bM];rfl) jt.2,Y3]
    by_cases h:x=y
    · rw [if_pos h,decide_eq_true h];rfl
    · rw [if_neg h,decide_eq_false h];rfl
  · rw [decide_eq_false aq,pD aq];rfl) (fun k=>by rw [y7,bM];rfl) aK.targets.2
 rw [l1,cB,iY,SH,ng,ng,ng,ng]
 by_cases ak:a.a8=b.a8
 · by_cases al:a.Fields=b.Fields
   · by_cases aV:a.Names=b.Names
     · by_cases bS:a.a9=b.a9 <;> simp [ak,al,aV,bS]
     · simp [aV]
   · simp [al]
 · simp [ak]
end
section
variable {F:Nat} {l:List ap}
theorem aBa {β:Type} {f:Int->β} {n:Nat}:(rows f n).length=n:=by simp [rows]
end
end J
namespace J
section
variable {F:Nat}
theorem aqu {a b:List (Int)} (aK:Small F a.length):Hq F a b=some (decide (a=b)):=by
 unfold Hq
 rw [lO]
 by_cases aq:a.length=b.length
 · rw [decide_eq_true aq]
   simp only [Bool.not_true,cond_false]
   rw [lx aq aK.1 (L:=xr a b) (fun k i x y ad hy=>by rw [xr,bN (List.getElem?_eq_some_iff.1 ad).1,cond_true,bw ad,Option.bind_some,bw hy,Option.bind_some]) (fun k=>by rw [xr,bM];rfl) aK.2,ng]
   by_cases h:a=b <;> simp [h]
 · rw [decide_eq_false aq,pD aq];rfl
theorem aqs {a b:List (Field)} (aK:Small F a.length):Hn F a b=some (decide (a=b)):=by
 unfold Hn
 rw [lO]
 by_cases aq:a.length=b.length
 · rw [decide_eq_true aq]
   simp only [Bool.not_true,cond_false]
   rw [lx aq aK.1 (L:=xp a b) (fun k i x y ad hy=>by rw [xp,bN (List.getElem?_eq_some_iff.1 ad).1,cond_true,bw ad,Option.bind_some,bw hy,Option.bind_some]) (fun k=>by rw [xp,bM];rfl) aK.2,ng]
   by_cases h:a=b <;> simp [h]
 · rw [decide_eq_false aq,pD aq];rfl
theorem aqv {a b:List (List UInt8)} (aK:Small F a.length):Hr F a b=some (decide (a=b)):=by
 unfold Hr
 rw [lO]
 by_cases aq:a.length=b.length
 · rw [decide_eq_true aq]
   simp only [Bool.not_true,cond_false]
   rw [lx aq aK.1 (L:=xt a b) (fun k i x y ad hy=>by rw [xt,bN (List.getElem?_eq_some_iff.1 ad).1,cond_true,bw ad,Option.bind_some,bw hy,Option.bind_some]) (fun k=>by rw [xt,bM];rfl) aK.2,ng]
   by_cases h:a=b <;> simp [h]
 · rw [decide_eq_false aq,pD aq];rfl
theorem aqx {a b:List (Target)} (aK:Small F a.length):Hp F a b=some (decide (a=b)):=by
 unfold Hp
 rw [lO]
 by_cases aq:a.length=b.length
 · rw [decide_eq_true aq]
   simp only [Bool.not_true,cond_false]
   rw [lx aq aK.1 (L:=xq a b) (fun k i x y ad hy=>by rw [xq,bN (List.getElem?_eq_some_iff.1 ad).1,cond_true,bw ad,Option.bind_some,bw hy,Option.bind_some]) (fun k=>by rw [xq,bM];rfl) aK.2,ng]
   by_cases h:a=b <;> simp [h]
 · rw [decide_eq_false aq,pD aq];rfl
theorem aqt {a b:List (List Field)} (aK:Small F a.length) (ad:∀ x ∈ a,Small F x.length):Hk F a b=some (decide (a=b)):=by
 unfold Hk
 rw [lO]
 by_cases aq:a.length=b.length
 · rw [decide_eq_true aq]
   simp only [Bool.not_true,cond_false]
   rw [lx aq aK.1 (L:=xm F a b) (fun k i x y I aa=>by rw [xm,bN (List.getElem?_eq_some_iff.1 I).1,cond_true,bw I,Option.bind_some,bw aa,Option.bind_some,aqs (ad x (List.mem_of_getElem? I)),Option.bind_some]) (fun k=>by rw [xm,bM];rfl) aK.2,ng]
   by_cases h:a=b <;> simp [h]
 · rw [decide_eq_false aq,pD aq];rfl
theorem aqw {a b:List (List (List UInt8))} (aK:Small F a.length) (ad:∀ x ∈ a,Small F x.length):Hm F a b=some (decide (a=b)):=by
 unfold Hm
 rw [lO]
 by_cases aq:a.length=b.length
 · rw [decide_eq_true aq]
   simp only [Bool.not_true,cond_false]
   rw [lx aq aK.1 (L:=xo F a b) (fun k i x y I aa=>by rw [xo,bN (List.getElem?_eq_some_iff.1 I).1,cond_true,bw I,Option.bind_some,bw aa,Option.bind_some,aqv (ad x (List.mem_of_getElem? I)),Option.bind_some]) (fun k=>by rw [xo,bM];rfl) aK.2,ng]
   by_cases h:a=b <;> simp [h]
 · rw [decide_eq_false aq,pD aq];rfl
theorem aqy {a b:List (List Target)} (aK:Small F a.length) (ad:∀ x ∈ a,Small F x.length):Hl F a b=some (decide (a=b)):=by
 unfold Hl
 rw [lO]
 by_cases aq:a.length=b.length
 · rw [decide_eq_true aq]
   simp only [Bool.not_true,cond_false]
   rw [lx aq aK.1 (L:=xn F a b) (fun k i x y I aa=>by rw [xn,bN (List.getElem?_eq_some_iff.1 I).1,cond_true,bw I,Option.bind_some,bw aa,Option.bind_some,aqx (ad x (List.mem_of_getElem? I)),Option.bind_some]) (fun k=>by rw [xn,bM];rfl) aK.2,ng]
   by_cases h:a=b <;> simp [h]
 · rw [decide_eq_false aq,pD aq];rfl
theorem aBz {a b:aU} (aK:IW F a):CS F a b=some (decide (a.a8=b.a8/\a.Fields=b.Fields/\a.Names=b.Names/\a.a9=b.a9)):=by
 unfold CS
 rw [aqu aK.dj,Option.bind_some]
 by_cases ak:a.a8=b.a8
 case neg=>rw [decide_eq_false ak,decide_eq_false (fun e=>ak e.1)];rfl
 rw [decide_eq_true ak,cond_true,aqt aK.fields aK.field,Option.bind_some]
 by_cases al:a.Fields=b.Fields
 case neg=>rw [decide_eq_false al,decide_eq_false (fun e=>al e.2.1)];rfl
 rw [decide_eq_true al,cond_true,aqw aK.names aK.name,Option.bind_some]
 by_cases aV:a.Names=b.Names
 case neg=>rw [decide_eq_false aV,decide_eq_false (fun e=>aV e.2.2.1)];rfl
 rw [decide_eq_true aV,cond_true,aqy aK.targets aK.target,Option.bind_some]
 congr 1
 rw [Bool.eq_iff_iff]
 simp [ak,al,aV]
theorem aoI {k:aU} (aD:1100 <F) (hc:Fits F k.ba) (aj:IW F k):∃ e,nC F k=some e/\sC F k=some e/\((e= 4)\/(e= 0 /\ht k.ba/\k=linked k.ba)):=by
 obtain ⟨r,I,aa,aw,bi⟩:=awC aD hc
 unfold nC sC
 rw [I,aa,Option.bind_some,Option.bind_some]
 by_cases aQ:r.2 = 0
 case neg=>rw [qb aQ,qb aQ];exact ⟨4,rfl,rfl,.inl rfl⟩
 obtain ⟨kc,e⟩:=aw aQ
 have s1:CS F (⟨k.ba,k.a8,k.Fields,k.Names,k.a9⟩:aU) (⟨r.1.ba,r.1.a8,r.1.Fields,r.1.Names,r.1.a9⟩:aU)=some (decide (k.a8=r.1.a8/\k.Fields=r.1.Fields/\k.Names=r.1.Names/\k.a9=r.1.a9)):=aBz (a:=k) (b:=r.1) aj
 have s2:BN F (⟨k.ba,k.a8,k.Fields,k.Names,k.a9⟩:aU) (⟨r.1.ba,r.1.a8,r.1.Fields,r.1.Names,r.1.a9⟩:aU)=some (decide (k.a8=r.1.a8/\k.Fields=r.1.Fields/\k.Names=r.1.Names/\k.a9=r.1.a9)):=aBx (a:=k) (b:=r.1) aj (by rw [e];exact aBA hc)
 rw [s1,s2,aQ];simp only [pC,Option.bind_some]
 by_cases ao:k.a8=r.1.a8/\k.Fields=r.1.Fields/\k.Names=r.1.Names/\k.a9=r.1.a9
 · rw [decide_eq_true ao]
   refine ⟨0,rfl,rfl,.inr ⟨rfl,kc,?_⟩⟩
   obtain ⟨ak,al,aV,bS⟩:=ao
   rw [e] at ak al aV bS
   obtain ⟨a,b,c,d,f⟩:=k
   simp only at ak al aV bS
   subst ak al aV bS
   rfl
 · rw [decide_eq_false ao]
   exact ⟨4,rfl,rfl,.inl rfl⟩
end
end J
