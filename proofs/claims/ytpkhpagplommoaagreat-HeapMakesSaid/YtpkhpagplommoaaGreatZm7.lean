/- LAW: THE WALK AND THE PLAIN LAW, JOINED TO THE GIVEN STATEMENT: for every input that the row speaks of, the call returns true and what came in reads as it did. Made by program (liftgen2.py). -/
import Derived.Test.YtpkhpagplommoaaGreatZm6
import Derived.KernelRfl
import Derived.Test.YtpkhpagplommoaaGreatRows
import Derived.WalkKit
import Derived.ProofKit
import Derived.OpenShut
import Derived.Deep.DeepHandedRow
namespace J
def MF:bw:=⟨[],[],[],[],[]⟩
def rows {β:Type} (f:Int->β) (i:Nat):List β:=(List.range i).map fun j:Nat=>f (j:Int)
theorem DC {β:Type} (f:Int->β) (i:Nat):rows f (i+ 1)=rows f i++[f (i:Int)]:=by simp [rows,List.range_succ]
def linked (l:List aN):bw:=⟨l,eA l,rows (gn l) l.length,rows (fun i=>(tab l i).1) l.length,rows (fun i=>(tab l i).2) l.length⟩
def B3 (l:List aN) (i:Nat):Option (bw × Int):=if 12 <(gn l i).length\/ 16 <(tab l i).1.length then some (MF,2) else none
section
variable {F:Nat} {l:List aN}
theorem Z3 (x y:Nat):((decide ((12 :Int) <(x:Int))) || (decide ((16 :Int) <(y:Int))))=decide (12 <x\/ 16 <y):=by
 rw [Bool.eq_iff_iff];simp;omega
theorem aE6 (bV:1100 <F) (h:ic l) (sR rD:Int × df) (Q1:sR.2.cH=fL 0 l) (F1:rD.2.b1=eA l) :
 pU F l sR rD F [] [] [] 0 =some (A4 ((List.range l.length).findSome? (B3 l)) (rows (fun i=>(tab l i).2) l.length,rows (fun i=>(tab l i).1) l.length,rows (gn l) l.length)):=by
 have hlen:=h.right.len
 refine P1 (n:=l.length) (fun k i=>pU F l sR rD k (rows (fun i=>(tab l i).2) i) (rows (fun i=>(tab l i).1) i) (rows (gn l) i) (i:Int)) _ _ (fun k i hi=>?_) (fun k=>?_) (F:=F) (by omega)
 · show pU F l sR rD (k+ 1) (rows (fun i=>(tab l i).2) i) (rows (fun i=>(tab l i).1) i) (rows (gn l) i) (i:Int)=_
   rw [pU,cK hi,cond_true,Q1,F1,h.aE7 bV (fL 0 l) (by omega) (by omega),Option.bind_some,h.WD bV (fL 0 l) (by omega) (by omega),Option.bind_some,
    iv (by simp only [rows,List.length_map,List.length_range,List.length_cons,List.length_nil];omega),Option.bind_some,iv (by simp only [rows,List.length_map,List.length_range,List.length_cons,List.length_nil];omega),Option.bind_some,
    iv (by simp only [rows,List.length_map,List.length_range,List.length_cons,List.length_nil];omega),Option.bind_some,cd (i:=i) (x:=gn l i) (by simp [rows]),Option.bind_some,Z3,gS hi (by omega),<-DC (gn l),<-DC (fun i=>(tab l i).1),<-DC (fun i=>(tab l i).2)]
   unfold B3
   by_cases a1:12 <(gn l i).length\/ 16 <(tab l i).1.length
   · rw [decide_eq_true a1,if_pos a1];rfl
   · rw [decide_eq_false a1,if_neg a1];rfl
 · show pU F l sR rD (k+ 1) (rows (fun i=>(tab l i).2) l.length) (rows (fun i=>(tab l i).1) l.length) (rows (gn l) l.length) (l.length:Int)=_
   rw [pU,cJ];rfl
theorem aGs (bV:1100 <F) (h:ic l) :
 qI F l F [] [] [] [] 0 =some (A4 ((List.range l.length).findSome? (B3 l)) (rows (fun i=>(tab l i).2) l.length,rows (fun i=>(tab l i).1) l.length,rows (gn l) l.length,eA l)):=by
 have hlen:=h.right.len
 refine P1 (n:=l.length) (fun k i=>qI F l k (rows (fun i=>(tab l i).2) i) (rows (fun i=>(tab l i).1) i) (rows (gn l) i) ((eA l).take i) (i:Int)) _ _ (fun k i hi=>?_) (fun k=>?_) (F:=F) (by omega)
 · obtain ⟨x,ai⟩:∃ x,l[i]? =some x:=⟨l[i],List.getElem?_eq_getElem hi⟩
   have eu:(eA l).take i++[dS l x.bW]=(eA l).take (i+ 1):=by rw [List.take_add_one,X8 ai];rfl
   show qI F l (k+ 1) (rows (fun i=>(tab l i).2) i) (rows (fun i=>(tab l i).1) i) (rows (gn l) i) ((eA l).take i) (i:Int)=_
   rw [qI,cK hi,cond_true,h.XV bV (by omega) (by omega),Option.bind_some,h.aGt bV (by omega) (by omega),Option.bind_some,Z3,cd ai,Option.bind_some,wL ⟨by omega,by omega⟩,Option.bind_some,
    iv (by simp only [List.length_take,DJ,List.length_cons,List.length_nil];omega),Option.bind_some,
    iv (by simp only [rows,List.length_map,List.length_range,List.length_cons,List.length_nil];omega),Option.bind_some,iv (by simp only [rows,List.length_map,List.length_range,List.length_cons,List.length_nil];omega),Option.bind_some,
    iv (by simp only [rows,List.length_map,List.length_range,List.length_cons,List.length_nil];omega),Option.bind_some,gS hi (by omega),<-DC (gn l),<-DC (fun i=>(tab l i).1),<-DC (fun i=>(tab l i).2),eu]
   unfold B3
   by_cases a1:12 <(gn l i).length\/ 16 <(tab l i).1.length
   · rw [decide_eq_true a1,if_pos a1];rfl
   · rw [decide_eq_false a1,if_neg a1];rfl
 · show qI F l (k+ 1) (rows (fun i=>(tab l i).2) l.length) (rows (fun i=>(tab l i).1) l.length) (rows (gn l) l.length) ((eA l).take l.length) (l.length:Int)=_
   rw [qI,cJ,List.take_of_length_le (by rw [DJ];omega)];rfl
theorem qb {α:Type} {e:Int} (h:e≠ 0) {x y:α}:cond (!decide (e= 0)) x y=x:=by rw [decide_eq_false h];rfl
theorem pg {α:Type} {x y:α}:cond (!decide ((0 :Int)= 0)) x y=y:=rfl
theorem aG9 {e:Int} (h:l.findSome? sT=some e):e= 4 :=by
 obtain ⟨x,_,ai⟩:=List.exists_of_findSome?_eq_some h
 unfold sT at ai
 split at ai
 · cases ai
 · injection ai with ai;exact ai.symm
theorem aFm {e:Int} (h:l.findSome? (pX l)=some e):e= 5 :=by
 obtain ⟨x,_,ai⟩:=List.exists_of_findSome?_eq_some h
 unfold pX at ai
 split at ai
 · cases ai
 · injection ai with ai;exact ai.symm
theorem aj2 {e:Int} (h:(List.range l.length).findSome? (tO l)=some e):e= 4 :=by
 obtain ⟨x,_,ai⟩:=List.exists_of_findSome?_eq_some h
 unfold tO at ai
 split at ai
 · cases ai
 · injection ai with ai;exact ai.symm
theorem aHj {nm:List UInt8} (h:0 <=dS l nm):(dv (fL 0 l) nm).getD 0 =dS l nm:=by
 rw [Dq]
 unfold dS at h ⊢
 cases b3:fq (jD nm) l with
 | none=>rw [b3] at h;simp at h
 | some i=>simp
theorem ajD (bV:1100 <F) (I:Fits F l):∃ e,EX F l=some e /\
 ((e≠ 0 /\yd F l=some (MF,e)) \/
  (e= 0 /\ic l/\ ∃ sR rD:Int × df,sR.2.cH=fL 0 l/\rD.2.b1=eA l /\
   yd F l=dw (α:=(List (List Target)) × (List (List (List UInt8))) × (List (List Field))) (pU F l sR rD F [] [] [] 0) fun ((nC,nD,nE):(List (List Target)) × (List (List (List UInt8))) × (List (List Field)))=>some ((⟨l,rD.2.b1,nE,nD,nC⟩:bw),0))):=by
 unfold EX yd
 rw [ahG I,aEy I,Option.bind_some,Option.bind_some]
 by_cases bE:sd l= 0
 case neg=>exact ⟨sd l,by rw [qb bE],.inl ⟨bE,by rw [qb bE];rfl⟩⟩
 rw [bE,pg,pg]
 have il:=ajG bE
 have hlen:=il.len
 rw [aFH (by omega) il,Option.bind_some]
 rcases aFr (F:=F) (by omega) il with ⟨mA,Dg,AG⟩ | ⟨_,⟨m,Dg⟩,AG⟩
 case inr=>
  unfold Da
  simp only
  rw [Dg,AG]
  exact ⟨6,rfl,.inl ⟨by decide,rfl⟩⟩
 rw [AG,qh,wL ⟨by omega,by omega⟩,Option.bind_some,wL ⟨by omega,by omega⟩,Option.bind_some]
 have azp:Da F ⟨l,[],[]⟩=some (cond (decide (0 <=dS l [79,98,106,101,99,116]) && decide (0 <=dS l [69,114,114,111,114])) 0 5,⟨l,fL 0 l,[]⟩):=by
  unfold Da
  simp only
  rw [Dg,qh,WL,WL]
  cases decide (0 <=dS l [79,98,106,101,99,116]) <;> cases decide (0 <=dS l [69,114,114,111,114]) <;> rfl
 rw [azp,Option.bind_some]
 by_cases T':0 <=dS l [79,98,106,101,99,116]
 case neg=>
  rw [decide_eq_true (show dS l [79,98,106,101,99,116] < 0 by omega),decide_eq_false T']
  exact ⟨5,rfl,.inl ⟨by decide,rfl⟩⟩
 rw [decide_eq_false (show ¬ dS l [79,98,106,101,99,116] < 0 by omega),decide_eq_true T',cond_false]
 by_cases CQ:0 <=dS l [69,114,114,111,114]
 case neg=>
  rw [decide_eq_true (show dS l [69,114,114,111,114] < 0 by omega),decide_eq_false CQ]
  exact ⟨5,rfl,.inl ⟨by decide,rfl⟩⟩
 rw [decide_eq_false (show ¬ dS l [69,114,114,111,114] < 0 by omega),decide_eq_true CQ,cond_false,Bool.and_self,cond_true]
 simp only [Option.bind_some,decide_true,Bool.not_true,cond_false]
 unfold Mv
 simp only
 rw [aG7 (by omega) il,aG8 (by omega) il,jT,jT]
 cases bA:l.findSome? sT with
 | some e=>
   have:=aG9 bA
   subst this
   exact ⟨4,rfl,.inl ⟨by decide,rfl⟩⟩
 | none=>
 simp only [Option.map_none,o4]
 obtain ⟨o,br,hm⟩:=aFk (F:=F) (by omega) il
 rw [aFl (by omega) il,jT,hm,<-br]
 cases o with
 | some r=>
   simp only [Option.map_some] at br
   have:=aFm br.symm
   refine ⟨5,by simp only [Option.map_some,o4];rw [this],.inl ⟨by decide,?_⟩⟩
   obtain ⟨a,b⟩:=r
   simp only at this
   subst this
   rfl
 | none=>
 simp only [Option.map_none,o4,A4,qh]
 simp only [Option.map_none] at br
 rw [aj1 bV il,jT,aj0 bV il,jT]
 cases hc:(List.range l.length).findSome? (tO l) with
 | some e=>
   have:=aj2 hc
   subst this
   exact ⟨4,rfl,.inl ⟨by decide,rfl⟩⟩
 | none=>
 simp only [Option.map_none,o4,Option.bind_some,decide_true,Bool.not_true,cond_false]
 have azn:∀ c ∈ l,c.bW= []\/ 0 <=dS l c.bW:=fun c nw=>by
  have:=List.findSome?_eq_none_iff.1 br.symm c nw
  unfold pX at this
  split at this
  · assumption
  · cases this
 have aBC:∀ i,i <l.length-> ∃ c,eD (eA l) l.length (i:Int)=some c:=fun i hi=>by
  have:=List.findSome?_eq_none_iff.1 hc i (by simpa using hi)
  unfold tO at this
  split at this
  · rename_i aC;exact Option.isSome_iff_exists.1 aC
  · cases this
 have kZ:ic l:=⟨il,mA,azn,aBC,fun c nw=>List.findSome?_eq_none_iff.1 bA c nw,T'⟩
 have G9:dS l [69,114,114,111,114] <l.length:=QF
 obtain ⟨x,ai,_⟩:=vy (l:=l) CQ G9
 unfold Mw
 simp only [aHj CQ]
 rw [kZ.XV bV CQ G9,Option.bind_some,kZ.WD bV (fL 0 l) CQ G9,Option.bind_some,ai,Option.bind_some,Option.bind_some]
 by_cases a5:((!decide (x.bW= [79,98,106,101,99,116])) || (decide (((gn l (dS l [69,114,114,111,114])).length:Int)= 0)))=true
 · rw [a5]
   exact ⟨4,rfl,.inl ⟨by decide,rfl⟩⟩
 rw [Bool.eq_false_iff.2 a5,cond_false,cond_false]
 have e6:0 <(gn l (dS l [69,114,114,111,114])).length:=by
  simp only [Bool.or_eq_true,decide_eq_true_eq,not_or] at a5
  omega
 have aBU:idx (gn l (dS l [69,114,114,111,114])) 0 =some ((gn l (dS l [69,114,114,111,114]))[0]):=by
  have:=cd (l:=gn l (dS l [69,114,114,111,114])) (i:=0) (List.getElem?_eq_getElem e6)
  exact this
 rw [aBU,Option.bind_some,Option.bind_some]
 by_cases bh:((gn l (dS l [69,114,114,111,114]))[0]).Kind.Kind= 1
 case neg=>
  rw [decide_eq_false bh]
  exact ⟨4,rfl,.inl ⟨by decide,rfl⟩⟩
 rw [decide_eq_true bh]
 simp only [Bool.not_true,cond_false,Option.bind_some,decide_true]
 rw [aG5 bV il,jT,aG4 bV il,Option.bind_some]
 cases At:(rK l).findSome? (jU l) with
 | some e=>
   have:e= 5 :=by
    obtain ⟨s,_,aC⟩:=List.exists_of_findSome?_eq_some At
    rcases af_ (l:=l) (s:=s) with aU | aU
    · rw [aU] at aC;cases aC
    · rw [aU] at aC;injection aC with aC;exact aC.symm
   subst this
   exact ⟨5,rfl,.inl ⟨by decide,rfl⟩⟩
 | none=>
 simp only [o4,Option.getD_none,decide_true,Bool.not_true,cond_false]
 rw [aFB bV kZ,jT,aFA bV kZ,Option.bind_some]
 cases azv:(List.range l.length).findSome? (yA l) with
 | some e=>
   have:e= 6 :=by
    obtain ⟨s,_,aC⟩:=List.exists_of_findSome?_eq_some azv
    unfold yA tP at aC
    split at aC
    · split at aC
      · cases aC
      · simp at aC;exact aC.symm
    · simp at aC;exact aC.symm
   subst this
   exact ⟨6,rfl,.inl ⟨by decide,rfl⟩⟩
 | none=>
 simp only [o4,Option.getD_none,decide_true,Bool.not_true,cond_false]
 rw [aFj bV kZ,jT,aFi bV kZ,Option.bind_some]
 cases T7:(List.range l.length).findSome? (fun i=>(l[i]?).bind fun c=>Df l c i) with
 | some e=>
   have:e= 4 :=by
    obtain ⟨i,_,aC⟩:=List.exists_of_findSome?_eq_some T7
    cases CZ:l[i]? with
    | none=>rw [CZ] at aC;cases aC
    | some c=>
      rw [CZ,Option.bind_some] at aC
      unfold Df at aC
      rcases sh (abM (l:=l) c) (eH l i).tail with aU | aU
      · rw [aU] at aC;cases aC
      · rw [aU] at aC;injection aC with aC;exact aC.symm
   subst this
   exact ⟨4,rfl,.inl ⟨by decide,rfl⟩⟩
 | none=>
 simp only [o4,Option.getD_none,decide_true,Bool.not_true,cond_false]
 exact ⟨0,rfl,.inr ⟨rfl,kZ,(0,⟨l,fL 0 l,[]⟩),(0,⟨l,fL 0 l,eA l⟩),rfl,rfl,rfl⟩⟩
theorem aE5 (bV:1100 <F) (I:Fits F l):∃ r:bw × Int,yd F l=some r/\EY F l=some r/\(r.2 = 0 ->ic l/\r.1 =linked l)/\(r.2 ≠ 0 ->r.1 =MF):=by
 obtain ⟨e,aC,aU⟩:=ajD bV I
 unfold EY
 rw [aC,Option.bind_some]
 rcases aU with ⟨he,aU⟩ | ⟨rfl,kZ,sR,rD,Q1,F1,aU⟩
 · exact ⟨_,aU,by rw [qb he];rfl,fun h=>absurd h he,fun _=>rfl⟩
 · rw [pg,aU,aE6 bV kZ sR rD Q1 F1,aGs bV kZ]
   cases a1:(List.range l.length).findSome? (B3 l) with
   | some r=>
     have:r=(MF,2):=by
      obtain ⟨i,_,aC⟩:=List.exists_of_findSome?_eq_some a1
      unfold B3 at aC
      split at aC
      · injection aC with aC;exact aC.symm
      · cases aC
     subst this
     exact ⟨_,rfl,rfl,fun h=>absurd h (by decide),fun _=>rfl⟩
   | none=>
     refine ⟨_,rfl,?_,fun _=>⟨kZ,?_⟩,fun h=>absurd rfl h⟩
     · simp only [A4,qh,F1]
     · simp only [F1];rfl
end
end J
namespace J
theorem mo {α:Type} [DecidableEq α] {F:Nat} {a b:List α} (az:a.length=b.length) {L:Nat->Int->Option (Way Bool Unit)} (af:a.length<= 140737488355328)
 (a5:∀ k (i:Nat) x y,a[i]? =some x->b[i]? =some y->L (k+ 1) (i:Int)=cond (!decide (x=y)) (some (.out false)) (L k (ap ((i:Int)+ 1)))) (he:∀ k,L (k+ 1) (a.length:Int)=some (.go ())) (bV:a.length <F) :
 L F 0 =some (if a=b then .go () else .out false):=by
 have l1:L F 0 =some (dE ((List.range a.length).findSome? fun i=>if a[i]? =b[i]? then none else some false)):=kz _ af (fun k i hi=>by
  rw [a5 k i a[i] (b[i]'(by omega)) (List.getElem?_eq_getElem hi) (List.getElem?_eq_getElem (show i <b.length by omega)),List.getElem?_eq_getElem hi,List.getElem?_eq_getElem (show i <b.length by omega)]
  simp only [Option.some.injEq]
  by_cases e:a[i]=b[i]'(by omega)
  · rw [decide_eq_true e,if_pos e];rfl
  · rw [decide_eq_false e,if_neg e];rfl) he bV
 rw [l1]
 cases I:(List.range a.length).findSome? fun i=>if a[i]? =b[i]? then none else some false with
 | some e=>
   obtain ⟨i,hi,aC⟩:=List.exists_of_findSome?_eq_some I
   split at aC
   · cases aC
   · rename_i e6
     injection aC with aC
     subst aC
     rw [if_neg (fun e=>e6 (by rw [e]))];rfl
 | none=>
   rw [if_pos];rfl
   apply List.ext_getElem?
   intro i
   by_cases hi:i <a.length
   · have:=List.findSome?_eq_none_iff.1 I i (by simpa using hi)
     split at this
     · assumption
     · cases this
   · rw [List.getElem?_eq_none (by omega),List.getElem?_eq_none (by omega)]
theorem QV {α β:Type} (l:List α):l.findSome? (fun _=>(none:Option β))=none:=by rw [List.findSome?_eq_none_iff];intro _ _;rfl
theorem oq {p:Prop} [Decidable p] {Y:Option Bool}:dw (α:=Unit) (some (if p then (.go ():Way Bool Unit) else .out false)) (fun _=>Y)=if p then Y else some false:=by by_cases h:p <;> simp [h]
theorem abN {p:Prop} [Decidable p] {Y:Option (Way Bool Unit)}:ed (α:=Unit) (some (if p then (.go ():Way Bool Unit) else .out false)) (fun _=>Y)=if p then Y else some (.out false):=by by_cases h:p <;> simp [h]
theorem mS {α:Type} {a b:List α}:decide ((a.length:Int)=(b.length:Int))=decide (a.length=b.length):=by
 rw [Bool.eq_iff_iff];simp;omega
theorem qZ {α:Type} [DecidableEq α] {a b:List α} (h:a.length≠b.length):decide (a=b)=false:=decide_eq_false (fun e=>h (by rw [e]))
section
variable {F:Nat}
theorem afT {a b:List Field} (bK:Small F a.length):BV F a b=some (decide (a=b)):=by
 unfold BV
 rw [mS]
 by_cases az:a.length=b.length
 · rw [decide_eq_true az]
   simp only [Bool.not_true,cond_false]
   rw [mo az bK.1 (L:=wS a b) (fun k i x y ai hy=>by rw [wS,cK (List.getElem?_eq_some_iff.1 ai).1,cond_true,cd ai,Option.bind_some,cd hy,Option.bind_some]) (fun k=>by rw [wS,cJ];rfl) bK.2,oq]
   by_cases h:a=b <;> simp [h]
 · rw [decide_eq_false az,qZ az];rfl
theorem aGK {a b:List Kind} (bK:Small F a.length):tp F a b=some (decide (a=b)):=by
 unfold tp
 rw [mS]
 by_cases az:a.length=b.length
 · rw [decide_eq_true az]
   simp only [Bool.not_true,cond_false]
   rw [mo az bK.1 (L:=n8 a b) (fun k i x y ai hy=>by rw [n8,cK (List.getElem?_eq_some_iff.1 ai).1,cond_true,cd ai,Option.bind_some,cd hy,Option.bind_some]) (fun k=>by rw [n8,cJ];rfl) bK.2,oq]
   by_cases h:a=b <;> simp [h]
 · rw [decide_eq_false az,qZ az];rfl
theorem aGN {l:List aN} (h:Fits F l):BU F l l=some true:=by
 unfold BU
 rw [decide_eq_true rfl]
 simp only [Bool.not_true,cond_false]
 have l1:wP F l l F 0 =some (dE (l.findSome? fun _=>(none:Option Bool))):=each (fun _=>none) h.1.1 (fun k i c ai=>by
  have hc:=h.2 c (List.mem_of_getElem? ai)
  have gf:wQ F c c F 0 =some (dE (c.aR.findSome? fun _=>(none:Option Bool))):=each (fun _=>none) hc.methods.1 (fun k i m hy=>by
   have hm:=hc.method m (List.mem_of_getElem? hy)
   have oM:wR m m F 0 =some (dE (m.bH.findSome? fun _=>(none:Option Bool))):=each (fun _=>none) hm.xJ.1 (fun k i x c0=>by
    rw [wR,cK (List.getElem?_eq_some_iff.1 c0).1,cond_true,cd c0,Option.bind_some,Option.bind_some,decide_eq_true rfl];rfl) (fun k=>by rw [wR,cJ];rfl) hm.xJ.2
   rw [wQ,cK (List.getElem?_eq_some_iff.1 hy).1,cond_true,cd hy,Option.bind_some,Option.bind_some,aGK hm.args,Option.bind_some,oM,QV]
   simp
   rfl) (fun k=>by rw [wQ,cJ];rfl) hc.methods.2
  rw [wP,cK (List.getElem?_eq_some_iff.1 ai).1,cond_true,cd ai,Option.bind_some,Option.bind_some,afT hc.fields,Option.bind_some,gf,QV]
  simp
  rfl) (fun k=>by rw [wP,cJ];rfl) h.1.2
 rw [l1,QV];rfl
structure J_ (F:Nat) (k:bw):Prop where
 b1:Small F k.aG.length
 fields:Small F k.Fields.length
 field:∀ x ∈ k.Fields,Small F x.length
 names:Small F k.Names.length
 name:∀ x ∈ k.Names,Small F x.length
 targets:Small F k.aE.length
 target:∀ x ∈ k.aE,Small F x.length
instance:DecidableEq (List (List Field)):=inferInstance
theorem aGL {a b:bw} (bK:J_ F a) (hc:BU F a.aJ b.aJ=some true) :
 BX F a b=some (decide (a.aG=b.aG/\a.Fields=b.Fields/\a.Names=b.Names/\a.aE=b.aE)):=by
 unfold BX
 rw [hc,Option.bind_some,mS,mS,mS,mS]
 have bT:∀ (_: ¬ (a.aG=b.aG/\a.Fields=b.Fields/\a.Names=b.Names/\a.aE=b.aE)),decide (a.aG=b.aG/\a.Fields=b.Fields/\a.Names=b.Names/\a.aE=b.aE)=false:=fun h=>decide_eq_false h
 by_cases aC:b.aG.length=a.aG.length
 case neg=>rw [bT (fun e=>aC (by rw [e.1])),decide_eq_false aC];rfl
 by_cases aU:a.Fields.length=b.Fields.length
 case neg=>rw [bT (fun e=>aU (by rw [e.2.1])),decide_eq_true aC,decide_eq_false aU];rfl
 by_cases bS:a.Names.length=b.Names.length
 case neg=>rw [bT (fun e=>bS (by rw [e.2.2.1])),decide_eq_true aC,decide_eq_true aU,decide_eq_false bS];rfl
 by_cases ew:a.aE.length=b.aE.length
 case neg=>rw [bT (fun e=>ew (by rw [e.2.2.2])),decide_eq_true aC,decide_eq_true aU,decide_eq_true bS,decide_eq_false ew];rfl
 rw [decide_eq_true aC,decide_eq_true aU,decide_eq_true bS,decide_eq_true ew]
 simp only [Bool.not_true,Bool.or_self,cond_false]
 have l1:=mo (F:=F) aC.symm bK.b1.1 (L:=wT a b) (fun k i x y ai hy=>by rw [wT,cK (List.getElem?_eq_some_iff.1 ai).1,cond_true,cd ai,Option.bind_some,cd hy,Option.bind_some]) (fun k=>by rw [wT,cJ];rfl) bK.b1.2
 have gf:=mo (F:=F) aU bK.fields.1 (L:=wU F a b) (fun k i x y ai hy=>by
  rw [wU,cK (List.getElem?_eq_some_iff.1 ai).1,cond_true,cd ai,Option.bind_some,cd hy,Option.bind_some,afT (bK.field x (List.mem_of_getElem? ai)),Option.bind_some]) (fun k=>by rw [wU,cJ];rfl) bK.fields.2
 have oM:=mo (F:=F) bS bK.names.1 (L:=wV F a b) (fun k i x y ai hy=>by
  have hA:=bK.name x (List.mem_of_getElem? ai)
  rw [wV,cK (List.getElem?_eq_some_iff.1 ai).1,cond_true,cd ai,Option.bind_some,cd hy,Option.bind_some,mS]
  by_cases az:x.length=y.length
  · rw [decide_eq_true az]
    simp only [Bool.not_true,cond_false]
    rw [mo (F:=F) az hA.1 (L:=wW a b i) (fun k j u v hu ad=>by
     rw [wW,cd ai,Option.bind_some,cK (List.getElem?_eq_some_iff.1 hu).1,cond_true,Option.bind_some,cd hu,Option.bind_some,cd hy,Option.bind_some,cd ad,Option.bind_some]) (fun k=>by rw [wW,cd ai,Option.bind_some,cJ];rfl) hA.2,abN]
    by_cases h:x=y
    · rw [if_pos h,decide_eq_true h];rfl
    · rw [if_neg h,decide_eq_false h];rfl
  · rw [decide_eq_false az,qZ az];rfl) (fun k=>by rw [wV,cJ];rfl) bK.names.2
 have Wu:=mo (F:=F) ew bK.targets.1 (L:=wX F a b) (fun k i x y ai hy=>by
  have hA:=bK.target x (List.mem_of_getElem? ai)
  rw [wX,cK (List.getElem?_eq_some_iff.1 ai).1,cond_true,cd ai,Option.bind_some,cd hy,Option.bind_some,mS]
  by_cases az:x.length=y.length
  · rw [decide_eq_true az]
    simp only [Bool.not_true,cond_false]
    rw [mo (F:=F) az hA.1 (L:=wY a b i) (fun k j u v hu ad=>by
     rw [wY,cd ai,Option.bind_some,cK (List.getElem?_eq_some_iff.1 hu).1,cond_true,Option.bind_some,cd hu,Option.bind_some,cd hy,Option.bind_some,cd ad,Option.bind_some]) (fun k=>by rw [wY,cd ai,Option.bind_some,cJ];rfl) hA.2,abN]
    by_cases h:x=y
    · rw [if_pos h,decide_eq_true h];rfl
    · rw [if_neg h,decide_eq_false h];rfl
  · rw [decide_eq_false az,qZ az];rfl) (fun k=>by rw [wX,cJ];rfl) bK.targets.2
 rw [l1,gf,oM,Wu,oq,oq,oq,oq]
 by_cases bO:a.aG=b.aG
 · by_cases b4:a.Fields=b.Fields
   · by_cases eu:a.Names=b.Names
     · by_cases g8:a.aE=b.aE <;> simp [bO,b4,eu,g8]
     · simp [eu]
   · simp [b4]
 · simp [bO]
end
section
variable {F:Nat} {l:List aN}
theorem aGx {β:Type} {f:Int->β} {n:Nat}:(rows f n).length=n:=by simp [rows]
end
end J
namespace J
section
variable {F:Nat}
theorem akg {a b:List (Int)} (bK:Small F a.length):ID F a b=some (decide (a=b)):=by
 unfold ID
 rw [mS]
 by_cases az:a.length=b.length
 · rw [decide_eq_true az]
   simp only [Bool.not_true,cond_false]
   rw [mo az bK.1 (L:=yO a b) (fun k i x y ai hy=>by rw [yO,cK (List.getElem?_eq_some_iff.1 ai).1,cond_true,cd ai,Option.bind_some,cd hy,Option.bind_some]) (fun k=>by rw [yO,cJ];rfl) bK.2,oq]
   by_cases h:a=b <;> simp [h]
 · rw [decide_eq_false az,qZ az];rfl
theorem ake {a b:List (Field)} (bK:Small F a.length):IA F a b=some (decide (a=b)):=by
 unfold IA
 rw [mS]
 by_cases az:a.length=b.length
 · rw [decide_eq_true az]
   simp only [Bool.not_true,cond_false]
   rw [mo az bK.1 (L:=yM a b) (fun k i x y ai hy=>by rw [yM,cK (List.getElem?_eq_some_iff.1 ai).1,cond_true,cd ai,Option.bind_some,cd hy,Option.bind_some]) (fun k=>by rw [yM,cJ];rfl) bK.2,oq]
   by_cases h:a=b <;> simp [h]
 · rw [decide_eq_false az,qZ az];rfl
theorem akh {a b:List (List UInt8)} (bK:Small F a.length):IE F a b=some (decide (a=b)):=by
 unfold IE
 rw [mS]
 by_cases az:a.length=b.length
 · rw [decide_eq_true az]
   simp only [Bool.not_true,cond_false]
   rw [mo az bK.1 (L:=yP a b) (fun k i x y ai hy=>by rw [yP,cK (List.getElem?_eq_some_iff.1 ai).1,cond_true,cd ai,Option.bind_some,cd hy,Option.bind_some]) (fun k=>by rw [yP,cJ];rfl) bK.2,oq]
   by_cases h:a=b <;> simp [h]
 · rw [decide_eq_false az,qZ az];rfl
theorem akj {a b:List (Target)} (bK:Small F a.length):IC F a b=some (decide (a=b)):=by
 unfold IC
 rw [mS]
 by_cases az:a.length=b.length
 · rw [decide_eq_true az]
   simp only [Bool.not_true,cond_false]
   rw [mo az bK.1 (L:=yN a b) (fun k i x y ai hy=>by rw [yN,cK (List.getElem?_eq_some_iff.1 ai).1,cond_true,cd ai,Option.bind_some,cd hy,Option.bind_some]) (fun k=>by rw [yN,cJ];rfl) bK.2,oq]
   by_cases h:a=b <;> simp [h]
 · rw [decide_eq_false az,qZ az];rfl
theorem akf {a b:List (List Field)} (bK:Small F a.length) (ai:∀ x ∈ a,Small F x.length):Ix F a b=some (decide (a=b)):=by
 unfold Ix
 rw [mS]
 by_cases az:a.length=b.length
 · rw [decide_eq_true az]
   simp only [Bool.not_true,cond_false]
   rw [mo az bK.1 (L:=yJ F a b) (fun k i x y aC aU=>by rw [yJ,cK (List.getElem?_eq_some_iff.1 aC).1,cond_true,cd aC,Option.bind_some,cd aU,Option.bind_some,ake (ai x (List.mem_of_getElem? aC)),Option.bind_some]) (fun k=>by rw [yJ,cJ];rfl) bK.2,oq]
   by_cases h:a=b <;> simp [h]
 · rw [decide_eq_false az,qZ az];rfl
theorem aki {a b:List (List (List UInt8))} (bK:Small F a.length) (ai:∀ x ∈ a,Small F x.length):Iz F a b=some (decide (a=b)):=by
 unfold Iz
 rw [mS]
 by_cases az:a.length=b.length
 · rw [decide_eq_true az]
   simp only [Bool.not_true,cond_false]
   rw [mo az bK.1 (L:=yL F a b) (fun k i x y aC aU=>by rw [yL,cK (List.getElem?_eq_some_iff.1 aC).1,cond_true,cd aC,Option.bind_some,cd aU,Option.bind_some,akh (ai x (List.mem_of_getElem? aC)),Option.bind_some]) (fun k=>by rw [yL,cJ];rfl) bK.2,oq]
   by_cases h:a=b <;> simp [h]
 · rw [decide_eq_false az,qZ az];rfl
theorem akk {a b:List (List Target)} (bK:Small F a.length) (ai:∀ x ∈ a,Small F x.length):Iy F a b=some (decide (a=b)):=by
 unfold Iy
 rw [mS]
 by_cases az:a.length=b.length
 · rw [decide_eq_true az]
   simp only [Bool.not_true,cond_false]
   rw [mo az bK.1 (L:=yK F a b) (fun k i x y aC aU=>by rw [yK,cK (List.getElem?_eq_some_iff.1 aC).1,cond_true,cd aC,Option.bind_some,cd aU,Option.bind_some,akj (ai x (List.mem_of_getElem? aC)),Option.bind_some]) (fun k=>by rw [yK,cJ];rfl) bK.2,oq]
   by_cases h:a=b <;> simp [h]
 · rw [decide_eq_false az,qZ az];rfl
theorem aGM {a b:bw} (bK:J_ F a):Db F a b=some (decide (a.aG=b.aG/\a.Fields=b.Fields/\a.Names=b.Names/\a.aE=b.aE)):=by
 unfold Db
 rw [akg bK.b1,Option.bind_some]
 by_cases bO:a.aG=b.aG
 case neg=>rw [decide_eq_false bO,decide_eq_false (fun e=>bO e.1)];rfl
 rw [decide_eq_true bO,cond_true,akf bK.fields bK.field,Option.bind_some]
 by_cases b4:a.Fields=b.Fields
 case neg=>rw [decide_eq_false b4,decide_eq_false (fun e=>b4 e.2.1)];rfl
 rw [decide_eq_true b4,cond_true,aki bK.names bK.name,Option.bind_some]
 by_cases eu:a.Names=b.Names
 case neg=>rw [decide_eq_false eu,decide_eq_false (fun e=>eu e.2.2.1)];rfl
 rw [decide_eq_true eu,cond_true,akk bK.targets bK.target,Option.bind_some]
 congr 1
 rw [Bool.eq_iff_iff]
 simp [bO,b4,eu]
theorem ajE {k:bw} (bV:1100 <F) (hc:Fits F k.aJ) (bh:J_ F k):∃ e,oN F k=some e/\tl F k=some e/\((e= 4)\/(e= 0 /\ic k.aJ/\k=linked k.aJ)):=by
 obtain ⟨r,aC,aU,bS,ew⟩:=aE5 bV hc
 unfold oN tl
 rw [aC,aU,Option.bind_some,Option.bind_some]
 by_cases bE:r.2 = 0
 case neg=>rw [qb bE,qb bE];exact ⟨4,rfl,rfl,.inl rfl⟩
 obtain ⟨kZ,e⟩:=bS bE
 have s1:Db F (⟨k.aJ,k.aG,k.Fields,k.Names,k.aE⟩:bw) (⟨r.1.aJ,r.1.aG,r.1.Fields,r.1.Names,r.1.aE⟩:bw)=some (decide (k.aG=r.1.aG/\k.Fields=r.1.Fields/\k.Names=r.1.Names/\k.aE=r.1.aE)):=aGM (a:=k) (b:=r.1) bh
 have s2:BX F (⟨k.aJ,k.aG,k.Fields,k.Names,k.aE⟩:bw) (⟨r.1.aJ,r.1.aG,r.1.Fields,r.1.Names,r.1.aE⟩:bw)=some (decide (k.aG=r.1.aG/\k.Fields=r.1.Fields/\k.Names=r.1.Names/\k.aE=r.1.aE)):=aGL (a:=k) (b:=r.1) bh (by rw [e];exact aGN hc)
 rw [s1,s2,bE];simp only [pg,Option.bind_some]
 by_cases a5:k.aG=r.1.aG/\k.Fields=r.1.Fields/\k.Names=r.1.Names/\k.aE=r.1.aE
 · rw [decide_eq_true a5]
   refine ⟨0,rfl,rfl,.inr ⟨rfl,kZ,?_⟩⟩
   obtain ⟨bO,b4,eu,g8⟩:=a5
   rw [e] at bO b4 eu g8
   obtain ⟨a,b,c,d,f⟩:=k
   simp only at bO b4 eu g8
   subst bO b4 eu g8
   rfl
 · rw [decide_eq_false a5]
   exact ⟨4,rfl,rfl,.inl rfl⟩
end
end J
namespace J
def AL (h:bs):Prop:=(3 <=h.ar/\h.ar<= 2000)/\(3 <=h.aA/\h.aA<= 2000)
def okB (h:bs):Prop:=(h.Words.length:Int)= 1 +h.ar+h.aA
def Ia (h:bs):Prop:=(1 <=h.aO/\h.aO<=h.ar+ 1)/\(h.ar+ 1 <=h.aM/\h.aM<=h.ar+h.aA+ 1)/\ 1 <=h.Next
instance (h:bs):Decidable (AL h):=inferInstanceAs (Decidable ((3 <=h.ar/\h.ar<= 2000)/\(3 <=h.aA/\h.aA<= 2000)))
instance (h:bs):Decidable (okB h):=inferInstanceAs (Decidable ((h.Words.length:Int)= 1 +h.ar+h.aA))
instance (h:bs):Decidable (Ia h):=inferInstanceAs (Decidable ((1 <=h.aO/\h.aO<=h.ar+ 1)/\(h.ar+ 1 <=h.aM/\h.aM<=h.ar+h.aA+ 1)/\ 1 <=h.Next))
def m8 (h:bs):Int:=if AL h then (if okB h then (if Ia h then 0 else 3) else 1) else 3
theorem aGX (h:bs):CP h=some (m8 h):=by
 unfold CP nx m8
 simp only [Option.bind_some]
 by_cases gL:AL h
 case neg=>
  rw [if_neg gL]
  unfold AL at gL
  by_cases a:3 <=h.ar/\h.ar<= 2000
  · have b: ¬ (3 <=h.aA/\h.aA<= 2000):=fun b=>gL ⟨a,b⟩
    rw [show (decide (3 <=h.ar) && decide (h.ar<= 2000))=true by simpa using a,show (decide (3 <=h.aA) && decide (h.aA<= 2000))=false by rw [Bool.eq_false_iff];simpa using b]
    rfl
  · rw [show (decide (3 <=h.ar) && decide (h.ar<= 2000))=false by rw [Bool.eq_false_iff];simpa using a]
    rfl
 rw [if_pos gL]
 unfold AL at gL
 obtain ⟨⟨dY,eZ⟩,a3,a4⟩:=gL
 rw [show (decide (3 <=h.ar) && decide (h.ar<= 2000))=true by simp;omega,show (decide (3 <=h.aA) && decide (h.aA<= 2000))=true by simp;omega,
  dy (n:=1 +h.ar) (by omega) (by omega),dy (n:=1 +h.ar+h.aA) (by omega) (by omega),dy (n:=h.ar+ 1) (by omega) (by omega),dy (n:=h.ar+h.aA) (by omega) (by omega),dy (n:=h.ar+h.aA+ 1) (by omega) (by omega)]
 simp only [Bool.not_true,cond_false]
 by_cases ik:okB h
 case neg=>
  rw [if_neg ik,show decide ((h.Words.length:Int)= 1 +h.ar+h.aA)=false from decide_eq_false ik];rfl
 rw [if_pos ik,show decide ((h.Words.length:Int)= 1 +h.ar+h.aA)=true from decide_eq_true ik]
 simp only [Bool.not_true,cond_false]
 by_cases pi:Ia h
 · rw [if_pos pi]
   obtain ⟨eb,eg,fH⟩:=pi
   rw [show (decide (1 <=h.aO) && decide (h.aO<=h.ar+ 1))=true by simpa using eb,show (decide (h.ar+ 1 <=h.aM) && decide (h.aM<=h.ar+h.aA+ 1))=true by simpa using eg,show decide (h.Next < 1)=false from decide_eq_false (by omega)]
   rfl
 · rw [if_neg pi]
   by_cases eb:1 <=h.aO/\h.aO<=h.ar+ 1
   · rw [show (decide (1 <=h.aO) && decide (h.aO<=h.ar+ 1))=true by simpa using eb]
     by_cases eg:h.ar+ 1 <=h.aM/\h.aM<=h.ar+h.aA+ 1
     · have fH:h.Next < 1 :=by
        rcases Int.lt_or_le h.Next 1 with c | c
        · exact c
        · exact absurd ⟨eb,eg,c⟩ pi
       rw [decide_eq_true fH,Bool.or_true];rfl
     · rw [show (decide (h.ar+ 1 <=h.aM) && decide (h.aM<=h.ar+h.aA+ 1))=false by rw [Bool.eq_false_iff];simpa using eg]
       rfl
   · rw [show (decide (1 <=h.aO) && decide (h.aO<=h.ar+ 1))=false by rw [Bool.eq_false_iff];simpa using eb]
     rfl
structure ja (h:bs):Prop where
 A:AL h
 B:okB h
 C:Ia h
theorem X5 {h:bs}:m8 h= 0 ↔ ja h:=by
 unfold m8
 constructor
 · intro e
   split at e
   · split at e
     · split at e
       · exact ⟨‹_›,‹_›,‹_›⟩
       · cases e
     · cases e
   · cases e
 · rintro ⟨a,b,c⟩
   rw [if_pos a,if_pos b,if_pos c]
section
variable {F:Nat} {k:bw} {W:List Int}
theorem gZ.mem {to q:Nat} {L:List Int} (h:gZ k W to q L):∀ a ∈ L,∃ n:Nat,a=(n:Int)/\q<=n/\n+ 3 +(wd W (n+ 1)).toNat<=to/\gC k (wd W n)=true/\isLen k (wd W n) (wd W (n+ 1))=true:=by
 induction h with
 | nil=>intro a bK;cases bK
 | cons aC aU bS _ cv=>
   intro a bK
   rcases List.mem_cons.1 bK with rfl | bK
   · exact ⟨_,rfl,Nat.le_refl _,bS,aC,aU⟩
   · obtain ⟨n,e,ew,lH⟩:=cv a bK
     exact ⟨n,e,by omega,lH⟩
theorem gZ.DL {to q:Nat} {L L':List Int} (h:gZ k W to q L) (dP:gZ k W to q L'):L=L':=by
 induction h generalizing L' with
 | nil=>
   cases dP with
   | nil=>rfl
   | cons _ _ _ _=>omega
 | cons _ _ bS _ cv=>
   cases dP with
   | nil=>omega
   | cons _ _ _ ew=>rw [cv ew]
theorem gZ.len {to q:Nat} {L:List Int} (h:gZ k W to q L):3 *L.length+q<=to:=by
 induction h with
 | nil=>simp
 | cons _ _ bS _ cv=>simp only [List.length_cons];omega
theorem af3 {l:List Int} {N:Nat} (h:zn l) (bE:∀ i,i <l.length-> 0 <=wd l i/\wd l i <N):l.length<=N:=by
 have key:∀ i,i <l.length->(i:Int)<=wd l i:=by
  intro i
  induction i with
  | zero=>intro hi;exact (bE 0 hi).1
  | succ i cv=>
    intro hi
    have:=h i (i+ 1) (by omega) hi
    have:=cv (by omega)
    omega
 rcases Nat.eq_zero_or_pos l.length with e | e
 · omega
 · have:=key (l.length - 1) (by omega)
   have:=(bE (l.length - 1) (by omega)).2
   omega
theorem WJ (x:Int):∀ A:List Int,(dv (A.map fun a=>(a,true)) x).getD false=decide (x ∈ A)
 | []=>by simp [dv]
 | a::r=>by
   rw [List.map_cons,dv]
   by_cases e:a=x
   · simp [e]
   · rw [if_neg e,WJ x r]
     have: ¬ x=a:=fun h=>e h.symm
     simp [this]
def view (h:bs) (k:bw) (Y O:List Int):cm:=⟨h,⟨k⟩,Y,O,(Y++O).map fun a=>(a,true)⟩
structure ig (h:bs) (k:bw) (Y O:List Int):Prop where
 y:gZ k h.Words h.aO.toNat 1 Y
 o:gZ k h.Words h.aM.toNat (h.ar+ 1).toNat O
theorem ja.kt {h:bs} (a5:ja h):h.Words.length<= 4001 :=by
 obtain ⟨⟨⟨a,b⟩,c,d⟩,e,_⟩:=a5
 unfold okB at e;omega
theorem ig.Yd {h:bs} {Y O:List Int} (bh:hW k) (a5:ja h) (az:ig h k Y O):n_ (view h k Y O):=by
 have hw:=a5.kt
 obtain ⟨⟨⟨dY,eZ⟩,a3,a4⟩,b,⟨eb,eg⟩,⟨fH,iQ⟩,j5⟩:=a5
 unfold okB at b
 refine ⟨bh,by show h.Words.length<= 4900;omega,?_,fun a bK=>?_,fun x=>WJ x _⟩
 · have:=az.y.len;have:=az.o.len
   show Y.length+O.length<= 5000
   omega
 · have bK:a ∈ Y++O:=bK
   rcases List.mem_append.1 bK with bK | bK
   · obtain ⟨n,rfl,aC,aU,bS,ew⟩:=az.y.mem a bK
     exact ⟨by omega,by show ((n:Int).toNat)+ 3 +(wd h.Words ((n:Int).toNat+ 1)).toNat<=h.Words.length;rw [Int.toNat_natCast];omega,by rw [Int.toNat_natCast];exact bS,by rw [Int.toNat_natCast];exact ew⟩
   · obtain ⟨n,rfl,aC,aU,bS,ew⟩:=az.o.mem a bK
     exact ⟨by omega,by show ((n:Int).toNat)+ 3 +(wd h.Words ((n:Int).toNat+ 1)).toNat<=h.Words.length;rw [Int.toNat_natCast];omega,by rw [Int.toNat_natCast];exact bS,by rw [Int.toNat_natCast];exact ew⟩
def gq (v:cm):Int:=if (v.ar++v.aA).any (lK v) then 3 else if ((v.ar++v.aA).map (a5 v.H.Words)).Nodup then 0 else 6
def sU (v:cm):Int:=if (v.ar++v.aA).any (nJ v) then 5 else if (free v.H).any (fun x=>!decide (x= 0)) then 1 else 0
def yz (v:cm):Int:=if (List.range v.H.ay.length).any (jt v) || v.aA.any (pb v) then 4 else 0
def nS (v:cm):Int:=if gq v= 0 then (if sU v= 0 then yz v else sU v) else gq v
inductive Spec (h:bs) (k:bw):Option cm × Int->Prop
 | size: ¬ ja h->Spec h k (none,m8 h)
 | form:ja h->(∀ Y O,¬ ig h k Y O)->Spec h k (none,1)
 | rest {Y O:List Int}:ja h->ig h k Y O->Spec h k (if nS (view h k Y O)= 0 then some (view h k Y O) else none,nS (view h k Y O))
theorem WQ (bV:10000 <F) {h:bs} (bh:hW k) (af:Small F h.ay.length):∃ r,xP F h k=some r/\Spec h k r:=by
 unfold xP
 have iy:CP (⟨h.Words,h.ar,h.aA,h.aO,h.aM,h.ay,h.Next⟩:bs)=some (m8 h):=aGX h
 rw [iy,Option.bind_some]
 by_cases a5:ja h
 case neg=>
  rw [qb (fun e=>a5 (X5.1 e))]
  exact ⟨_,rfl,.size a5⟩
 rw [X5.2 a5,pg]
 have hw:=a5.kt
 have dN:=a5
 obtain ⟨⟨⟨dY,eZ⟩,a3,a4⟩,b,⟨eb,eg⟩,⟨fH,iQ⟩,j5⟩:=a5
 unfold okB at b
 have t1:=af8 (F:=F) (by omega) (⟨h,⟨k⟩,[],[],[]⟩:cm) bh (q:=1) (to:=h.aO.toNat) (by omega) (by show _<=h.Words.length;omega) (by show h.Words.length<= 5000;omega) (fun p b3=>by cases b3)
 rw [show ((h.aO.toNat:Nat):Int)=h.aO by omega] at t1
 rw [dy (n:=h.ar+ 1) (by omega) (by omega)]
 rcases t1 with ⟨Y,Lp,bO⟩ | ⟨oG,h2,bO⟩
 case inr=>
  have bO:mF F (⟨(⟨h.Words,h.ar,h.aA,h.aO,h.aM,h.ay,h.Next⟩:bs),(⟨(⟨k.aJ,k.aG,k.Fields,k.Names,k.aE⟩:bw)⟩:dq),[],[],[]⟩:cm) 1 h.aO=some ([],false,(⟨h,⟨k⟩,[],[],h2⟩:cm)):=bO
  rw [bO,Option.bind_some]
  have t2:∃ r,mF F (⟨(⟨h.Words,h.ar,h.aA,h.aO,h.aM,h.ay,h.Next⟩:bs),(⟨(⟨k.aJ,k.aG,k.Fields,k.Names,k.aE⟩:bw)⟩:dq),[],[],h2⟩:cm) (h.ar+ 1) h.aM=some r:=by
   unfold mF
   have key:∀ (f q:Nat) (acc:List Int) (m:List (Int × Bool)),q<=h.aM.toNat->h.aM.toNat - q <f->acc.length+(h.aM.toNat - q)<= 5000 -> ∃ r,q_ h.aM (⟨h,⟨k⟩,[],[],h2⟩:cm) f acc m (q:Int)=some r:=by
    intro f
    induction f with
    | zero=>intro q acc m _ en;omega
    | succ f cv=>
      intro q acc m en I tY
      rw [q_]
      by_cases eh:(q:Int) <h.aM
      case neg=>rw [decide_eq_false eh];exact ⟨_,rfl⟩
      rw [decide_eq_true eh,cond_true,dy (n:=(q:Int)+ 3) (by omega) (by omega)]
      by_cases bS:h.aM <(q:Int)+ 3
      · rw [decide_eq_true bS];exact ⟨_,rfl⟩
      rw [decide_eq_false bS,cond_false]
      show ∃ r,(idx h.Words (q:Int)).bind _=some r
      rw [lN (by omega),Option.bind_some]
      show ∃ r,(idx h.Words (ap ((q:Int)+ 1))).bind _=some r
      rw [dy (n:=(q:Int)+ 1) (by omega) (by omega),iE (i:=q+ 1) (by omega) (by omega),Option.bind_some]
      have bO:q8 (⟨(⟨k.aJ,k.aG,k.Fields,k.Names,k.aE⟩:bw)⟩:dq) (wd h.Words q)=some (gC k (wd h.Words q)):=X2 bh _
      show ∃ r,(q8 (⟨(⟨k.aJ,k.aG,k.Fields,k.Names,k.aE⟩:bw)⟩:dq) (wd h.Words q)).bind _=some r
      rw [bO,Option.bind_some]
      cases bA:gC k (wd h.Words q) with
      | false=>exact ⟨_,rfl⟩
      | true=>
        have b4:q9 (⟨(⟨k.aJ,k.aG,k.Fields,k.Names,k.aE⟩:bw)⟩:dq) (wd h.Words q) (wd h.Words (q+ 1))=some (isLen k (wd h.Words q) (wd h.Words (q+ 1))):=X3 bh bA _
        rw [Bool.not_true,cond_false]
        show ∃ r,(q9 (⟨(⟨k.aJ,k.aG,k.Fields,k.Names,k.aE⟩:bw)⟩:dq) (wd h.Words q) (wd h.Words (q+ 1))).bind _=some r
        rw [b4,Option.bind_some]
        cases az:isLen k (wd h.Words q) (wd h.Words (q+ 1)) with
        | false=>exact ⟨_,rfl⟩
        | true=>
          obtain ⟨⟨yb,l1⟩,_⟩:=sw.1 az
          rw [Bool.not_true,Bool.false_or,dy (n:=(q:Int)+ 3 +wd h.Words (q+ 1)) (by omega) (by omega)]
          by_cases uj:h.aM <(q:Int)+ 3 +wd h.Words (q+ 1)
          · rw [decide_eq_true uj];exact ⟨_,rfl⟩
          rw [decide_eq_false uj,cond_false,iv (by simp;omega),Option.bind_some,dy (n:=3 +wd h.Words (q+ 1)) (by omega) (by omega),dy (n:=(q:Int)+(3 +wd h.Words (q+ 1))) (by omega) (by omega),
           show (q:Int)+(3 +wd h.Words (q+ 1))=((q+ 3 +(wd h.Words (q+ 1)).toNat:Nat):Int) by omega]
          exact cv _ _ _ (by omega) (by omega) (by simp;omega)
   obtain ⟨r,bU⟩:=key F (h.ar+ 1).toNat [] h2 (by omega) (by omega) (by simp;omega)
   rw [show (((h.ar+ 1).toNat:Nat):Int)=h.ar+ 1 by omega] at bU
   have bU:q_ h.aM (⟨(⟨h.Words,h.ar,h.aA,h.aO,h.aM,h.ay,h.Next⟩:bs),(⟨(⟨k.aJ,k.aG,k.Fields,k.Names,k.aE⟩:bw)⟩:dq),[],[],h2⟩:cm) F [] h2 (h.ar+ 1)=some r:=bU
   rw [bU]
   cases r <;> exact ⟨_,rfl⟩
  obtain ⟨r,b4⟩:=t2
  rw [b4,Option.bind_some]
  exact ⟨_,rfl,.form dN (fun Y O az=>oG Y az.y)⟩
 have bO:mF F (⟨(⟨h.Words,h.ar,h.aA,h.aO,h.aM,h.ay,h.Next⟩:bs),(⟨(⟨k.aJ,k.aG,k.Fields,k.Names,k.aE⟩:bw)⟩:dq),[],[],[]⟩:cm) 1 h.aO=some (Y,true,(⟨h,⟨k⟩,[],[],Y.map fun a=>(a,true)⟩:cm)):=bO
 rw [bO,Option.bind_some]
 have t2:=af8 (F:=F) (by omega) (⟨h,⟨k⟩,[],[],Y.map fun a=>(a,true)⟩:cm) bh (q:=(h.ar+ 1).toNat) (to:=h.aM.toNat) (by omega) (by show _<=h.Words.length;omega) (by show h.Words.length<= 5000;omega) (fun p b3=>by
  obtain ⟨a,bK,rfl⟩:=List.mem_map.1 b3
  have aoB:gZ k h.Words h.aO.toNat 1 Y:=Lp
  obtain ⟨n,rfl,aC,aU,_⟩:=aoB.mem a bK
  show (n:Int) <_
  omega)
 rw [show ((h.aM.toNat:Nat):Int)=h.aM by omega,show (((h.ar+ 1).toNat:Nat):Int)=h.ar+ 1 by omega] at t2
 rcases t2 with ⟨O,mA,b4⟩ | ⟨oG,h2,b4⟩
 case inr=>
  have b4:mF F (⟨(⟨h.Words,h.ar,h.aA,h.aO,h.aM,h.ay,h.Next⟩:bs),(⟨(⟨k.aJ,k.aG,k.Fields,k.Names,k.aE⟩:bw)⟩:dq),[],[],Y.map fun a=>(a,true)⟩:cm) (h.ar+ 1) h.aM=_:=b4
  show ∃ r,(mF F (⟨(⟨h.Words,h.ar,h.aA,h.aO,h.aM,h.ay,h.Next⟩:bs),(⟨(⟨k.aJ,k.aG,k.Fields,k.Names,k.aE⟩:bw)⟩:dq),[],[],Y.map fun a=>(a,true)⟩:cm) (h.ar+ 1) h.aM).bind _=some r/\_
  rw [b4,Option.bind_some]
  exact ⟨_,rfl,.form dN (fun Kd ER az=>oG ER az.o)⟩
 have b4:mF F (⟨(⟨h.Words,h.ar,h.aA,h.aO,h.aM,h.ay,h.Next⟩:bs),(⟨(⟨k.aJ,k.aG,k.Fields,k.Names,k.aE⟩:bw)⟩:dq),[],[],Y.map fun a=>(a,true)⟩:cm) (h.ar+ 1) h.aM=some (O,true,(⟨h,⟨k⟩,[],[],(Y.map fun a=>(a,true))++O.map fun a=>(a,true)⟩:cm)):=b4
 show ∃ r,(mF F (⟨(⟨h.Words,h.ar,h.aA,h.aO,h.aM,h.ay,h.Next⟩:bs),(⟨(⟨k.aJ,k.aG,k.Fields,k.Names,k.aE⟩:bw)⟩:dq),[],[],Y.map fun a=>(a,true)⟩:cm) (h.ar+ 1) h.aM).bind _=some r/\_
 rw [b4,Option.bind_some,<-List.map_append]
 have az:ig h k Y O:=⟨Lp,mA⟩
 have ad:=az.Yd bh dN
 have jV:CM F (⟨(⟨h.Words,h.ar,h.aA,h.aO,h.aM,h.ay,h.Next⟩:bs),(⟨(⟨k.aJ,k.aG,k.Fields,k.Names,k.aE⟩:bw)⟩:dq),Y,O,(Y++O).map fun a=>(a,true)⟩:cm)=some (gq (view h k Y O)):=
  aoI bV (view h k Y O) ad.tM (fun a bK=>⟨(ad.rJ a bK).pos,by have:=(ad.rJ a bK).fit;omega⟩) (by have:=ad.kt;omega) (by simp [view])
 have A8:CO F (⟨(⟨h.Words,h.ar,h.aA,h.aO,h.aM,h.ay,h.Next⟩:bs),(⟨(⟨k.aJ,k.aG,k.Fields,k.Names,k.aE⟩:bw)⟩:dq),Y,O,(Y++O).map fun a=>(a,true)⟩:cm)=some (sU (view h k Y O)):=
  aHq bV ad (by show 0 <=h.ar;omega) ⟨by show 0 <=h.aO;omega,by show h.aO<=h.ar+ 1;omega,by show h.ar+ 1 <=h.Words.length;omega⟩ ⟨by show 0 <=h.aM;omega,by show h.aM<=h.Words.length;omega⟩
 have aHw:CN F (⟨(⟨h.Words,h.ar,h.aA,h.aO,h.aM,h.ay,h.Next⟩:bs),(⟨(⟨k.aJ,k.aG,k.Fields,k.Names,k.aE⟩:bw)⟩:dq),Y,O,(Y++O).map fun a=>(a,true)⟩:cm)=some (yz (view h k Y O)):=
  aFw bV ad af.1 af.2 (fun oB=>by
   refine Nat.le_trans (af3 (N:=5000) (X6 fun i hi=>?_) (fun i hi=>?_)) (by omega)
   · have:=oB (i+ 1) hi
     unfold jt at this
     simp only [Bool.or_eq_false_iff,Bool.and_eq_false_iff,decide_eq_false_iff_not,Nat.add_sub_cancel] at this
     rcases this.1 with z | z
     · omega
     · have z: ¬ wd h.ay (i+ 1)<=wd h.ay i:=z
       show wd h.ay i <wd h.ay (i+ 1);omega
   · have:=oB i hi
     unfold jt ry at this
     simp only [Bool.or_eq_false_iff] at this
     have hm:wd (view h k Y O).H.ay i ∈ (view h k Y O).ar++(view h k Y O).aA:=by
      have:=this.2.1.1
      simp only [Bool.not_eq_false'] at this
      exact of_decide_eq_true this
     have bA:=ad.rJ _ hm
     have aC:0 <=wd h.ay i:=bA.pos
     have aU:(wd h.ay i).toNat+ 3 +(wd h.Words ((wd h.ay i).toNat+ 1)).toNat<=h.Words.length:=bA.fit
     exact ⟨aC,by show wd h.ay i <((5000 :Nat):Int);omega⟩)
 simp only [Bool.not_true,Bool.or_self,cond_false]
 rw [jV,Option.bind_some]
 by_cases lk:gq (view h k Y O)= 0
 case neg=>
  rw [qb lk]
  have ev:nS (view h k Y O)=gq (view h k Y O):=by unfold nS;rw [if_neg lk]
  have:=Spec.rest dN az
  rw [ev,if_neg lk] at this
  exact ⟨_,rfl,this⟩
 rw [lk,pg,A8,Option.bind_some]
 by_cases l4:sU (view h k Y O)= 0
 case neg=>
  rw [qb l4]
  have ev:nS (view h k Y O)=sU (view h k Y O):=by unfold nS;rw [if_pos lk,if_neg l4]
  have:=Spec.rest dN az
  rw [ev,if_neg l4] at this
  exact ⟨_,rfl,this⟩
 rw [l4,pg,aHw,Option.bind_some]
 have ev:nS (view h k Y O)=yz (view h k Y O):=by unfold nS;rw [if_pos lk,if_pos l4]
 have sv:=Spec.rest dN az
 rw [ev] at sv
 by_cases MK:yz (view h k Y O)= 0
 · rw [MK] at sv ⊢
   rw [pg]
   exact ⟨_,rfl,sv⟩
 · rw [qb MK]
   rw [if_neg MK] at sv
   exact ⟨_,rfl,sv⟩
end
end J
namespace J
theorem aHp {W:List Int} {p j:Nat} {x:Int} (b3:p <W.length):wd (W.set p x) j=if j=p then x else wd W j:=by
 unfold wd
 rw [List.getElem?_set]
 by_cases e:j=p
 · subst e;simp [b3]
 · have: ¬ p=j:=fun h=>e h.symm
   simp [e,this]
theorem aff {h:bs} {x:Int} (hy:0 <=h.ar) (ai:x ∈ free h):∃ i:Nat,i <h.Words.length/\(i= 0 \/(h.aO<=i/\(i:Int)<=h.ar)\/h.aM<=i)/\x=wd h.Words i:=by
 unfold free at ai
 rw [List.mem_append,List.mem_append] at ai
 rcases ai with ai | ai | ai
 · obtain ⟨i,hi,e⟩:=List.getElem_of_mem ai
   have xQ:i < 1 /\i <h.Words.length:=by rw [List.length_take] at hi;omega
   refine ⟨i,xQ.2,.inl (by omega),?_⟩
   rw [<-e,List.getElem_take];exact (rN (List.getElem?_eq_getElem xQ.2)).symm
 · obtain ⟨i,hi,e⟩:=List.getElem_of_mem ai
   have xQ:i <min (h.ar+ 1).toNat h.Words.length - h.aO.toNat:=by simpa using hi
   have aU:h.aO.toNat+i <h.Words.length:=by omega
   refine ⟨h.aO.toNat+i,aU,.inr (.inl ⟨by omega,by omega⟩),?_⟩
   rw [<-e,List.getElem_drop,List.getElem_take];exact (rN (List.getElem?_eq_getElem aU)).symm
 · obtain ⟨i,hi,e⟩:=List.getElem_of_mem ai
   have xQ:i <h.Words.length - h.aM.toNat:=by simpa using hi
   have aU:h.aM.toNat+i <h.Words.length:=by omega
   refine ⟨h.aM.toNat+i,aU,.inr (.inr (by omega)),?_⟩
   rw [<-e,List.getElem_drop];exact (rN (List.getElem?_eq_getElem aU)).symm
theorem acp {h:bs} (bE:0 <=h.aO/\ 0 <=h.aM) {i:Nat} (hi:i <h.Words.length) (hc:i= 0 \/(h.aO<=i/\(i:Int)<=h.ar)\/h.aM<=i):wd h.Words i ∈ free h:=by
 have key:wd h.Words i=h.Words[i]:=rN (List.getElem?_eq_getElem hi)
 unfold free
 rw [List.mem_append,List.mem_append,key]
 rcases hc with rfl | ⟨aC,aU⟩ | aC
 · left
   rw [List.mem_iff_getElem?]
   exact ⟨0,by rw [List.getElem?_take,if_pos (by omega)];exact List.getElem?_eq_getElem hi⟩
 · right;left
   rw [List.mem_iff_getElem?]
   refine ⟨i - h.aO.toNat,?_⟩
   rw [List.getElem?_drop,List.getElem?_take,if_pos (by omega),show h.aO.toNat+(i - h.aO.toNat)=i by omega]
   exact List.getElem?_eq_getElem hi
 · right;right
   rw [List.mem_iff_getElem?]
   refine ⟨i - h.aM.toNat,?_⟩
   rw [List.getElem?_drop,show h.aM.toNat+(i - h.aM.toNat)=i by omega]
   exact List.getElem?_eq_getElem hi
structure ES (h:bs) (k:bw) (Y O:List Int):Prop where
 hash:∀ a ∈ Y++O,1 <=a5 h.Words a/\a5 h.Words a <h.Next
 nodup:((Y++O).map (a5 h.Words)).Nodup
 ref:∀ a ∈ Y++O,∀ w ∈ refs k h.Words a.toNat,wd h.Words w.toNat= 0 \/wd h.Words w.toNat ∈ Y++O
 b0:∀ i:Nat,i <h.Words.length->(i= 0 \/(h.aO<=i/\(i:Int)<=h.ar)\/h.aM<=i)->wd h.Words i= 0
 af2:zn h.ay
 rz:∀ x ∈ h.ay,x ∈ O/\refs k h.Words x.toNat≠ []
 must:∀ a ∈ O,¬ a ∈ h.ay-> ∀ w ∈ refs k h.Words a.toNat,¬ (0 <wd h.Words w.toNat/\wd h.Words w.toNat<=h.ar)
section
variable {F:Nat} {k:bw} {h:bs} {Y O:List Int}
theorem ig.Jq (a5:ja h) (az:ig h k Y O):∀ a ∈ Y,1 <=a/\a.toNat+ 3 +(wd h.Words (a.toNat+ 1)).toNat<=h.aO.toNat:=fun a bK=>by
 obtain ⟨n,rfl,aC,aU,_⟩:=az.y.mem a bK
 exact ⟨by omega,by rw [Int.toNat_natCast];exact aU⟩
theorem ig.eG (a5:ja h) (az:ig h k Y O):∀ a ∈ O,h.ar+ 1 <=a/\a.toNat+ 3 +(wd h.Words (a.toNat+ 1)).toNat<=h.aM.toNat:=fun a bK=>by
 obtain ⟨n,rfl,aC,aU,_⟩:=az.o.mem a bK
 have:=a5.A.1.1
 exact ⟨by omega,by rw [Int.toNat_natCast];exact aU⟩
theorem age (bh:hW k) (dN:ja h) (az:ig h k Y O):nS (view h k Y O)= 0 ↔ ES h k Y O:=by
 have ad:=az.Yd bh dN
 obtain ⟨⟨⟨dY,eZ⟩,a3,a4⟩,b,⟨eb,eg⟩,⟨fH,iQ⟩,j5⟩:=id dN
 have hy:=az.Jq dN;have br:=az.eG dN
 have bO:gq (view h k Y O)= 0 ↔ (∀ a ∈ Y++O,lK (view h k Y O) a=false)/\((Y++O).map (a5 h.Words)).Nodup:=by
  unfold gq
  show (if (Y++O).any (lK (view h k Y O)) then (3 :Int) else if ((Y++O).map (a5 h.Words)).Nodup then 0 else 6)= 0 ↔ _
  cases a1:(Y++O).any (lK (view h k Y O)) with
  | true=>
    rw [if_pos rfl]
    refine ⟨fun e=>(by cases e),fun ⟨e,_⟩=>?_⟩
    obtain ⟨x,ai,b4⟩:=List.any_eq_true.1 a1
    rw [e x ai] at b4;cases b4
  | false=>
    rw [if_neg (by decide)]
    rw [List.any_eq_false] at a1
    have iD:∀ a ∈ Y++O,lK (view h k Y O) a=false:=fun a bK=>by simpa using a1 a bK
    split
    · rename_i af;exact ⟨fun _=>⟨iD,af⟩,fun _=>rfl⟩
    · rename_i af;exact ⟨fun e=>(by cases e),fun e=>absurd e.2 af⟩
 have b4:sU (view h k Y O)= 0 ↔ (∀ a ∈ Y++O,nJ (view h k Y O) a=false)/\ ∀ x ∈ free h,x= 0 :=by
  unfold sU
  show (if (Y++O).any (nJ (view h k Y O)) then (5 :Int) else if (free h).any (fun x=>!decide (x= 0)) then 1 else 0)= 0 ↔ _
  cases a1:(Y++O).any (nJ (view h k Y O)) with
  | true=>
    rw [if_pos rfl]
    refine ⟨fun e=>(by cases e),fun ⟨e,_⟩=>?_⟩
    obtain ⟨x,ai,b4⟩:=List.any_eq_true.1 a1
    rw [e x ai] at b4;cases b4
  | false=>
    rw [if_neg (by decide)]
    rw [List.any_eq_false] at a1
    have iD:∀ a ∈ Y++O,nJ (view h k Y O) a=false:=fun a bK=>by simpa using a1 a bK
    cases I:(free h).any (fun x=>!decide (x= 0)) with
    | true=>
      rw [if_pos rfl]
      refine ⟨fun e=>(by cases e),fun ⟨_,e⟩=>?_⟩
      obtain ⟨x,ai,b4⟩:=List.any_eq_true.1 I
      rw [e x ai] at b4;cases b4
    | false=>
      rw [if_neg (by decide)]
      rw [List.any_eq_false] at I
      exact ⟨fun _=>⟨iD,fun x ai=>by simpa using I x ai⟩,fun _=>rfl⟩
 have eu:yz (view h k Y O)= 0 ↔ (∀ i,i <h.ay.length->jt (view h k Y O) i=false)/\ ∀ a ∈ O,pb (view h k Y O) a=false:=by
  unfold yz
  show (if (List.range h.ay.length).any (jt (view h k Y O)) || O.any (pb (view h k Y O)) then (4 :Int) else 0)= 0 ↔ _
  cases a1:(List.range h.ay.length).any (jt (view h k Y O)) with
  | true=>
    rw [Bool.true_or,if_pos rfl]
    refine ⟨fun e=>(by cases e),fun ⟨e,_⟩=>?_⟩
    obtain ⟨x,ai,b4⟩:=List.any_eq_true.1 a1
    rw [e x (by simpa using ai)] at b4;cases b4
  | false=>
    rw [Bool.false_or]
    rw [List.any_eq_false] at a1
    have iD:∀ i,i <h.ay.length->jt (view h k Y O) i=false:=fun i hi=>by simpa using a1 i (by simpa using hi)
    cases I:O.any (pb (view h k Y O)) with
    | true=>
      rw [if_pos rfl]
      refine ⟨fun e=>(by cases e),fun ⟨_,e⟩=>?_⟩
      obtain ⟨x,ai,b4⟩:=List.any_eq_true.1 I
      rw [e x ai] at b4;cases b4
    | false=>
      rw [if_neg (by decide)]
      rw [List.any_eq_false] at I
      exact ⟨fun _=>⟨iD,fun x ai=>by simpa using I x ai⟩,fun _=>rfl⟩
 have g8:nS (view h k Y O)= 0 ↔ gq (view h k Y O)= 0 /\sU (view h k Y O)= 0 /\yz (view h k Y O)= 0 :=by
  unfold nS
  by_cases lk:gq (view h k Y O)= 0
  · rw [if_pos lk]
    by_cases l4:sU (view h k Y O)= 0
    · rw [if_pos l4];exact ⟨fun e=>⟨lk,l4,e⟩,fun e=>e.2.2⟩
    · rw [if_neg l4];exact ⟨fun e=>absurd e l4,fun e=>absurd e.2.1 l4⟩
  · rw [if_neg lk];exact ⟨fun e=>absurd e lk,fun e=>absurd e.1 lk⟩
 rw [g8,bO,b4,eu]
 have Am:∀ x,(ry (view h k Y O) x=false) ↔ x ∈ O/\refs k h.Words x.toNat≠ []:=fun x=>by
  unfold ry kd
  show ((!decide (x ∈ Y++O) || (decide (0 <x) && decide (x<=h.ar))) || (refs k h.Words x.toNat).isEmpty)=false ↔ _
  rw [Bool.or_eq_false_iff,Bool.or_eq_false_iff]
  constructor
  · rintro ⟨⟨aC,aU⟩,bS⟩
    have aC:x ∈ Y++O:=by simp only [Bool.not_eq_false'] at aC;exact of_decide_eq_true aC
    refine ⟨?_,fun e=>by rw [e] at bS;cases bS⟩
    rcases List.mem_append.1 aC with ew | ew
    · have:=hy x ew
      rw [decide_eq_true (by omega),decide_eq_true (by omega)] at aU
      cases aU
    · exact ew
  · rintro ⟨aC,aU⟩
    have:=br x aC
    refine ⟨⟨?_,?_⟩,?_⟩
    · rw [decide_eq_true (List.mem_append_right _ aC)];rfl
    · rw [decide_eq_false (p:=x<=h.ar) (by omega),Bool.and_false]
    · cases e:refs k h.Words x.toNat with
      | nil=>exact absurd e aU
      | cons _ _=>rfl
 constructor
 · rintro ⟨⟨aC,aU⟩,⟨bS,ew⟩,lH,tR⟩
   refine ⟨fun a bK=>?_,aU,fun a bK w hw=>?_,fun i hi hc=>ew _ (acp ⟨by omega,by omega⟩ hi hc),X6 fun i hi=>?_,fun x ai=>?_,fun a bK af w hw=>?_⟩
   · have:=aC a bK
     unfold lK at this
     rw [Bool.or_eq_false_iff,decide_eq_false_iff_not,decide_eq_false_iff_not] at this
     have t1: ¬ a5 h.Words a < 1 :=this.1
     have t2: ¬ h.Next<=a5 h.Words a:=this.2
     omega
   · have:=bS a bK
     unfold nJ at this
     rw [List.any_eq_false] at this
     have zL:=this w hw
     unfold sV at zL
     by_cases e:wd h.Words w.toNat= 0
     · exact .inl e
     · refine .inr ?_
       by_cases b4:wd h.Words w.toNat ∈ Y++O
       · exact b4
       · refine absurd ?_ zL
         show (!decide (wd h.Words w.toNat= 0) && !decide (wd h.Words w.toNat ∈ Y++O))=true
         rw [decide_eq_false e,decide_eq_false b4];rfl
   · have:=lH (i+ 1) hi
     unfold jt at this
     simp only [Bool.or_eq_false_iff,Bool.and_eq_false_iff,decide_eq_false_iff_not,Nat.add_sub_cancel] at this
     rcases this.1 with z | z
     · omega
     · have z: ¬ wd h.ay (i+ 1)<=wd h.ay i:=z
       omega
   · obtain ⟨i,hi,e⟩:=WI ai
     have:=lH i hi
     unfold jt at this
     rw [Bool.or_eq_false_iff] at this
     have zL:ry (view h k Y O) (wd h.ay i)=false:=this.2
     rw [e] at zL
     exact (Am x).1 zL
   · rintro ⟨D',Pv⟩
     have:=tR a bK
     unfold pb at this
     have this:(!decide (a ∈ h.ay) && (refs k h.Words a.toNat).any fun w=>kd (view h k Y O) (wd h.Words w.toNat))=false:=this
     rw [decide_eq_false af,Bool.not_false,Bool.true_and,List.any_eq_false] at this
     refine this w hw ?_
     show (decide (0 <wd h.Words w.toNat) && decide (wd h.Words w.toNat<=h.ar))=true
     rw [decide_eq_true D',decide_eq_true Pv];rfl
 · intro g
   refine ⟨⟨fun a bK=>?_,g.nodup⟩,⟨fun a bK=>?_,fun x ai=>?_⟩,fun i hi=>?_,fun a bK=>?_⟩
   · have:=g.hash a bK
     show (decide (a5 h.Words a < 1) || decide (h.Next<=a5 h.Words a))=false
     rw [decide_eq_false (by omega),decide_eq_false (by omega)];rfl
   · show ((refs k h.Words a.toNat).any (sV (view h k Y O)))=false
     rw [List.any_eq_false]
     intro w hw
     show ¬ (!decide (wd h.Words w.toNat= 0) && !decide (wd h.Words w.toNat ∈ Y++O))=true
     rcases g.ref a bK w hw with e | e
     · rw [decide_eq_true e];simp
     · rw [decide_eq_true e];simp
   · obtain ⟨i,hi,hc,e⟩:=aff (by omega) ai
     rw [e];exact g.b0 i hi hc
   · show ((decide (0 <i) && decide (wd h.ay i<=wd h.ay (i - 1))) || ry (view h k Y O) (wd h.ay i))=false
     rw [(Am _).2 (g.rz _ (Yj hi)),Bool.or_false]
     by_cases bE:0 <i
     · have:=g.af2 (i - 1) i (by omega) hi
       rw [decide_eq_false (p:=wd h.ay i<=wd h.ay (i - 1)) (by omega),Bool.and_false]
     · rw [decide_eq_false bE];rfl
   · show (!decide (a ∈ h.ay) && (refs k h.Words a.toNat).any fun w=>kd (view h k Y O) (wd h.Words w.toNat))=false
     by_cases af:a ∈ h.ay
     · rw [decide_eq_true af];rfl
     · rw [decide_eq_false af,Bool.not_false,Bool.true_and,List.any_eq_false]
       intro w hw e
       have e:(decide (0 <wd h.Words w.toNat) && decide (wd h.Words w.toNat<=h.ar))=true:=e
       simp only [Bool.and_eq_true,decide_eq_true_eq] at e
       exact g.must a bK af w hw e
theorem gZ.apart {W:List Int} {to q:Nat} {L:List Int} (h:gZ k W to q L):∀ a ∈ L,∀ b ∈ L,a≠b->a.toNat+ 3 +(wd W (a.toNat+ 1)).toNat<=b.toNat\/b.toNat+ 3 +(wd W (b.toNat+ 1)).toNat<=a.toNat:=by
 induction h with
 | nil=>intro a bK;cases bK
 | cons aC aU bS hw cv=>
   intro a bK b a1 e6
   rcases List.mem_cons.1 bK with rfl | bK
   · rcases List.mem_cons.1 a1 with rfl | a1
     · exact absurd rfl e6
     · obtain ⟨n,rfl,ew,_⟩:=hw.mem b a1
       left;simp only [Int.toNat_natCast];exact ew
   · rcases List.mem_cons.1 a1 with rfl | a1
     · obtain ⟨n,rfl,ew,_⟩:=hw.mem a bK
       right;simp only [Int.toNat_natCast];exact ew
     · exact cv a bK b a1 e6
theorem ig.apart (a5:ja h) (az:ig h k Y O):∀ a ∈ Y++O,∀ b ∈ Y++O,a≠b->a.toNat+ 3 +(wd h.Words (a.toNat+ 1)).toNat<=b.toNat\/b.toNat+ 3 +(wd h.Words (b.toNat+ 1)).toNat<=a.toNat:=by
 intro a bK b a1 e6
 have hc:=a5.C.1.2
 rcases List.mem_append.1 bK with bK | bK <;> rcases List.mem_append.1 a1 with a1 | a1
 · exact az.y.apart a bK b a1 e6
 · have:=az.Jq a5 a bK;have:=az.eG a5 b a1;left;omega
 · have:=az.eG a5 a bK;have:=az.Jq a5 b a1;right;omega
 · exact az.o.apart a bK b a1 e6
theorem gZ.congr {W j2:List Int} {to q:Nat} {L:List Int} (h:gZ k W to q L) (he:∀ a ∈ L,wd j2 a.toNat=wd W a.toNat/\wd j2 (a.toNat+ 1)=wd W (a.toNat+ 1)):gZ k j2 to q L:=by
 induction h with
 | nil=>exact .nil
 | @cons q r aC aU bS hw cv=>
   obtain ⟨bO,b4⟩:=he _ List.mem_cons_self
   simp only [Int.toNat_natCast] at bO b4
   have:=cv (fun a bK=>he a (List.mem_cons_of_mem _ bK))
   rw [<-b4] at this bS aU
   rw [<-bO] at aC aU
   exact .cons aC aU bS this
theorem aGu {W j2:List Int} {q:Nat} (aC:wd j2 q=wd W q) (aU:wd j2 (q+ 1)=wd W (q+ 1)):refs k j2 q=refs k W q:=by unfold refs;rw [aC,aU]
end
end J
namespace J
section
variable {F:Nat} {k:bw}
theorem afF (h:hW k) (t:Int):wO k t=some (gC k t):=by
 have hc:=h.QE
 unfold wO gC
 rw [dy (by omega) (by omega),Option.some.injEq,Bool.eq_iff_iff]
 simp;omega
theorem afE (h:hW k) {t:Int} (bA:gC k t=true) (n:Int):wN k t n=some (isLen k t n):=by
 unfold wN gY isLen
 simp only [Option.bind_some]
 cases a1:(decide (0 <=n) && decide (n<= 500)) with
 | false=>simp
 | true=>
   by_cases bS:t < 3
   · simp [bS]
   · rw [Ny h bA bS];simp [bS]
theorem aF3 (h:hW k) {t:Int} (bA:gC k t=true) {n:Int} (af:isLen k t n=true) {j:Nat} (bb:(j:Int) <n):BZ k t (j:Int)=some (lQ k t j):=by
 unfold BZ lQ
 obtain ⟨_,az⟩:=sw.1 af
 by_cases aU:t= 2
 · simp [aU]
 by_cases bS:t < 3
 · have: ¬ 3 <=t:=by omega
   simp [aU,this]
 · have az:=az.resolve_left bS
   have Q2:3 <=t:=by omega
   have Hc:j <(AZ k t).length:=by omega
   rw [Ny h bA bS,Option.bind_some,cd (List.getElem?_eq_getElem Hc),List.getElem?_eq_getElem Hc]
   simp [aU,Q2]
theorem gZ.le {W:List Int} {to q:Nat} {L:List Int} (h:gZ k W to q L):q<=to:=by
 cases h with
 | nil=>exact Nat.le_refl _
 | cons aC aU bS ew=>omega
theorem akD (h:bs) (a5:hW k) {to:Nat} (At:to<=h.Words.length) (jl:h.Words.length<= 5000):∀ (f q:Nat) (acc:List Int),to - q <f->q<= 6000 ->acc.length+(to - q)<= 6000 ->
 (∃ L,gZ k h.Words to q L/\tr h k (to:Int) f acc (q:Int)=some (.go (acc++L,(to:Int)))) \/
 ((∀ L,¬ gZ k h.Words to q L)/\(tr h k (to:Int) f acc (q:Int)=some (.out ([],false))\/ ∃ x,tr h k (to:Int) f acc (q:Int)=some (.go x)/\x.2 ≠(to:Int))):=by
 intro f
 induction f with
 | zero=>intro q acc h;omega
 | succ f cv=>
   intro q acc I en tY
   rw [tr]
   by_cases eh:q <to
   case neg=>
    by_cases e:q=to
    · subst e
      refine .inl ⟨[],.nil,?_⟩
      rw [cJ];simp
    · rw [show decide ((q:Int) <(to:Int))=false from decide_eq_false (by omega)]
      exact .inr ⟨fun L hz=>by have:=hz.le;omega,.inr ⟨(acc,(q:Int)),rfl,by show (q:Int)≠(to:Int);omega⟩⟩
   rw [cK eh,cond_true,dy (n:=(q:Int)+ 3) (by omega) (by omega)]
   by_cases bS:(to:Int) <(q:Int)+ 3
   · rw [decide_eq_true bS]
     refine .inr ⟨fun L hz=>?_,.inl rfl⟩
     obtain ⟨_,_,_,_,h,_⟩:=hz.inv eh
     omega
   rw [decide_eq_false bS,cond_false,lN (by omega),Option.bind_some]
   have bO:wO (⟨k.aJ,k.aG,k.Fields,k.Names,k.aE⟩:bw) (wd h.Words q)=some (gC k (wd h.Words q)):=afF a5 _
   rw [bO,Option.bind_some]
   cases bA:gC k (wd h.Words q) with
   | false=>
     refine .inr ⟨fun L hz=>?_,.inl rfl⟩
     obtain ⟨_,_,h,_⟩:=hz.inv eh
     rw [bA] at h;cases h
   | true=>
     have b4:wN (⟨k.aJ,k.aG,k.Fields,k.Names,k.aE⟩:bw) (wd h.Words q) (wd h.Words (q+ 1))=some (isLen k (wd h.Words q) (wd h.Words (q+ 1))):=afE a5 bA _
     rw [Bool.not_true,cond_false,Option.bind_some,dy (n:=(q:Int)+ 1) (by omega) (by omega),iE (i:=q+ 1) (by omega) (by omega),Option.bind_some,b4,Option.bind_some]
     cases az:isLen k (wd h.Words q) (wd h.Words (q+ 1)) with
     | false=>
       refine .inr ⟨fun L hz=>?_,.inl rfl⟩
       obtain ⟨_,_,_,h,_⟩:=hz.inv eh
       rw [az] at h;cases h
     | true=>
       obtain ⟨⟨yb,l1⟩,_⟩:=sw.1 az
       rw [Bool.not_true,cond_false,iv (by simp;omega),Option.bind_some,Option.bind_some,dy (n:=3 +wd h.Words (q+ 1)) (by omega) (by omega),dy (n:=(q:Int)+(3 +wd h.Words (q+ 1))) (by omega) (by omega)]
       rw [show (q:Int)+(3 +wd h.Words (q+ 1))=((q+ 3 +(wd h.Words (q+ 1)).toNat:Nat):Int) by omega]
       rcases cv (q+ 3 +(wd h.Words (q+ 1)).toNat) (acc++[(q:Int)]) (by omega) (by omega) (by simp;omega) with ⟨L,hz,e⟩ | ⟨af,e⟩
       · refine .inl ⟨(q:Int)::L,.cons bA az hz.le hz,?_⟩
         rw [e];simp
       · refine .inr ⟨fun L hz=>?_,e⟩
         obtain ⟨r,_,_,_,_,h⟩:=hz.inv eh
         exact af r h
theorem afD (bV:6000 <F) (h:bs) (a5:hW k) {to q:Nat} (en:q<= 5000) (At:to<=h.Words.length) (jl:h.Words.length<= 5000) :
 (∃ L,gZ k h.Words to q L/\qJ F h k (q:Int) (to:Int)=some (L,true))\/((∀ L,¬ gZ k h.Words to q L)/\ ∃ l,qJ F h k (q:Int) (to:Int)=some (l,false)):=by
 unfold qJ
 rcases akD h a5 At jl F q [] (by omega) (by omega) (by simp;omega) with ⟨L,hz,e⟩ | ⟨af,e | ⟨x,e,ai⟩⟩
 · exact .inl ⟨L,hz,by rw [e,qh];simp⟩
 · exact .inr ⟨af,[],by rw [e,afY]⟩
 · exact .inr ⟨af,x.1,by rw [e,qh];show some (x.1,decide (x.2 =(to:Int)))=_;rw [decide_eq_false ai]⟩
theorem acq {α ρ:Type} {p:α->Bool} {e:ρ}:∀ l:List α,l.findSome? (fun x=>if p x then some e else none)=if l.any p then some e else none
 | []=>rfl
 | x::r=>by
   rw [List.findSome?_cons,List.any_cons]
   cases p x with
   | true=>rfl
   | false=>simp only [Bool.false_or];exact acq r
theorem XN {l:List Int} (az:Small F l.length) (n:Int):tm F l n=some (decide (n ∈ l)):=by
 unfold tm
 have l1:wM l n F 0 =some (dE (l.findSome? fun x=>if decide (x=n) then some true else none)):=each _ az.1 (fun f i x ai=>by
  rw [wM,cK (List.getElem?_eq_some_iff.1 ai).1,cond_true,cd ai,Option.bind_some]
  cases decide (x=n) <;> rfl) (fun f=>by rw [wM,cJ];rfl) az.2
 rw [l1,acq]
 by_cases e:n ∈ l
 · rw [show (l.any fun x=>decide (x=n))=true from List.any_eq_true.2 ⟨n,e,by simp⟩,decide_eq_true e];rfl
 · rw [show (l.any fun x=>decide (x=n))=false from List.any_eq_false.2 fun x ai=>by simp;rintro rfl;exact e ai,decide_eq_false e];rfl
theorem aF4 (bV:6000 <F) (h:bs) (a5:hW k) {q:Nat} (en:q+ 3 +(wd h.Words (q+ 1)).toNat<=h.Words.length) (jl:h.Words.length<= 5000) (bA:gC k (wd h.Words q)=true) (az:isLen k (wd h.Words q) (wd h.Words (q+ 1))=true) :
 r8 F h k (q:Int)=some (refs k h.Words q):=by
 obtain ⟨⟨yb,l1⟩,_⟩:=sw.1 az
 unfold r8
 generalize af:(wd h.Words (q+ 1)).toNat=n at en
 have FQ:wd h.Words (q+ 1)=(n:Int):=by omega
 have pr:=az
 rw [FQ] at pr
 have l1:=tt (l:=List.range n) (fun f acc i=>r9 (q:Int) h k f acc (i:Int)) (fun j=>if lQ k (wd h.Words q) j then [((q+ 3 +j:Nat):Int)] else []) 1 5000 (fun x _=>by split <;> simp) (fun f i x acc ai bK=>by
  have hi:i <n:=by have:=(List.getElem?_eq_some_iff.1 ai).1;simpa using this
  rw [List.getElem?_range hi] at ai
  simp only [Option.some.injEq] at ai
  subst ai
  rw [r9,dy (n:=(q:Int)+ 1) (by omega) (by omega),iE (i:=q+ 1) (by omega) (by omega),Option.bind_some,FQ,cK hi,cond_true,lN (by omega),Option.bind_some]
  have bO:BZ (⟨k.aJ,k.aG,k.Fields,k.Names,k.aE⟩:bw) (wd h.Words q) (i:Int)=some (lQ k (wd h.Words q) i):=aF3 a5 bA pr (by omega)
  rw [bO,Option.bind_some]
  show _=r9 (q:Int) h k f _ _
  cases lQ k (wd h.Words q) i with
  | true=>
    rw [cond_true,dy (n:=(q:Int)+ 3) (by omega) (by omega),dy (n:=(q:Int)+ 3 +i) (by omega) (by omega),iv (by simp;omega),Option.bind_some,Option.bind_some,gS hi (by omega),if_pos rfl]
    congr 2
  | false=>
    rw [cond_false,Option.bind_some,gS hi (by omega),if_neg (by decide),List.append_nil]) (fun f acc=>by
  rw [List.length_range,r9,dy (n:=(q:Int)+ 1) (by omega) (by omega),iE (i:=q+ 1) (by omega) (by omega),Option.bind_some,FQ,cJ];rfl) (F:=F) (by simp;omega) (acc:=[]) (by simp;omega)
 have l1:r9 (q:Int) h k F [] 0 =_:=l1
 rw [l1,Option.bind_some,List.nil_append,refs,af]
theorem aF2 (bV:6000 <F) {h:bs} (bh:hW k) (a5:ja h):(∃ Y O,ig h k Y O/\w1 F h k=some (Y,O,true))\/((∀ Y O,¬ ig h k Y O)/\ ∃ Y O,w1 F h k=some (Y,O,false)):=by
 have hw:=a5.kt
 obtain ⟨⟨⟨dY,eZ⟩,a3,a4⟩,b,⟨eb,eg⟩,⟨fH,iQ⟩,j5⟩:=id a5
 unfold okB at b
 unfold w1
 have t1:=afD (F:=F) bV h bh (q:=1) (to:=h.aO.toNat) (by omega) (by omega) (by omega)
 have t2:=afD (F:=F) bV h bh (q:=(h.ar+ 1).toNat) (to:=h.aM.toNat) (by omega) (by omega) (by omega)
 rw [show ((h.aO.toNat:Nat):Int)=h.aO by omega] at t1
 rw [show ((h.aM.toNat:Nat):Int)=h.aM by omega,show (((h.ar+ 1).toNat:Nat):Int)=h.ar+ 1 by omega] at t2
 rw [dy (n:=h.ar+ 1) (by omega) (by omega)]
 have NA:∀ r,qJ F h k 1 h.aO=some r->qJ F (⟨h.Words,h.ar,h.aA,h.aO,h.aM,h.ay,h.Next⟩:bs) (⟨k.aJ,k.aG,k.Fields,k.Names,k.aE⟩:bw) 1 h.aO=some r:=fun r e=>e
 have aHh:∀ r,qJ F h k (h.ar+ 1) h.aM=some r->qJ F (⟨h.Words,h.ar,h.aA,h.aO,h.aM,h.ay,h.Next⟩:bs) (⟨k.aJ,k.aG,k.Fields,k.Names,k.aE⟩:bw) (h.ar+ 1) h.aM=some r:=fun r e=>e
 rcases t1 with ⟨Y,Lp,bO⟩ | ⟨Dg,Y,bO⟩ <;> rcases t2 with ⟨O,mA,b4⟩ | ⟨AG,O,b4⟩ <;> rw [NA _ bO,Option.bind_some,aHh _ b4,Option.bind_some]
 · exact .inl ⟨Y,O,⟨Lp,mA⟩,rfl⟩
 · exact .inr ⟨fun Y O h=>AG _ h.o,Y,O,rfl⟩
 · exact .inr ⟨fun Y O h=>Dg _ h.y,Y,O,rfl⟩
 · exact .inr ⟨fun Y O h=>Dg _ h.y,Y,O,rfl⟩
end
end J
namespace J
section
variable {F:Nat} {k:bw} {h:bs} {Y O:List Int}
theorem UR {b:Bool} {e:Int} {K:Option (Way Int Unit)}:hJ (if b=true then some e else none) K=cond b (some (.out e)) K:=by cases b <;> rfl
theorem aF5 (bV:10000 <F) (aC:1 <=h.Next) (af:h.Next<= 9223372036854775807) (ad:n_ (view h k Y O)):wm h (Y++O) F 0 =some (dE (if (Y++O).any (lK (view h k Y O)) then some 3 else none)):=by
 have hc:Y.length+O.length<= 5000 :=ad.tM
 have hw:h.Words.length<= 4900 :=ad.kt
 rw [<-nq]
 exact each _ (by simp;omega) (fun f i a bK=>by
  have hm:=List.mem_of_getElem? bK
  have bA:qK (view h k Y O) a:=ad.rJ a hm
  have bE:0 <=a:=bA.pos
  have aU:a.toNat+ 3 +(wd h.Words (a.toNat+ 1)).toNat<=h.Words.length:=bA.fit
  rw [wm,cK (List.getElem?_eq_some_iff.1 bK).1,cond_true,cd bK,Option.bind_some,dy (n:=a+ 2) (by omega) (by omega),iE (i:=a.toNat+ 2) (by omega) (by omega),Option.bind_some]
  unfold gY
  rw [Option.bind_some,dy (n:=h.Next - 1) (by omega) (by omega),UR]
  congr 1
  show _=(decide (wd h.Words (a.toNat+ 2) < 1) || decide (h.Next<=wd h.Words (a.toNat+ 2)))
  rw [Bool.eq_iff_iff];simp;omega) (fun f=>by rw [wm,cJ];rfl) (by simp;omega)
theorem aFv {l:List Int}:(List.range l.length).any (fun i=>(List.range i).any fun j=>decide (wd l i=wd l j))= !decide l.Nodup:=by
 rw [Bool.eq_iff_iff,List.any_eq_true]
 simp only [List.mem_range,List.any_eq_true,decide_eq_true_eq,Bool.not_eq_true',decide_eq_false_iff_not]
 rw [List.Nodup,List.pairwise_iff_getElem]
 constructor
 · rintro ⟨i,hi,j,bb,e⟩ b3
   have:=b3 j i (by omega) hi bb
   rw [rN (List.getElem?_eq_getElem hi),rN (List.getElem?_eq_getElem (by omega:j <l.length))] at e
   exact this e.symm
 · intro b3
   apply Classical.byContradiction
   intro e6
   refine b3 fun j i bb hi iR e=>e6 ⟨i,hi,j,iR,?_⟩
   rw [rN (List.getElem?_eq_getElem hi),rN (List.getElem?_eq_getElem bb)];exact e.symm
theorem aF6 (bV:10000 <F) (ad:n_ (view h k Y O)):tf F h (Y++O) F 0 =some (dE (if ((Y++O).map (a5 h.Words)).Nodup then none else some 6)):=by
 have hc:Y.length+O.length<= 5000 :=ad.tM
 have hw:h.Words.length<= 4900 :=ad.kt
 have az:(Y++O).length<= 5000 :=by simp;omega
 have at_:∀ i,i <(Y++O).length->idx (Y++O) (i:Int)=some (wd (Y++O) i)/\idx h.Words (ap (wd (Y++O) i+ 2))=some (wd ((Y++O).map (a5 h.Words)) i):=fun i hi=>by
  have bO:wd (Y++O) i=(Y++O)[i]:=rN (List.getElem?_eq_getElem hi)
  have bA:qK (view h k Y O) (Y++O)[i]:=ad.rJ _ (List.getElem_mem hi)
  have bE:0 <=(Y++O)[i]:=bA.pos
  have aU:(Y++O)[i].toNat+ 3 +(wd h.Words ((Y++O)[i].toNat+ 1)).toNat<=h.Words.length:=bA.fit
  refine ⟨lN hi,?_⟩
  rw [bO,dy (by omega) (by omega),iE (i:=(Y++O)[i].toNat+ 2) (by omega) (by omega)]
  refine congrArg some (rN ?_).symm
  rw [List.getElem?_map,List.getElem?_eq_getElem hi];rfl
 have l1:tf F h (Y++O) F 0 =some (dE ((List.range (Y++O).length).findSome? fun i=>if (List.range i).any (fun j=>decide (wd ((Y++O).map (a5 h.Words)) i=wd ((Y++O).map (a5 h.Words)) j)) then some 6 else none)):=kz _ (by omega) (fun f i hi=>by
  rw [tf,cK hi,cond_true]
  have gf:wo h (Y++O) (i:Int) F 0 =some (dE ((List.range i).findSome? fun j=>if decide (wd ((Y++O).map (a5 h.Words)) i=wd ((Y++O).map (a5 h.Words)) j) then some 6 else none)):=kz _ (by omega) (fun e4 j bb=>by
   rw [wo,cK bb,cond_true,(at_ i hi).1,Option.bind_some,(at_ i hi).2,Option.bind_some,(at_ j (by omega)).1,Option.bind_some,(at_ j (by omega)).2,Option.bind_some]
   cases decide (wd ((Y++O).map (a5 h.Words)) i=wd ((Y++O).map (a5 h.Words)) j) <;> rfl) (fun e4=>by rw [wo,cJ];rfl) (by omega)
  rw [gf,nq]
  cases (List.range i).any (fun j=>decide (wd ((Y++O).map (a5 h.Words)) i=wd ((Y++O).map (a5 h.Words)) j)) <;> rfl) (fun f=>by rw [tf,cJ];rfl) (by omega)
 rw [l1,nq]
 have e:=aFv (l:=(Y++O).map (a5 h.Words))
 rw [List.length_map] at e
 rw [e]
 by_cases bT:((Y++O).map (a5 h.Words)).Nodup
 · rw [if_pos bT,decide_eq_true bT];rfl
 · rw [if_neg bT,decide_eq_false bT];rfl
theorem X9 (bV:10000 <F) (ad:n_ (view h k Y O)) {a:Int} (bK:a ∈ Y++O):r8 F (⟨h.Words,h.ar,h.aA,h.aO,h.aM,h.ay,h.Next⟩:bs) (⟨k.aJ,k.aG,k.Fields,k.Names,k.aE⟩:bw) a=some (refs k h.Words a.toNat):=by
 have bA:qK (view h k Y O) a:=ad.rJ a bK
 have hw:h.Words.length<= 4900 :=ad.kt
 have:=aF4 (F:=F) (by omega) h ad.vu (q:=a.toNat) bA.fit (by omega) bA.tag bA.len
 rwa [show ((a.toNat:Nat):Int)=a by have:=bA.pos;omega] at this
theorem aF7 (bV:10000 <F) (ad:n_ (view h k Y O)):wq F h k (Y++O) F 0 =some (dE (if (Y++O).any (nJ (view h k Y O)) then some 5 else none)):=by
 have hc:Y.length+O.length<= 5000 :=ad.tM
 have hw:h.Words.length<= 4900 :=ad.kt
 rw [<-nq]
 exact each _ (by simp;omega) (fun f i a bK=>by
  have hm:=List.mem_of_getElem? bK
  have bA:qK (view h k Y O) a:=ad.rJ a hm
  have Uw:(refs k h.Words a.toNat).length<= 5000 :=Nf ad bA
  rw [wq,cK (List.getElem?_eq_some_iff.1 bK).1,cond_true,cd bK,Option.bind_some,X9 bV ad hm,Option.bind_some]
  have gf:tg F h (Y++O) (refs k h.Words a.toNat) F 0 =some (dE ((refs k h.Words a.toNat).findSome? fun w=>if sV (view h k Y O) w then some 5 else none)):=each _ (by omega) (fun e4 Av w hg=>by
   have gB:=List.mem_of_getElem? hg
   have ai:idx h.Words w=some (wd h.Words w.toNat):=bA.Nd gB
   rw [tg,cK (List.getElem?_eq_some_iff.1 hg).1,cond_true,cd hg,Option.bind_some,ai,Option.bind_some,Option.bind_some,ai,Option.bind_some,XN ⟨by simp;omega,by simp;omega⟩,Option.bind_some]
   show _=hJ (if (!decide (wd h.Words w.toNat= 0) && !decide (wd h.Words w.toNat ∈ Y++O))=true then some 5 else none) _
   cases decide (wd h.Words w.toNat= 0) <;> cases decide (wd h.Words w.toNat ∈ Y++O) <;> rfl) (fun e4=>by rw [tg,cJ];rfl) (by omega)
  rw [gf,nq]
  show _=hJ (if (refs k h.Words a.toNat).any (sV (view h k Y O)) then some 5 else none) _
  cases (refs k h.Words a.toNat).any (sV (view h k Y O)) <;> rfl) (fun f=>by rw [wq,cJ];rfl) (by simp;omega)
theorem aF8 (bV:10000 <F) (dN:ja h):r5 h F 0 =some (dE (if (free h).any (fun x=>!decide (x= 0)) then some 1 else none)):=by
 have hw:=dN.kt
 obtain ⟨⟨⟨dY,eZ⟩,a3,a4⟩,b,⟨eb,eg⟩,⟨fH,iQ⟩,j5⟩:=id dN
 have l1:r5 h F 0 =some (dE ((List.range h.Words.length).findSome? fun i=>if (!decide (wd h.Words i= 0) && (decide ((i:Int)= 0) || ((decide (h.aO<=(i:Int)) && decide ((i:Int)<=h.ar)) || decide (h.aM<=(i:Int))))) then some 1 else none)):=kz _ (by omega) (fun f i hi=>by
  rw [r5,cK hi,cond_true,lN hi,Option.bind_some]
  unfold gY
  rw [Option.bind_some]
  cases decide (wd h.Words i= 0) <;> cases decide ((i:Int)= 0) <;> cases ((decide (h.aO<=(i:Int)) && decide ((i:Int)<=h.ar)) || decide (h.aM<=(i:Int))) <;> rfl) (fun f=>by rw [r5,cJ];rfl) (by omega)
 rw [l1,nq]
 refine congrArg (fun b:Bool=>some (dE (if b=true then some 1 else none))) ?_
 rw [Bool.eq_iff_iff,List.any_eq_true,List.any_eq_true]
 constructor
 · rintro ⟨i,hi,e⟩
   simp only [Bool.and_eq_true,Bool.or_eq_true,Bool.not_eq_true',decide_eq_false_iff_not,decide_eq_true_eq] at e
   rw [List.mem_range] at hi
   exact ⟨wd h.Words i,acp ⟨by omega,by omega⟩ hi (by rcases e.2 with e | e | e;exact .inl (by omega);exact .inr (.inl e);exact .inr (.inr e)),by simpa using e.1⟩
 · rintro ⟨x,ai,e⟩
   obtain ⟨i,hi,hc,rfl⟩:=aff (by omega) ai
   refine ⟨i,List.mem_range.2 hi,?_⟩
   simp only [Bool.and_eq_true,Bool.or_eq_true,Bool.not_eq_true',decide_eq_false_iff_not,decide_eq_true_eq] at e ⊢
   exact ⟨e,by rcases hc with e | e | e;exact .inl (by omega);exact .inr (.inl e);exact .inr (.inr e)⟩
theorem afp (dN:ja h) (az:ig h k Y O) {x:Int}:x ∈ O ↔ x ∈ Y++O/\kd (view h k Y O) x=false:=by
 obtain ⟨⟨⟨dY,eZ⟩,a3,a4⟩,b,⟨eb,eg⟩,⟨fH,iQ⟩,j5⟩:=id dN
 have e:kd (view h k Y O) x=(decide (0 <x) && decide (x<=h.ar)):=rfl
 rw [e]
 constructor
 · intro ai
   have:=az.eG dN x ai
   exact ⟨List.mem_append.2 (.inr ai),by simp;omega⟩
 · rintro ⟨ai,e⟩
   rcases List.mem_append.1 ai with ai | ai
   · have:=az.Jq dN x ai
     simp at e;omega
   · exact ai
theorem aGa (bV:10000 <F) (dN:ja h) (az:ig h k Y O) (ad:n_ (view h k Y O)) (x:Int) (Z:Option Int) (aoC:Z=some x) (K:Option (Way Int Unit)):((tm F O x).bind fun Dy=>
 cond (!Dy) (some (.out 4)) (Z.bind fun DS=>
 (r8 F (⟨h.Words,h.ar,h.aA,h.aO,h.aM,h.ay,h.Next⟩:bs) (⟨k.aJ,k.aG,k.Fields,k.Names,k.aE⟩:bw) DS).bind fun Iq=>
 cond (decide ((Iq.length:Int)= 0)) (some (.out 4)) K))=hJ (if ry (view h k Y O) x then some 4 else none) K:=by
 have hc:Y.length+O.length<= 5000 :=ad.tM
 subst aoC
 rw [XN ⟨by omega,by omega⟩,Option.bind_some,UR]
 have e:ry (view h k Y O) x=(!decide (x ∈ Y++O) || kd (view h k Y O) x || (refs k h.Words x.toNat).isEmpty):=rfl
 rw [e]
 by_cases ai:x ∈ O
 · obtain ⟨aC,aU⟩:=(afp dN az).1 ai
   rw [decide_eq_true ai,decide_eq_true aC,aU,Bool.not_true,cond_false,Option.bind_some,X9 bV ad aC,Option.bind_some]
   cases refs k h.Words x.toNat with
   | nil=>rfl
   | cons a r=>rw [decide_eq_false (by simp;omega)];rfl
 · rw [decide_eq_false ai]
   have:(!decide (x ∈ Y++O) || kd (view h k Y O) x)=true:=by
    cases bT:decide (x ∈ Y++O) with
    | false=>rfl
    | true=>
      cases hy:kd (view h k Y O) x with
      | true=>rfl
      | false=>exact absurd ((afp dN az).2 ⟨of_decide_eq_true bT,hy⟩) ai
   rw [this];rfl
theorem aF9 (bV:10000 <F) (dN:ja h) (az:ig h k Y O) (ad:n_ (view h k Y O)) (af:Small F h.ay.length):r6 F h k (Y,O,true) F 0 =some (dE (if (List.range h.ay.length).any (jt (view h k Y O)) then some 4 else none)):=by
 rw [<-nq]
 exact kz _ af.1 (fun f i hi=>by
  rw [r6,cK hi,cond_true]
  have e:jt (view h k Y O) i=((decide (0 <i) && decide (wd h.ay i<=wd h.ay (i - 1))) || ry (view h k Y O) (wd h.ay i)):=rfl
  have bU:=aGa bV dN az ad (wd h.ay i) (idx h.ay (i:Int)) (lN hi) (r6 F h k (Y,O,true) f (ap ((i:Int)+ 1)))
  rw [e]
  have aKa:=af.1
  by_cases bE:0 <i
  · rw [show decide ((0 :Int) <(i:Int))=true from decide_eq_true (by omega),cond_true]
    rw [show ∀ K:Int->Option (Way Int Unit),(idx h.ay (i:Int)).bind K=K (wd h.ay i) from fun K=>by rw [lN hi];rfl]
    rw [dy (n:=(i:Int) - 1) (by omega) (by omega),iE (i:=i - 1) (by omega) (by omega),Option.bind_some,decide_eq_true bE,Bool.true_and]
    cases decide (wd h.ay i<=wd h.ay (i - 1)) with
    | true=>rfl
    | false=>
      rw [cond_false,Bool.false_or,<-bU]
      rw [lN hi];rfl
  · rw [show decide ((0 :Int) <(i:Int))=false from decide_eq_false (by omega),cond_false,decide_eq_false bE,Bool.false_and,Bool.false_or,<-bU]
    rw [lN hi];rfl) (fun f=>by rw [r6,cJ];rfl) af.2
theorem aF_ (bV:10000 <F) (ad:n_ (view h k Y O)) (af:Small F h.ay.length):wu F h k (Y,O,true) F 0 =some (dE (if O.any (pb (view h k Y O)) then some 4 else none)):=by
 have hc:Y.length+O.length<= 5000 :=ad.tM
 rw [<-nq]
 exact each _ (by omega) (fun f i a bK=>by
  have hm:=List.mem_append.2 (Or.inr (a:=a ∈ Y) (List.mem_of_getElem? bK))
  have bA:qK (view h k Y O) a:=ad.rJ a hm
  have Uw:(refs k h.Words a.toNat).length<= 5000 :=Nf ad bA
  rw [wu,cK (List.getElem?_eq_some_iff.1 bK).1,cond_true,cd bK,Option.bind_some,X9 bV ad hm,Option.bind_some]
  have gf:th F h (Y,O,true) (i:Int) (refs k h.Words a.toNat) F 0 =some (dE ((refs k h.Words a.toNat).findSome? fun w=>if (!decide (a ∈ h.ay) && kd (view h k Y O) (wd h.Words w.toNat)) then some 4 else none)):=each _ (by omega) (fun e4 Av w hg=>by
   have gB:=List.mem_of_getElem? hg
   have ai:idx h.Words w=some (wd h.Words w.toNat):=bA.Nd gB
   rw [th,cK (List.getElem?_eq_some_iff.1 hg).1,cond_true,cd hg,Option.bind_some,ai,Option.bind_some]
   unfold gY
   rw [Option.bind_some,cd bK,Option.bind_some,XN af,Option.bind_some,UR]
   have e:kd (view h k Y O) (wd h.Words w.toNat)=(decide (1 <=wd h.Words w.toNat) && decide (wd h.Words w.toNat<=h.ar)):=rfl
   rw [e]
   cases (decide (1 <=wd h.Words w.toNat) && decide (wd h.Words w.toNat<=h.ar)) <;> cases decide (a ∈ h.ay) <;> rfl) (fun e4=>by rw [th,cJ];rfl) (by omega)
  rw [gf,nq]
  have e:pb (view h k Y O) a=((refs k h.Words a.toNat).any fun w=>!decide (a ∈ h.ay) && kd (view h k Y O) (wd h.Words w.toNat)):=by
   show (!decide (a ∈ h.ay) && (refs k h.Words a.toNat).any fun w=>kd (view h k Y O) (wd h.Words w.toNat))=_
   cases decide (a ∈ h.ay) with
   | true=>simp
   | false=>simp
  rw [e]
  cases (refs k h.Words a.toNat).any (fun w=>!decide (a ∈ h.ay) && kd (view h k Y O) (wd h.Words w.toNat)) <;> rfl) (fun f=>by rw [wu,cJ];rfl) (by omega)
theorem aF' (bV:10000 <F) (bh:hW k) (af:Small F h.ay.length) (hi:h.Next<= 9223372036854775807):∃ r,BQ F h k=some r.2 /\Spec h k r:=by
 unfold BQ
 by_cases gL:AL h
 case neg=>
  refine ⟨(none,m8 h),?_,.size fun s=>gL s.A⟩
  show _=some (m8 h)
  unfold m8 gY
  rw [if_neg gL,Option.bind_some,Option.bind_some]
  cases a1:(decide (3 <=h.ar) && decide (h.ar<= 2000)) with
  | false=>rfl
  | true=>
    cases Rs:(decide (3 <=h.aA) && decide (h.aA<= 2000)) with
    | false=>rfl
    | true=>exact absurd ⟨by simpa using a1,by simpa using Rs⟩ gL
 obtain ⟨⟨dY,eZ⟩,a3,a4⟩:=id gL
 have Kg:gY h.ar 3 2000 =some true:=by unfold gY;rw [decide_eq_true dY,decide_eq_true eZ];rfl
 have E2:gY h.aA 3 2000 =some true:=by unfold gY;rw [decide_eq_true a3,decide_eq_true a4];rfl
 rw [Kg,E2,Option.bind_some,Option.bind_some,Bool.not_true,cond_false,cond_false,dy (n:=1 +h.ar) (by omega) (by omega),dy (n:=1 +h.ar+h.aA) (by omega) (by omega)]
 by_cases ik:okB h
 case neg=>
  refine ⟨(none,m8 h),?_,.size fun s=>ik s.B⟩
  show _=some (m8 h)
  unfold m8
  rw [if_pos gL,if_neg ik]
  unfold okB at ik
  rw [decide_eq_false ik];rfl
 have acI:=ik
 unfold okB at acI
 rw [decide_eq_true acI,Bool.not_true,cond_false,dy (n:=h.ar+ 1) (by omega) (by omega),dy (n:=h.ar+h.aA) (by omega) (by omega),dy (n:=h.ar+h.aA+ 1) (by omega) (by omega)]
 by_cases pi:Ia h
 case neg=>
  refine ⟨(none,m8 h),?_,.size fun s=>pi s.C⟩
  show _=some (m8 h)
  unfold m8 gY
  rw [if_pos gL,if_pos ik,if_neg pi,Option.bind_some,Option.bind_some]
  cases a1:(decide (1 <=h.aO) && decide (h.aO<=h.ar+ 1)) with
  | false=>rfl
  | true=>
    cases Rs:(decide (h.ar+ 1 <=h.aM) && decide (h.aM<=h.ar+h.aA+ 1)) with
    | false=>rfl
    | true=>
      cases apN:decide (h.Next < 1) with
      | true=>rfl
      | false=>exact absurd ⟨by simpa using a1,by simpa using Rs,by simp at apN;omega⟩ pi
 have dN:ja h:=⟨gL,ik,pi⟩
 obtain ⟨⟨eb,eg⟩,⟨fH,iQ⟩,j5⟩:=id pi
 have E3:gY h.aO 1 (h.ar+ 1)=some true:=by unfold gY;rw [decide_eq_true eb,decide_eq_true eg];rfl
 have E4:gY h.aM (h.ar+ 1) (h.ar+h.aA+ 1)=some true:=by unfold gY;rw [decide_eq_true fH,decide_eq_true iQ];rfl
 rw [E3,E4,Option.bind_some,Option.bind_some,Bool.not_true,cond_false,decide_eq_false (show ¬ h.Next < 1 by omega),Bool.or_self,cond_false]
 have NA:∀ r,w1 F h k=some r->w1 F (⟨h.Words,h.ar,h.aA,h.aO,h.aM,h.ay,h.Next⟩:bs) (⟨k.aJ,k.aG,k.Fields,k.Names,k.aE⟩:bw)=some r:=fun r e=>e
 rcases aF2 (F:=F) (by omega) bh dN with ⟨Y,O,az,e⟩ | ⟨oG,Y,O,e⟩
 case inr=>
  refine ⟨(none,1),?_,.form dN oG⟩
  rw [NA _ e];rfl
 have ad:=az.Yd bh dN
 have hc:Y.length+O.length<= 5000 :=ad.tM
 refine ⟨_,?_,.rest dN az⟩
 show _=some (nS (view h k Y O))
 have hl:ej 8 ([]:List Int) Y=some Y:=by rw [iv (by simp;omega)];rfl
 have l3:ej 8 Y O=some (Y++O):=iv (by omega)
 have l1:=aF5 (k:=k) (Y:=Y) (O:=O) bV j5 hi ad
 have gf:=aF6 (F:=F) bV ad
 have AD:=aF7 (F:=F) bV ad
 have HY:=aF8 (F:=F) bV dN
 have Ww:=aF9 bV dN az ad af
 have Wx:=aF_ bV ad af
 rw [NA _ e,Option.bind_some]
 show (ej 8 ([]:List Int) Y).bind _=_
 rw [hl,Option.bind_some]
 show (ej 8 Y O).bind _=_
 rw [l3,Option.bind_some,l1,jT]
 unfold nS gq
 show o4 (if (Y++O).any (lK (view h k Y O))=true then some 3 else none) _=some (if (if (Y++O).any (lK (view h k Y O))=true then (3 :Int) else if ((Y++O).map (a5 h.Words)).Nodup then 0 else 6)= 0 then _ else (if (Y++O).any (lK (view h k Y O))=true then (3 :Int) else if ((Y++O).map (a5 h.Words)).Nodup then 0 else 6))
 cases (Y++O).any (lK (view h k Y O)) with
 | true=>rfl
 | false=>
   rw [if_neg Bool.false_ne_true,if_neg Bool.false_ne_true]
   show dw _ _=_
   rw [gf,jT]
   by_cases bT:((Y++O).map (a5 h.Words)).Nodup
   case neg=>rw [if_neg bT,if_neg bT];rfl
   rw [if_pos bT,if_pos bT,if_pos rfl]
   show dw _ _=_
   rw [AD,jT]
   unfold sU
   show o4 (if (Y++O).any (nJ (view h k Y O))=true then some 5 else none) _=some (if (if (Y++O).any (nJ (view h k Y O))=true then (5 :Int) else if (free h).any (fun x=>!decide (x= 0))=true then 1 else 0)= 0 then _ else (if (Y++O).any (nJ (view h k Y O))=true then (5 :Int) else if (free h).any (fun x=>!decide (x= 0))=true then 1 else 0))
   cases (Y++O).any (nJ (view h k Y O)) with
   | true=>rfl
   | false=>
     rw [if_neg Bool.false_ne_true,if_neg Bool.false_ne_true]
     show dw _ _=_
     rw [HY,jT]
     cases (free h).any (fun x=>!decide (x= 0)) with
     | true=>rfl
     | false=>
       rw [if_neg Bool.false_ne_true,if_neg Bool.false_ne_true,if_pos rfl]
       show dw _ _=_
       rw [Ww,jT]
       unfold yz
       show o4 (if (List.range h.ay.length).any (jt (view h k Y O))=true then some 4 else none) _=some (if ((List.range h.ay.length).any (jt (view h k Y O)) || O.any (pb (view h k Y O)))=true then (4 :Int) else 0)
       cases (List.range h.ay.length).any (jt (view h k Y O)) with
       | true=>rfl
       | false=>
         rw [if_neg Bool.false_ne_true,Bool.false_or]
         show dw _ _=_
         rw [Wx,jT]
         cases O.any (pb (view h k Y O)) <;> rfl
theorem Spec.DL {r MN:Option cm × Int} (s:Spec h k r) (X0:Spec h k MN):r=MN:=by
 cases s with
 | size af=>cases X0 with
   | size _=>rfl
   | form br _=>exact absurd br af
   | rest br _=>exact absurd br af
 | form br oG=>cases X0 with
   | size af=>exact absurd br af
   | form _ _=>rfl
   | rest _ az=>exact absurd az (oG _ _)
 | rest br az=>cases X0 with
   | size af=>exact absurd br af
   | form _ oG=>exact absurd az (oG _ _)
   | rest _ pr=>
     obtain rfl:=az.y.DL pr.y
     obtain rfl:=az.o.DL pr.o
     rfl
end
end J
namespace J
section
variable {k:bw} {h:bs} {Y O:List Int}
theorem ig.fit (dN:ja h) (az:ig h k Y O):∀ a ∈ Y++O,1 <=a/\a.toNat+ 3 +(wd h.Words (a.toNat+ 1)).toNat<=h.Words.length/\(a.toNat+ 3 +(wd h.Words (a.toNat+ 1)).toNat<=h.aO.toNat\/(h.ar+ 1 <=a/\a.toNat+ 3 +(wd h.Words (a.toNat+ 1)).toNat<=h.aM.toNat)):=by
 intro a bK
 have ik:(h.Words.length:Int)= 1 +h.ar+h.aA:=dN.B
 obtain ⟨⟨eb,eg⟩,⟨fH,iQ⟩,_⟩:=dN.C
 obtain ⟨⟨dY,_⟩,a3,_⟩:=dN.A
 rcases List.mem_append.1 bK with bK | bK
 · obtain ⟨aC,aU⟩:=az.Jq dN a bK;exact ⟨aC,by omega,.inl aU⟩
 · obtain ⟨aC,aU⟩:=az.eG dN a bK;exact ⟨by omega,by omega,.inr ⟨aC,aU⟩⟩
theorem ig.aG1 (az:ig h k Y O):∀ a ∈ Y++O,gC k (wd h.Words a.toNat)=true/\isLen k (wd h.Words a.toNat) (wd h.Words (a.toNat+ 1))=true:=by
 intro a bK
 rcases List.mem_append.1 bK with bK | bK
 · obtain ⟨n,rfl,_,_,bS⟩:=az.y.mem a bK;exact bS
 · obtain ⟨n,rfl,_,_,bS⟩:=az.o.mem a bK;exact bS
theorem ES.set (dN:ja h) (az:ig h k Y O) (g:ES h k Y O) {a:Int} (bK:a ∈ Y++O) {n:Nat} (af:n <(wd h.Words (a.toNat+ 1)).toNat) {value:Int}
 (ad:lQ k (wd h.Words a.toNat) n=true->value= 0 \/value ∈ Y++O) {rz:List Int} (aC:zn rz) (aU:∀ x ∈ rz,x ∈ h.ay\/(x=a/\a ∈ O/\lQ k (wd h.Words a.toNat) n=true)) (bS:∀ x ∈ h.ay,x ∈ rz)
 (ew:lQ k (wd h.Words a.toNat) n=true->a ∈ O-> 0 <value->value<=h.ar->a ∈ rz) :
 ja (⟨h.Words.set (a.toNat+ 3 +n) value,h.ar,h.aA,h.aO,h.aM,rz,h.Next⟩:bs)/\ig (⟨h.Words.set (a.toNat+ 3 +n) value,h.ar,h.aA,h.aO,h.aM,rz,h.Next⟩:bs) k Y O /\
 ES (⟨h.Words.set (a.toNat+ 3 +n) value,h.ar,h.aA,h.aO,h.aM,rz,h.Next⟩:bs) k Y O:=by
 obtain ⟨f1,f2,f3⟩:=az.fit dN a bK
 have b3:a.toNat+ 3 +n <h.Words.length:=by omega
 have hw:∀ j,wd (h.Words.set (a.toNat+ 3 +n) value) j=if j=a.toNat+ 3 +n then value else wd h.Words j:=fun j=>aHp b3
 have head:∀ b ∈ Y++O,wd (h.Words.set (a.toNat+ 3 +n) value) b.toNat=wd h.Words b.toNat/\wd (h.Words.set (a.toNat+ 3 +n) value) (b.toNat+ 1)=wd h.Words (b.toNat+ 1)/\wd (h.Words.set (a.toNat+ 3 +n) value) (b.toNat+ 2)=wd h.Words (b.toNat+ 2):=by
  intro b a1
  rw [hw,hw,hw]
  by_cases e:b=a
  · subst e
    rw [if_neg (by omega),if_neg (by omega),if_neg (by omega)];exact ⟨rfl,rfl,rfl⟩
  · have:=az.apart dN b a1 a bK e
    rw [if_neg (by omega),if_neg (by omega),if_neg (by omega)];exact ⟨rfl,rfl,rfl⟩
 have ik:(h.Words.length:Int)= 1 +h.ar+h.aA:=dN.B
 obtain ⟨⟨eb,eg⟩,⟨fH,iQ⟩,j5⟩:=id dN.C
 have bU:∀ b ∈ Y++O,refs k (h.Words.set (a.toNat+ 3 +n) value) b.toNat=refs k h.Words b.toNat:=fun b a1=>aGu (head b a1).1 (head b a1).2.1
 have Lw:∀ b ∈ Y++O,a5 (h.Words.set (a.toNat+ 3 +n) value) b=a5 h.Words b:=fun b a1=>(head b a1).2.2
 have azm:(Y++O).map (a5 (h.Words.set (a.toNat+ 3 +n) value))=(Y++O).map (a5 h.Words):=List.map_congr_left Lw
 have xK:∀ b ∈ Y++O,∀ w ∈ refs k h.Words b.toNat,w.toNat=a.toNat+ 3 +n->b=a/\lQ k (wd h.Words a.toNat) n=true:=by
  intro b a1 w hg e
  obtain ⟨j,bb,ayy,rfl⟩:=WH.1 hg
  simp only [Int.toNat_natCast] at e
  have K4:b=a:=by
   by_cases K4:b=a
   · exact K4
   · have:=az.apart dN b a1 a bK K4;omega
  subst K4
  have:j=n:=by omega
  subst this
  exact ⟨rfl,ayy⟩
 refine ⟨⟨dN.A,?_,dN.C⟩,⟨az.y.congr fun b a1=>?_,az.o.congr fun b a1=>?_⟩,⟨fun b a1=>?_,?_,fun b a1 w hg=>?_,fun i hi hc=>?_,aC,fun x ai=>?_,fun b a1 adv w hg=>?_⟩⟩
 · show ((h.Words.set (a.toNat+ 3 +n) value).length:Int)=_;rw [List.length_set];exact ik
 · obtain ⟨jV,A8,_⟩:=head b (List.mem_append_left _ a1);exact ⟨jV,A8⟩
 · obtain ⟨jV,A8,_⟩:=head b (List.mem_append_right _ a1);exact ⟨jV,A8⟩
 · show 1 <=a5 (h.Words.set (a.toNat+ 3 +n) value) b/\a5 (h.Words.set (a.toNat+ 3 +n) value) b <h.Next
   rw [Lw b a1];exact g.hash b a1
 · show ((Y++O).map (a5 (h.Words.set (a.toNat+ 3 +n) value))).Nodup
   rw [azm];exact g.nodup
 · have hg:w ∈ refs k (h.Words.set (a.toNat+ 3 +n) value) b.toNat:=hg
   rw [bU b a1] at hg
   show wd (h.Words.set (a.toNat+ 3 +n) value) w.toNat= 0 \/wd (h.Words.set (a.toNat+ 3 +n) value) w.toNat ∈ Y++O
   rw [hw]
   by_cases e:w.toNat=a.toNat+ 3 +n
   · rw [if_pos e];exact ad (xK b a1 w hg e).2
   · rw [if_neg e];exact g.ref b a1 w hg
 · have hi:i <(h.Words.set (a.toNat+ 3 +n) value).length:=hi
   rw [List.length_set] at hi
   have hc:i= 0 \/(h.aO<=i/\(i:Int)<=h.ar)\/h.aM<=i:=hc
   show wd (h.Words.set (a.toNat+ 3 +n) value) i= 0
   rw [hw,if_neg (by omega)]
   exact g.b0 i hi hc
 · show x ∈ O/\refs k (h.Words.set (a.toNat+ 3 +n) value) x.toNat≠ []
   rcases aU x ai with ai | ⟨rfl,mA,bb⟩
   · obtain ⟨jV,A8⟩:=g.rz x ai
     rw [bU x (List.mem_append_right _ jV)];exact ⟨jV,A8⟩
   · refine ⟨mA,?_⟩
     rw [bU x bK]
     intro e
     have:((x.toNat+ 3 +n:Nat):Int) ∈ refs k h.Words x.toNat:=WH.2 ⟨n,af,bb,rfl⟩
     rw [e] at this;cases this
 · have iD:b ∈ Y++O:=List.mem_append_right _ a1
   have hg:w ∈ refs k (h.Words.set (a.toNat+ 3 +n) value) b.toNat:=hg
   rw [bU b iD] at hg
   show ¬ (0 <wd (h.Words.set (a.toNat+ 3 +n) value) w.toNat/\wd (h.Words.set (a.toNat+ 3 +n) value) w.toNat<=h.ar)
   rw [hw]
   by_cases e:w.toNat=a.toNat+ 3 +n
   · rw [if_pos e]
     obtain ⟨rfl,bb⟩:=xK b iD w hg e
     rintro ⟨D',Pv⟩
     exact adv (ew bb a1 D' Pv)
   · rw [if_neg e]
     exact g.must b a1 (fun hm=>adv (bS b hm)) w hg
end
end J
namespace J
structure Good (F:Nat) (h:bs) (k:bw) (Y O:List Int):Prop where
 sd:oN F k=some 0
 vu:hW k
 s:ja h
 l:ig h k Y O
 ok:ES h k Y O
section
variable {F:Nat} {k:bw} {h:bs} {Y O:List Int}
theorem Good.MG (g:Good F h k Y O):h.ay.length<= 5000 :=by
 refine af3 (N:=5000) g.ok.af2 (fun i hi=>?_)
 obtain ⟨aC,_⟩:=g.ok.rz _ (Yj hi)
 obtain ⟨f1,f2,_⟩:=g.l.fit g.s _ (List.mem_append_right Y aC)
 have:=g.s.kt
 omega
theorem Good.open (bV:10000 <F) (g:Good F h k Y O):oE F h k=some (some (view h k Y O),0):=by
 unfold oE
 have bO:oN F (⟨k.aJ,k.aG,k.Fields,k.Names,k.aE⟩:bw)=some 0 :=g.sd
 have af:=g.MG
 obtain ⟨r,b4,g'⟩:=WQ bV g.vu (h:=h) ⟨by omega,by omega⟩
 have b4:xP F (⟨h.Words,h.ar,h.aA,h.aO,h.aM,h.ay,h.Next⟩:bs) (⟨k.aJ,k.aG,k.Fields,k.Names,k.aE⟩:bw)=some r:=b4
 rw [bO,Option.bind_some,pg,b4,Option.bind_some]
 cases g' with
 | size a5=>exact absurd g.s a5
 | form _ I=>exact absurd g.l (I Y O)
 | @rest Kd ER _ az=>
   have akv:=az.y.DL g.l.y
   have akc:=az.o.DL g.l.o
   subst akv akc
   rw [(age g.vu g.s g.l).2 g.ok];rfl
theorem aFF (bV:10000 <F) (z2:∃ e,oN F k=some e/\(e≠ 0 \/(e= 0 /\hW k))) (af:Small F h.ay.length) :
 ∃ r,oE F h k=some r/\((r.2 ≠ 0 /\r.1 =none)\/ ∃ Y O,Good F h k Y O/\r=(some (view h k Y O),0)):=by
 obtain ⟨e,bO,he⟩:=z2
 unfold oE
 have aj_:oN F (⟨k.aJ,k.aG,k.Fields,k.Names,k.aE⟩:bw)=some e:=bO
 rw [aj_,Option.bind_some]
 rcases he with he | ⟨rfl,bh⟩
 · rw [qb he];exact ⟨_,rfl,.inl ⟨he,rfl⟩⟩
 obtain ⟨r,b4,g'⟩:=WQ bV bh af
 have b4:xP F (⟨h.Words,h.ar,h.aA,h.aO,h.aM,h.ay,h.Next⟩:bs) (⟨k.aJ,k.aG,k.Fields,k.Names,k.aE⟩:bw)=some r:=b4
 rw [pg,b4,Option.bind_some]
 refine ⟨_,rfl,?_⟩
 cases g' with
 | size a5=>exact .inl ⟨fun e=>a5 (X5.1 e),rfl⟩
 | form _ I=>exact .inl ⟨by decide,rfl⟩
 | @rest Kd ER a5 az=>
   by_cases q:nS (view h k Kd ER)= 0
   · exact .inr ⟨Kd,ER,⟨bO,bh,a5,az,(age bh a5 az).1 q⟩,by rw [q];rfl⟩
   · exact .inl ⟨q,by rw [if_neg q]⟩
theorem Good.c9 (_:Good F h k Y O) (a:Int):CK (view h k Y O) a=some (decide (a ∈ Y++O)):=by
 unfold CK
 show some ((dv ((Y++O).map fun a=>(a,true)) a).getD false)=_
 rw [WJ]
def aEC (h:bs) (a n:Int):Prop:=0 <=n/\n <wd h.Words (a.toNat+ 1)
instance (h:bs) (a n:Int):Decidable (aEC h a n):=inferInstanceAs (Decidable (0 <=n/\n <wd h.Words (a.toNat+ 1)))
theorem Good.fit (g:Good F h k Y O) {a:Int} (bK:a ∈ Y++O):1 <=a/\a.toNat+ 3 +(wd h.Words (a.toNat+ 1)).toNat<=h.Words.length/\h.Words.length<= 4001 /\ 0 <=wd h.Words (a.toNat+ 1)/\wd h.Words (a.toNat+ 1)<= 500 :=by
 obtain ⟨f1,f2,_⟩:=g.l.fit g.s a bK
 obtain ⟨t1,t2⟩:=g.l.aG1 a bK
 obtain ⟨⟨yb,l1⟩,_⟩:=sw.1 t2
 exact ⟨f1,f2,g.s.kt,yb,l1⟩
theorem aFI (g:Good F h k Y O):uf h=some h:=by
 have aC:=g.MG;have aU:=g.s.kt
 unfold uf Iw
 rw [iv (by simp;omega),Option.bind_some,iv (by simp;omega)]
 rfl
end
end J
namespace J
set_option maxRecDepth 100000 in
theorem avM (F:Nat):td (F+ 60)=some true:=by kernel_rfl
theorem afV {F:Nat} {l:List Int} (h:Small F l.length):BW F l l=some true:=by
 unfold BW
 have l1:=My (n:=l.length) (fun k i=>r_ l l k (i:Int)) (.go ()) (fun k i hi=>by
  obtain ⟨x,ai⟩:∃ x,l[i]? =some x:=⟨l[i],List.getElem?_eq_getElem hi⟩
  rw [r_,cK hi,cond_true,cd ai,Option.bind_some,Option.bind_some,decide_eq_true rfl]
  show r_ l l k _=_
  rw [gS hi h.1]) (fun k=>by rw [r_,cJ];rfl) h.2
 have l1:r_ l l F 0 =some (.go ()):=l1
 rw [l1,decide_eq_true rfl]
 rfl
theorem afU {F:Nat} {h:bs} (aC:Small F h.Words.length) (aU:Small F h.ay.length):zl F h h=some true:=by
 unfold zl
 rw [afV aC,afV aU]
 simp
end J
namespace J
open Go Go.Proofs.YtpkhpagplommoaaGreat
theorem vx {n:Nat} (h:n<=reachBytes):Small 140737488356000 n:=by
 have:reachBytes= 140737488351232 :=rfl
 unfold Small
 omega
theorem o6 {n:Nat} (k:Nat) (h:n*(k+ 1)<=reachBytes):Small 140737488356000 n:=
 vx (Nat.le_trans (Nat.le_mul_of_pos_right n (Nat.succ_pos k)) h)
theorem akx {m:Method} (h:Kb reachBytes m):m.Fits 140737488356000 :=
 ⟨vx h.1,o6 23 h.2.2.1.1,fun k bh=>vx (h.2.2.1.2 k bh).2,vx h.2.2.2.1.2,o6 39 h.2.2.2.2.2.2.2.1,fun x ai=>vx (h.2.2.2.2.2.2.2.2 x ai).2.2.2⟩
theorem akw {c:aN} (h:ET reachBytes c):c.Fits 140737488356000 :=
 ⟨vx h.1,vx h.2.1,o6 39 h.2.2.1.1,fun f I=>⟨vx (h.2.2.1.2 f I).1,vx (h.2.2.1.2 f I).2.2⟩,o6 127 h.2.2.2.1,fun m hm=>akx (h.2.2.2.2 m hm)⟩
theorem aky {l:List aN} (h:l.length* 80 <=reachBytes/\ ∀ x ∈ l,ET reachBytes x):Fits 140737488356000 l:=
 ⟨o6 79 h.1,fun c hc=>akw (h.2 c hc)⟩
theorem aE4 {k:bw} (h:Ka reachBytes k):J_ 140737488356000 k:=
 ⟨o6 7 h.2.1.1,o6 23 h.2.2.1.1,fun x ai=>o6 39 (h.2.2.1.2 x ai).1,o6 23 h.2.2.2.1.1,fun x ai=>o6 15 (h.2.2.2.1.2 x ai).1,o6 23 h.2.2.2.2.1,fun x ai=>o6 15 (h.2.2.2.2.2 x ai).1⟩
end J
namespace J
theorem aGW {k:bw} (kZ:ic k.aJ) (e:k=linked k.aJ):hW k:=by
 have:=kZ.right.len
 exact ⟨by omega,by rw [e];exact aGx⟩
theorem ajF {k:bw} (aC:Go.Proofs.YtpkhpagplommoaaGreat.Ka Go.reachBytes k):∃ e,oN 140737488356000 k=some e/\tl 140737488356000 k=some e/\(e≠ 0 \/(e= 0 /\hW k)):=by
 obtain ⟨e,eb,eg,fH⟩:=ajE (F:=140737488356000) (by omega) (aky aC.1) (aE4 aC)
 refine ⟨e,eb,eg,?_⟩
 rcases fH with rfl | ⟨rfl,kZ,bh⟩
 · exact .inl (by decide)
 · exact .inr ⟨rfl,aGW kZ bh⟩
theorem aFE {F:Nat} {h:bs} {k:bw} (bV:10000 <F) (z2:∃ e,oN F k=some e/\tl F k=some e/\(e≠ 0 \/(e= 0 /\hW k))) (af:Small F h.ay.length) (hi:h.Next<= 9223372036854775807) :
 ∃ r,oE F h k=some r/\BT F h k=some r.2 /\((r.2 ≠ 0 /\r.1 =none)\/ ∃ Y O,Good F h k Y O/\r=(some (view h k Y O),0)):=by
 obtain ⟨e,eb,eg,fH⟩:=z2
 obtain ⟨r,bO,bU⟩:=aFF bV ⟨e,eb,fH⟩ af
 refine ⟨r,bO,?_,bU⟩
 have ah0:oN F (⟨k.aJ,k.aG,k.Fields,k.Names,k.aE⟩:bw)=some e:=eb
 have ah8:tl F (⟨k.aJ,k.aG,k.Fields,k.Names,k.aE⟩:bw)=some e:=eg
 unfold BT
 unfold oE at bO
 rw [ah0,Option.bind_some] at bO
 rw [ah8,Option.bind_some]
 rcases fH with fH | ⟨rfl,bh⟩
 · rw [qb fH] at bO
   obtain rfl:=Option.some.inj bO
   rw [decide_eq_false fH];rfl
 · rw [pg] at bO
   obtain ⟨jQ,qd,s1⟩:=WQ bV bh af
   obtain ⟨nH,qf,s2⟩:=aF' bV bh af hi
   have qd:xP F (⟨h.Words,h.ar,h.aA,h.aO,h.aM,h.ay,h.Next⟩:bs) (⟨k.aJ,k.aG,k.Fields,k.Names,k.aE⟩:bw)=some jQ:=qd
   have qf:BQ F (⟨h.Words,h.ar,h.aA,h.aO,h.aM,h.ay,h.Next⟩:bs) (⟨k.aJ,k.aG,k.Fields,k.Names,k.aE⟩:bw)=some nH.2 :=qf
   obtain rfl:=s1.DL s2
   rw [qd,Option.bind_some] at bO
   obtain rfl:=Option.some.inj bO
   rw [show decide ((0 :Int)= 0)=true from rfl,cond_true,qf];rfl
end J
namespace J
section
variable {F:Nat} {k:bw} {h:bs} {Y O:List Int}
theorem akB (g:Good F h k Y O) (tag len:Int):z7 ⟨k⟩ tag len=some (if gC k tag=true then (if isLen k tag len=true then 0 else 3) else 7):=by
 unfold z7
 have bO:q8 (⟨(⟨k.aJ,k.aG,k.Fields,k.Names,k.aE⟩:bw)⟩:dq) tag=some (gC k tag):=X2 g.vu tag
 show (q8 (⟨(⟨k.aJ,k.aG,k.Fields,k.Names,k.aE⟩:bw)⟩:dq) tag).bind _=_
 rw [bO,Option.bind_some]
 cases bA:gC k tag with
 | false=>rfl
 | true=>
   have b4:q9 (⟨(⟨k.aJ,k.aG,k.Fields,k.Names,k.aE⟩:bw)⟩:dq) tag len=some (isLen k tag len):=X3 g.vu bA len
   show (q9 (⟨(⟨k.aJ,k.aG,k.Fields,k.Names,k.aE⟩:bw)⟩:dq) tag len).bind _=_
   rw [b4,Option.bind_some]
   cases isLen k tag len <;> rfl
theorem akC (g:Good F h k Y O) (tag len:Int):BR k tag len=some (if gC k tag=true then (if isLen k tag len=true then 0 else 3) else 7):=by
 unfold BR
 have bO:wO (⟨k.aJ,k.aG,k.Fields,k.Names,k.aE⟩:bw) tag=some (gC k tag):=afF g.vu tag
 rw [bO,Option.bind_some]
 cases bA:gC k tag with
 | false=>rfl
 | true=>
   have b4:wN (⟨k.aJ,k.aG,k.Fields,k.Names,k.aE⟩:bw) tag len=some (isLen k tag len):=afE g.vu bA len
   rw [Bool.not_true,cond_false,b4,Option.bind_some]
   cases isLen k tag len <;> rfl
def sI (h:bs) (tag len:Int) (eG:Bool):bs:=
 if eG then ⟨((h.Words.set h.aM.toNat tag).set (h.aM.toNat+ 1) len).set (h.aM.toNat+ 2) h.Next,h.ar,h.aA,h.aO,h.aM+(3 +len),h.ay,ap (h.Next+ 1)⟩
 else ⟨((h.Words.set h.aO.toNat tag).set (h.aO.toNat+ 1) len).set (h.aO.toNat+ 2) h.Next,h.ar,h.aA,h.aO+(3 +len),h.aM,h.ay,ap (h.Next+ 1)⟩
def qj (h:bs) (eG:Bool):Int:=if eG then h.aM else h.aO
def zC (h:bs) (eG:Bool):Int:=if eG then h.ar+h.aA+ 1 else h.ar+ 1
theorem aFT (g:Good F h k Y O) {tag len:Int} (af:isLen k tag len=true) (eG:Bool) :
 CJ h tag len eG=some (if zC h eG <qj h eG+(3 +len) then (0,false,h) else (qj h eG,true,sI h tag len eG)):=by
 have ik:(h.Words.length:Int)= 1 +h.ar+h.aA:=g.s.B
 obtain ⟨⟨eb,eg⟩,⟨fH,iQ⟩,j5⟩:=id g.s.C
 obtain ⟨⟨dY,eZ⟩,a3,a4⟩:=id g.s.A
 obtain ⟨⟨yb,l1⟩,_⟩:=sw.1 af
 unfold CJ
 rw [dy (n:=h.ar+h.aA) (by omega) (by omega),dy (n:=h.ar+h.aA+ 1) (by omega) (by omega),dy (n:=h.ar+h.aA+ 1 - h.aM) (by omega) (by omega),dy (n:=3 +len) (by omega) (by omega),
  dy (n:=h.ar+ 1) (by omega) (by omega),dy (n:=h.ar+ 1 - h.aO) (by omega) (by omega),dy (n:=h.aM+ 1) (by omega) (by omega),dy (n:=h.aM+ 2) (by omega) (by omega),dy (n:=h.aO+ 1) (by omega) (by omega),dy (n:=h.aO+ 2) (by omega) (by omega),
  dy (n:=h.aM+(3 +len)) (by omega) (by omega),dy (n:=h.aO+(3 +len)) (by omega) (by omega)]
 unfold zC qj sI
 cases eG with
 | true=>
   simp only [cond_true,if_true]
   by_cases q:h.ar+h.aA+ 1 <h.aM+(3 +len)
   · rw [if_pos q,decide_eq_true (by omega)];rfl
   · rw [if_neg q,decide_eq_false (by omega),cond_false,iE (i:=h.aM.toNat) (by omega) (by omega),Option.bind_some,Option.bind_some,iE (i:=h.aM.toNat+ 1) (by omega) (by rw [List.length_set];omega),Option.bind_some,Option.bind_some,
      iE (i:=h.aM.toNat+ 2) (by omega) (by rw [List.length_set,List.length_set];omega),Option.bind_some,Option.bind_some,show (h.aM+ 1).toNat=h.aM.toNat+ 1 by omega,show (h.aM+ 2).toNat=h.aM.toNat+ 2 by omega]
 | false=>
   simp only [cond_false,Bool.false_eq_true,if_false]
   by_cases q:h.ar+ 1 <h.aO+(3 +len)
   · rw [if_pos q,decide_eq_true (by omega)];rfl
   · rw [if_neg q,decide_eq_false (by omega),cond_false,iE (i:=h.aO.toNat) (by omega) (by omega),Option.bind_some,Option.bind_some,iE (i:=h.aO.toNat+ 1) (by omega) (by rw [List.length_set];omega),Option.bind_some,Option.bind_some,
      iE (i:=h.aO.toNat+ 2) (by omega) (by rw [List.length_set,List.length_set];omega),Option.bind_some,Option.bind_some,show (h.aO+ 1).toNat=h.aO.toNat+ 1 by omega,show (h.aO+ 2).toNat=h.aO.toNat+ 2 by omega]
theorem ajL (g:Good F h k Y O):B0 h=some h:=by
 have hw:=g.s.kt
 have af:=g.MG
 unfold B0
 rw [iv (by simp;omega),Option.bind_some,iv (by simp;omega),Option.bind_some]
 rfl
theorem aFg (g:Good F h k Y O) {tag len:Int} (af:isLen k tag len=true) (eG:Bool) :
 BS h tag len eG=some (if zC h eG <qj h eG+(3 +len) then (h,0,false) else (sI h tag len eG,qj h eG,true)):=by
 have ik:(h.Words.length:Int)= 1 +h.ar+h.aA:=g.s.B
 obtain ⟨⟨eb,eg⟩,⟨fH,iQ⟩,j5⟩:=id g.s.C
 obtain ⟨⟨dY,eZ⟩,a3,a4⟩:=id g.s.A
 obtain ⟨⟨yb,l1⟩,_⟩:=sw.1 af
 have cW:B0 (⟨h.Words,h.ar,h.aA,h.aO,h.aM,h.ay,h.Next⟩:bs)=some h:=ajL g
 unfold BS zC qj sI
 rw [dy (n:=h.ar+h.aA) (by omega) (by omega),dy (n:=h.ar+h.aA+ 1) (by omega) (by omega),dy (n:=h.ar+ 1) (by omega) (by omega)]
 cases eG with
 | true=>
   simp only [cond_true,if_true]
   rw [Option.bind_some]
   show cond (decide (h.ar+h.aA+ 1 <ap (ap (h.aM+ 3)+len))) _ _=_
   rw [dy (n:=h.aM+ 3) (by omega) (by omega),dy (n:=h.aM+ 3 +len) (by omega) (by omega)]
   by_cases q:h.ar+h.aA+ 1 <h.aM+(3 +len)
   · rw [if_pos q,decide_eq_true (by omega)];rfl
   · rw [if_neg q,decide_eq_false (by omega),cond_false,cW,Option.bind_some]
     show (idx h.Words h.aM).bind _=_
     rw [iE (i:=h.aM.toNat) (by omega) (by omega),Option.bind_some,Option.bind_some]
     show (idx (h.Words.set h.aM.toNat tag) (ap (h.aM+ 1))).bind _=_
     rw [dy (n:=h.aM+ 1) (by omega) (by omega),iE (i:=h.aM.toNat+ 1) (by omega) (by rw [List.length_set];omega),Option.bind_some,Option.bind_some]
     show (idx _ (ap (h.aM+ 2))).bind _=_
     rw [dy (n:=h.aM+ 2) (by omega) (by omega),iE (i:=h.aM.toNat+ 2) (by omega) (by rw [List.length_set,List.length_set];omega),Option.bind_some,Option.bind_some]
     rw [dy (n:=3 +len) (by omega) (by omega),dy (n:=h.aM+(3 +len)) (by omega) (by omega),show (h.aM+ 1).toNat=h.aM.toNat+ 1 by omega,show (h.aM+ 2).toNat=h.aM.toNat+ 2 by omega]
     rfl
 | false=>
   simp only [cond_false,Bool.false_eq_true,if_false]
   rw [Option.bind_some]
   show cond (decide (h.ar+ 1 <ap (ap (h.aO+ 3)+len))) _ _=_
   rw [dy (n:=h.aO+ 3) (by omega) (by omega),dy (n:=h.aO+ 3 +len) (by omega) (by omega)]
   by_cases q:h.ar+ 1 <h.aO+(3 +len)
   · rw [if_pos q,decide_eq_true (by omega)];rfl
   · rw [if_neg q,decide_eq_false (by omega),cond_false,cW,Option.bind_some]
     show (idx h.Words h.aO).bind _=_
     rw [iE (i:=h.aO.toNat) (by omega) (by omega),Option.bind_some,Option.bind_some]
     show (idx (h.Words.set h.aO.toNat tag) (ap (h.aO+ 1))).bind _=_
     rw [dy (n:=h.aO+ 1) (by omega) (by omega),iE (i:=h.aO.toNat+ 1) (by omega) (by rw [List.length_set];omega),Option.bind_some,Option.bind_some]
     show (idx _ (ap (h.aO+ 2))).bind _=_
     rw [dy (n:=h.aO+ 2) (by omega) (by omega),iE (i:=h.aO.toNat+ 2) (by omega) (by rw [List.length_set,List.length_set];omega),Option.bind_some,Option.bind_some]
     rw [dy (n:=3 +len) (by omega) (by omega),dy (n:=h.aO+(3 +len)) (by omega) (by omega),show (h.aO+ 1).toNat=h.aO.toNat+ 1 by omega,show (h.aO+ 2).toNat=h.aO.toNat+ 2 by omega]
     rfl
theorem aFe {r:Option cm × Int} (e:oE F h k=some r) (bU:r.2 ≠ 0) (tag len:Int) (eG:Bool):sp F h k tag len eG=some ((⟨[],0,0,0,0,[],0⟩:bs),0,r.2):=by
 unfold sp
 have bO:oE F (⟨h.Words,h.ar,h.aA,h.aO,h.aM,h.ay,h.Next⟩:bs) (⟨k.aJ,k.aG,k.Fields,k.Names,k.aE⟩:bw)=_:=e
 rw [bO,Option.bind_some,decide_eq_false bU,cond_false,Option.bind_some,qb bU]
theorem aFf (bV:10000 <F) (g:Good F h k Y O) (tag len:Int) (eG:Bool) :
 sp F h k tag len eG=some (if gC k tag=true then (if isLen k tag len=true then (if zC h eG <qj h eG+(3 +len) then ((⟨[],0,0,0,0,[],0⟩:bs),0,8) else (sI h tag len eG,qj h eG,0)) else ((⟨[],0,0,0,0,[],0⟩:bs),0,3)) else ((⟨[],0,0,0,0,[],0⟩:bs),0,7)):=by
 unfold sp
 have bO:oE F (⟨h.Words,h.ar,h.aA,h.aO,h.aM,h.ay,h.Next⟩:bs) (⟨k.aJ,k.aG,k.Fields,k.Names,k.aE⟩:bw)=_:=g.open bV
 have b4:z7 (⟨(⟨k.aJ,k.aG,k.Fields,k.Names,k.aE⟩:bw)⟩:dq) tag len=_:=akB g tag len
 rw [bO,Option.bind_some,show decide ((0 :Int)= 0)=true from rfl,cond_true,Option.bind_some]
 show (((z7 (⟨(⟨k.aJ,k.aG,k.Fields,k.Names,k.aE⟩:bw)⟩:dq) tag len).bind _).bind _)=_
 rw [b4,Option.bind_some,Option.bind_some]
 by_cases bA:gC k tag=true
 case neg=>rw [if_neg bA,if_neg bA];rfl
 by_cases af:isLen k tag len=true
 case neg=>rw [if_pos bA,if_pos bA,if_neg af,if_neg af];rfl
 rw [if_pos bA,if_pos bA,if_pos af,if_pos af,pg]
 have eu:uf (⟨h.Words,h.ar,h.aA,h.aO,h.aM,h.ay,h.Next⟩:bs)=some h:=aFI g
 have g8:CJ (⟨h.Words,h.ar,h.aA,h.aO,h.aM,h.ay,h.Next⟩:bs) tag len eG=_:=aFT g af eG
 rw [eu,Option.bind_some,g8,Option.bind_some]
 by_cases q:zC h eG <qj h eG+(3 +len)
 · rw [if_pos q,if_pos q];rfl
 · rw [if_neg q,if_neg q]
   cases eG <;> rfl
theorem aee {e:Int} {x w:bs} (ai:e= 0 ->Small F x.Words.length/\Small F x.ay.length) (aC:0 <F) (ex:x=if e= 0 then w else (⟨[],0,0,0,0,[],0⟩:bs)):qF F x e e w=some true:=by
 unfold qF
 by_cases he:e= 0
 · rw [if_pos he] at ex
   subst ex
   rw [he,show decide ((0 :Int)= 0)=true from rfl,Bool.not_true,cond_false,Option.bind_some]
   have:=afU (F:=F) (h:=x) (ai he).1 (ai he).2
   show cond (decide ((0 :Int)= 0)) ((zl F x x).bind _) _=_
   rw [this];rfl
 · rw [if_neg he] at ex
   subst ex
   rw [decide_eq_false he,Bool.not_false,cond_true,Option.bind_some]
   have:=afU (F:=F) (h:=(⟨[],0,0,0,0,[],0⟩:bs)) ⟨by simp,by simpa using aC⟩ ⟨by simp,by simpa using aC⟩
   show cond (decide (e=e)) ((zl F (⟨[],0,0,0,0,[],0⟩:bs) (⟨[],0,0,0,0,[],0⟩:bs)).bind _) _=_
   rw [this,decide_eq_true rfl];rfl
theorem aFd (bV:10000 <F) (g:Good F h k Y O) (tag len:Int) (eG:Bool):Small F (sI h tag len eG).Words.length/\Small F (sI h tag len eG).ay.length:=by
 have hw:=g.s.kt
 have af:=g.MG
 unfold sI
 cases eG
 · rw [if_neg Bool.false_ne_true];exact ⟨⟨by simp;omega,by simp;omega⟩,show h.ay.length<=_ by omega,show h.ay.length <_ by omega⟩
 · rw [if_pos rfl];exact ⟨⟨by simp;omega,by simp;omega⟩,show h.ay.length<=_ by omega,show h.ay.length <_ by omega⟩
end
theorem aFQ (h:bs) (bE:Go.Proofs.YtpkhpagplommoaaGreat.ZS Go.reachBytes h) (k:bw) (aC:Go.Proofs.YtpkhpagplommoaaGreat.Ka Go.reachBytes k) (tag:Int) (_:a2.jg tag) (len:Int) (_:a2.jg len) (eG:Bool) (_:True):∃ F,J' F h k tag len eG=some true:=by
 refine ⟨140737488355940 + 60,?_⟩
 have bV:10000 < 140737488355940 + 60 :=by omega
 have z2:=ajF aC
 have af:Small (140737488355940 + 60) h.ay.length:=o6 7 bE.2.2.2.2.2.1.1
 have a1:=avM 140737488355940
 generalize acJ:(140737488355940 + 60 :Nat)=F at bV af a1 ⊢
 have z2:∃ e,oN F k=some e/\tl F k=some e/\(e≠ 0 \/(e= 0 /\hW k)):=by rw [<-acJ];exact z2
 clear acJ
 obtain ⟨r,bO,b4,bU⟩:=aFE bV z2 af bE.2.2.2.2.2.2.2
 have nil:∀ e:Int,e≠ 0 ->qF F (⟨[],0,0,0,0,[],0⟩:bs) e e (⟨[],0,0,0,0,[],0⟩:bs)=some true:=fun e he=>aee (fun q=>absurd q he) (by omega) (by rw [if_neg he])
 have br:BT F (⟨h.Words,h.ar,h.aA,h.aO,h.aM,h.ay,h.Next⟩:bs) (⟨k.aJ,k.aG,k.Fields,k.Names,k.aE⟩:bw)=some r.2 :=b4
 unfold J'
 rcases bU with ⟨bU,_⟩ | ⟨Y,O,g,rfl⟩
 · have m:sp F (⟨h.Words,h.ar,h.aA,h.aO,h.aM,h.ay,h.Next⟩:bs) (⟨k.aJ,k.aG,k.Fields,k.Names,k.aE⟩:bw) tag len eG=_:=aFe bO bU tag len eG
   rw [m,Option.bind_some,br,Option.bind_some,decide_eq_false bU,cond_false,Option.bind_some,decide_eq_false bU,cond_false,Option.bind_some]
   show (td F).bind _=_
   rw [a1,Option.bind_some]
   show cond (true && decide ((0 :Int)= 0)) ((qF F (⟨[],0,0,0,0,[],0⟩:bs) r.2 r.2 (⟨[],0,0,0,0,[],0⟩:bs)).bind _) _=_
   rw [nil _ bU];rfl
 have m:sp F (⟨h.Words,h.ar,h.aA,h.aO,h.aM,h.ay,h.Next⟩:bs) (⟨k.aJ,k.aG,k.Fields,k.Names,k.aE⟩:bw) tag len eG=_:=aFf bV g tag len eG
 have akA:BR (⟨k.aJ,k.aG,k.Fields,k.Names,k.aE⟩:bw) tag len=_:=akC g tag len
 rw [m,Option.bind_some,br,Option.bind_some,show decide ((some (view h k Y O),(0 :Int)).2 = 0)=true from rfl,cond_true,akA,Option.bind_some,Option.bind_some]
 by_cases bA:gC k tag=true
 case neg=>
  rw [if_neg bA,if_neg bA,show decide ((7 :Int)= 0)=false from rfl,cond_false,Option.bind_some]
  show (td F).bind _=_
  rw [a1,Option.bind_some]
  show cond (true && decide ((0 :Int)= 0)) ((qF F (⟨[],0,0,0,0,[],0⟩:bs) 7 7 (⟨[],0,0,0,0,[],0⟩:bs)).bind _) _=_
  rw [nil 7 (by decide)];rfl
 by_cases az:isLen k tag len=true
 case neg=>
  rw [if_pos bA,if_pos bA,if_neg az,if_neg az,show decide ((3 :Int)= 0)=false from rfl,cond_false,Option.bind_some]
  show (td F).bind _=_
  rw [a1,Option.bind_some]
  show cond (true && decide ((0 :Int)= 0)) ((qF F (⟨[],0,0,0,0,[],0⟩:bs) 3 3 (⟨[],0,0,0,0,[],0⟩:bs)).bind _) _=_
  rw [nil 3 (by decide)];rfl
 have aFp:BS (⟨h.Words,h.ar,h.aA,h.aO,h.aM,h.ay,h.Next⟩:bs) tag len eG=_:=aFg g az eG
 rw [if_pos bA,if_pos bA,if_pos az,if_pos az,show decide ((0 :Int)= 0)=true from rfl,cond_true,aFp,Option.bind_some]
 by_cases q:zC h eG <qj h eG+(3 +len)
 · rw [if_pos q,if_pos q]
   show (td F).bind _=_
   rw [a1,Option.bind_some]
   show cond (true && decide ((0 :Int)= 0)) ((qF F (⟨[],0,0,0,0,[],0⟩:bs) 8 8 (⟨[],0,0,0,0,[],0⟩:bs)).bind _) _=_
   rw [nil 8 (by decide)];rfl
 · rw [if_neg q,if_neg q]
   show (td F).bind _=_
   rw [a1,Option.bind_some]
   show cond (true && decide (qj h eG=qj h eG)) ((qF F (sI h tag len eG) 0 0 (sI h tag len eG)).bind _) _=_
   rw [aee (fun _=>aFd bV g tag len eG) (by omega) (by rw [if_pos rfl]),decide_eq_true rfl];rfl
end J
namespace Go.Proofs.YtpkhpagplommoaaGreat.heapMakes
open Go Go.ChangeShapes Go.WideShapes Go.ChangeAt Go.RowKit
theorem own:ownKnob Tryz.prog.godebug=none:=by kernel_rfl
set_option maxRecDepth 100000 in
theorem ajK (H:Type) (enc:TypeId × Value->H) (W:World) (base:Nat) (args:Array Value) (ds gs:List (DataW H)) (before:List MemPlace)
 (pt:∀ (j:Nat) t v,Tryz.f6.params[j]? =some t->args[j]? =some v->Value.okWide Tryz.prog W .any base t v)
 (jl:DataW.Whole enc Tryz.prog Tryz.f6.params.toList Rows.heapMakesSpec.vars false W args.toList ds gs before) (aBz:∀ n ∈ DataW.weightsEach Tryz.prog Tryz.f6.params.toList ds,n<=reachBytes) :
 Calls Tryz.prog 6 args W fun e j2=>∃ v,e= .returned v/\Rows.heapMakesSpec.post enc Tryz.prog Tryz.f6 false true false false W args v j2:=by
 have aoz:=jl
 have eh:=jl.lt
 obtain ⟨p,q,ak0,CG,HC,R2,T9⟩:=jl
 have gL:DataW.TrodAll enc Tryz.prog W 0 (fun _=>true) true Tryz.f6.params.toList args.toList ds p:=ak0
 have kB:=aBz
 rw [Tryz.params6] at gL pt kB
 obtain ⟨v0,aKn,d0,aJD,h8,aKj,Ro,rfl,rfl,bE,aG_⟩:=trodAll_cons gL
 obtain ⟨v1,aKo,d1,aJE,hl,lk,rfl,rfl,rfl,aC,aG'⟩:=trodAll_cons aG_
 obtain ⟨v2,aKp,d2,aJF,l3,l4,rfl,rfl,rfl,aU,aHa⟩:=trodAll_cons aG'
 obtain ⟨v3,aKq,d3,aJG,sQ,MK,rfl,rfl,rfl,bS,aHb⟩:=trodAll_cons aHa
 obtain ⟨v4,aKr,d4,aJH,Ds,aKk,rfl,rfl,rfl,ew,aHc⟩:=trodAll_cons aHb
 obtain ⟨rfl,rfl,rfl⟩:=trodAll_nil aHc
 obtain rfl:args= #[v0,v1,v2,v3,v4]:=by cases args;simp_all
 obtain ⟨rfl,rfl⟩:=trodVars_none CG
 have aGA:=aGe (enc:=enc) (N:=reachBytes)
 have aGy:=a2.Z1 aGA bE (fun x ai=>eh x (by subst HC;simp [ai]))
 have aGC:=aGy (fun m hm=>kB m (by simp only [DataW.weightsEach,List.mem_append];simp [hm]))
 obtain ⟨d0,ko,k6⟩:=aGC
 obtain ⟨v0,rfl,_⟩:=okWide_struct Tryz.underlying24 (pt 0 24 v0 rfl rfl)
 obtain ⟨aIW,aJb,aIX,aJc,iy,aFV,aFW⟩:=ko
 obtain rfl:=a2.ZU iy
 have aGB:=aGf (enc:=enc) (N:=reachBytes)
 have aGz:=a2.Z1 aGB aC (fun x ai=>eh x (by subst HC;simp [ai]))
 have aGD:=aGz (fun m hm=>kB m (by simp only [DataW.weightsEach,List.mem_append];simp [hm]))
 obtain ⟨d1,jQ,jo⟩:=aGD
 obtain ⟨v1,rfl,_⟩:=okWide_struct Tryz.underlying30 (pt 1 30 v1 rfl rfl)
 obtain ⟨aI0,aJf,aI1,aJg,aI2,aJh,aI3,aJi,aI4,aJj,bO,aFX,aFY,aFZ,aF0,aF1⟩:=jQ
 obtain rfl:=a2.ZU bO
 obtain ⟨AG,rfl,k7⟩:=a2.Z0 Tryz.underlying3 (pt 2 3 v2 rfl rfl) aU
 obtain ⟨aFq,rfl,rl⟩:=a2.Z0 Tryz.underlying3 (pt 3 3 v3 rfl rfl) bS
 obtain ⟨E4,rfl⟩:=okWide_bool Tryz.underlying4 (pt 4 4 v4 rfl rfl)
 obtain ⟨F,bV⟩:=J.aFQ d0 k6 d1 jo AG k7 aFq rl E4 trivial
 refine (aiz (X:=[]) (M0:=[]) (W:=W) ⟨a2.a'.refl _ _,fun _ bh=>absurd bh (List.not_mem_nil),fun _ bh=>absurd bh (List.not_mem_nil),fun _ ai=>absurd ai (List.not_mem_nil),List.nodup_nil,fun y hy=>by (simp only [List.mem_cons,List.not_mem_nil,or_false] at hy;rcases hy with rfl | rfl | rfl | rfl | rfl | rfl | rfl <;> first | exact aFV | exact aFW | exact aFX | exact aFY | exact aFZ | exact aF0 | exact aF1)⟩ bV).mono fun e j2 ⟨he,ad⟩=>?_
 exact ⟨_,he,a2.aFS aoz (by kernel_rfl) (by kernel_rfl) rfl rfl Tryz.underlying4 rfl ad.ev⟩
theorem aEZ (os:Os):laidMet Tryz.prog Rows.heapMakesRow.laid ((World.holding Tryz.prog os ⟨#[],#[],[]⟩).forCall (fun _ _=>0) ⟨#[],#[.agg #[.slice none 0 0,.int .i64 0,.int .i64 0,.int .i64 0,.int .i64 0,.slice none 0 0,.int .i64 0],.agg #[.slice none 0 0,.slice none 0 0,.slice none 0 0,.slice none 0 0,.slice none 0 0],.int .i64 0,.int .i64 0,.bool false],[]⟩).memory:=
 laidMet_of_run' 8 (by kernel_rfl) (by kernel_rfl)
theorem reads (os:Os) {H:Type} (enc:TypeId × Value->H):∃ places,DataW.whole enc Tryz.prog ((World.holding Tryz.prog os ⟨#[],#[],[]⟩).forCall (fun _ _=>0) ⟨#[],#[.agg #[.slice none 0 0,.int .i64 0,.int .i64 0,.int .i64 0,.int .i64 0,.slice none 0 0,.int .i64 0],.agg #[.slice none 0 0,.slice none 0 0,.slice none 0 0,.slice none 0 0,.slice none 0 0],.int .i64 0,.int .i64 0,.bool false],[]⟩).memory Tryz.f6.params.toList Rows.heapMakesSpec.vars false (#[.agg #[.slice none 0 0,.int .i64 0,.int .i64 0,.int .i64 0,.int .i64 0,.slice none 0 0,.int .i64 0],.agg #[.slice none 0 0,.slice none 0 0,.slice none 0 0,.slice none 0 0,.slice none 0 0],.int .i64 0,.int .i64 0,.bool false]:Array Value).toList 8 =some ([.agg [.nil,.lit (.int .i64 0),.lit (.int .i64 0),.lit (.int .i64 0),.lit (.int .i64 0),.nil,.lit (.int .i64 0)],.agg [.nil,.nil,.nil,.nil,.nil],.lit (.int .i64 0),.lit (.int .i64 0),.lit (.bool false)],[],places):=
 ⟨[],by kernel_rfl⟩
set_option maxRecDepth 100000 in
theorem lifted (os:Os) (started:os.Started) (H:Type) (enc:TypeId × Value->H) (F:Stop.Interp) :
 ReturnsInHanded {} Tryz.checked os 6 .any ((OpenSpec.ofChange Rows.heapMakesSpec).preRow enc Tryz.prog Tryz.f6 Rows.heapMakesRow.domain false Rows.heapMakesRow.laid) (((OpenSpec.ofChange Rows.heapMakesSpec).at F).post enc Tryz.prog Tryz.f6 false true false false):=by
 obtain ⟨places,ai⟩:=reads os enc
 refine returnsInHanded_of_row (C:=Tryz.checked) (s:=OpenSpec.ofChange Rows.heapMakesSpec) own started (by kernel_rfl) Tryz.func6
  (witness_row_at (enc:=enc) (C:=Tryz.checked) false (World.holding Tryz.prog os ⟨#[],#[],[]⟩) #[.agg #[.slice none 0 0,.int .i64 0,.int .i64 0,.int .i64 0,.int .i64 0,.slice none 0 0,.int .i64 0],.agg #[.slice none 0 0,.slice none 0 0,.slice none 0 0,.slice none 0 0,.slice none 0 0],.int .i64 0,.int .i64 0,.bool false] rfl (by kernel_rfl) (by kernel_rfl) (by kernel_rfl)
   (OpenSpec.preRow_of_cond 8 ai (by kernel_rfl) (fun k bh=>by cases bh) (by kernel_rfl) (aEZ os))) ?_
 intro W base args ds gs before pt jl _ aJ7 aBT _ _ _
 exact ajK H enc W base args ds gs before pt jl (fun n af=>by obtain ⟨_,_,_,CG,_,_,_⟩:=jl;obtain ⟨rfl,_⟩:=trodVars_none CG;have adQ:(DataW.weightsEach Tryz.prog (Tryz.f6.params.toList++[]) (ds++[])).all (· <=reachBytes)=true:=aBT;rw [List.append_nil,List.append_nil] at adQ;exact of_decide_eq_true (List.all_eq_true.1 adQ n af))
theorem said:Rows.HeapMakesSaid:=
 OpenClaim.holds_of_cond 6 Tryz.f6 rfl rfl rfl rfl rfl rfl rfl ⟨rfl,rfl,rfl,rfl,rfl⟩ rfl rfl rfl rfl rfl (by kernel_rfl) Tryz.func6 (by kernel_rfl)
  (of_decide_eq_true (by kernel_rfl)) (by unfold Func.isWrapper;first | (rw [if_pos (by decide +kernel)];kernel_rfl) | (rw [if_neg (by decide +kernel)];exact ⟨rfl,rfl⟩))
  (fun os started H enc _ F=>by rw [OpenClaim.pre_eq_preRow];exact lifted os started H enc F)
end Go.Proofs.YtpkhpagplommoaaGreat.heapMakes
