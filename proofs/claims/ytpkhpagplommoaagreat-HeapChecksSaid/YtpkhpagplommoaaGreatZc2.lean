/- Part 2 of the proof that is ended in the last text: small logic, what the functions compute, walks, plain laws. -/
import Derived.Test.YtpkhpagplommoaaGreatZc1
import Derived.Test.YtpkhpagplommoaaGreatChecked
import Derived.KernelRfl
namespace J
open Go
def dB:a5.fJ Kind where
 size:=2
 rd _ _ cs d:=cs= [.int .i64 d.Kind,a5.ak d.aR]
 len h:=by subst h;rfl
 one h v ah:=by subst h;simp only [List.mem_cons,List.not_mem_nil,or_false] at ah;rcases ah with rfl | rfl <;> rfl
 law _ h:=h
def eG:a5.fJ Handler where
 size:=4
 rd _ _ cs d:=cs= [.int .i64 d.From,.int .i64 d.To,.int .i64 d.hB,a5.ak d.aR]
 len h:=by subst h;rfl
 one h v ah:=by subst h;simp only [List.mem_cons,List.not_mem_nil,or_false] at ah;rcases ah with rfl | rfl | rfl | rfl <;> rfl
 law _ h:=h
def b8:a5.fJ Method where
 size:=9
 rd F w cs d:=∃ hn eD ho eH,cs= [a5.ak d.Name,.bool d.Static,.slice hn d.bA.length eD,.int .i64 d.Returns.Kind,a5.ak d.Returns.aR,.int .i64 d.cT,.int .i64 d.cS,a5.ak d.Code,.slice ho d.bp.length eH]/\(a5.aN J.dB).rd F w [.slice hn d.bA.length eD] d.bA/\(a5.aN J.eG).rd F w [.slice ho d.bp.length eH] d.bp
 len h:=by obtain ⟨hn,eD,ho,eH,bH,_⟩:=h;subst bH;rfl
 one h v ah:=by obtain ⟨hn,eD,ho,eH,bH,_⟩:=h;subst bH;simp only [List.mem_cons,List.not_mem_nil,or_false] at ah;rcases ah with rfl | rfl | rfl | rfl | rfl | rfl | rfl | rfl | rfl <;> rfl
 law b4 h:=by obtain ⟨hn,eD,ho,eH,bH,aI,aV⟩:=h;exact ⟨hn,eD,ho,eH,bH,(a5.aN J.dB).law b4 aI,(a5.aN J.eG).law b4 aV⟩
def aX:a5.fJ Field where
 size:=3
 rd _ _ cs d:=cs= [a5.ak d.Name,.int .i64 d.Kind.Kind,a5.ak d.Kind.aR]
 len h:=by subst h;rfl
 one h v ah:=by subst h;simp only [List.mem_cons,List.not_mem_nil,or_false] at ah;rcases ah with rfl | rfl | rfl <;> rfl
 law _ h:=h
def bd:a5.fJ aR where
 size:=4
 rd F w cs d:=∃ hn eD ho eH,cs= [a5.ak d.Name,a5.ak d.b0,.slice hn d.Fields.length eD,.slice ho d.az.length eH]/\(a5.aN J.aX).rd F w [.slice hn d.Fields.length eD] d.Fields/\(a5.aN J.b8).rd F w [.slice ho d.az.length eH] d.az
 len h:=by obtain ⟨hn,eD,ho,eH,bH,_⟩:=h;subst bH;rfl
 one h v ah:=by obtain ⟨hn,eD,ho,eH,bH,_⟩:=h;subst bH;simp only [List.mem_cons,List.not_mem_nil,or_false] at ah;rcases ah with rfl | rfl | rfl | rfl <;> rfl
 law b4 h:=by obtain ⟨hn,eD,ho,eH,bH,aI,aV⟩:=h;exact ⟨hn,eD,ho,eH,bH,(a5.aN J.aX).law b4 aI,(a5.aN J.b8).law b4 aV⟩
def bW:a5.fJ Target where
 size:=2
 rd _ _ cs d:=cs= [.int .i64 d.aR,.int .i64 d.Method]
 len h:=by subst h;rfl
 one h v ah:=by subst h;simp only [List.mem_cons,List.not_mem_nil,or_false] at ah;rcases ah with rfl | rfl <;> rfl
 law _ h:=h
def aFr:a5.fJ bC where
 size:=5
 rd F w cs d:=∃ hn eD ho eH sb gK wc kN wg ma,cs= [.slice hn d.aO.length eD,.slice ho d.aK.length eH,.slice sb d.Fields.length gK,.slice wc d.Names.length kN,.slice wg d.aL.length ma]/\(a5.aN J.bd).rd F w [.slice hn d.aO.length eD] d.aO/\(a5.aN (a5.aq .i64)).rd F w [.slice ho d.aK.length eH] d.aK/\(a5.aN (a5.aN J.aX)).rd F w [.slice sb d.Fields.length gK] d.Fields/\(a5.aN (a5.aN a5.bE)).rd F w [.slice wc d.Names.length kN] d.Names/\(a5.aN (a5.aN J.bW)).rd F w [.slice wg d.aL.length ma] d.aL
 len h:=by obtain ⟨hn,eD,ho,eH,sb,gK,wc,kN,wg,ma,bH,_⟩:=h;subst bH;rfl
 one h v ah:=by obtain ⟨hn,eD,ho,eH,sb,gK,wc,kN,wg,ma,bH,_⟩:=h;subst bH;simp only [List.mem_cons,List.not_mem_nil,or_false] at ah;rcases ah with rfl | rfl | rfl | rfl | rfl <;> rfl
 law b4 h:=by obtain ⟨hn,eD,ho,eH,sb,gK,wc,kN,wg,ma,bH,aI,aV,bX,eP,mY⟩:=h;exact ⟨hn,eD,ho,eH,sb,gK,wc,kN,wg,ma,bH,(a5.aN J.bd).law b4 aI,(a5.aN (a5.aq .i64)).law b4 aV,(a5.aN (a5.aN J.aX)).law b4 bX,(a5.aN (a5.aN a5.bE)).law b4 eP,(a5.aN (a5.aN J.bW)).law b4 mY⟩
def aFq:a5.fJ bO where
 size:=7
 rd F w cs d:=∃ hn eD ho eH,cs= [.slice hn d.Words.length eD,.int .i64 d.aA,.int .i64 d.aP,.int .i64 d.aZ,.int .i64 d.aY,.slice ho d.ay.length eH,.int .i64 d.Next]/\(a5.aN (a5.aq .i64)).rd F w [.slice hn d.Words.length eD] d.Words/\(a5.aN (a5.aq .i64)).rd F w [.slice ho d.ay.length eH] d.ay
 len h:=by obtain ⟨hn,eD,ho,eH,bH,_⟩:=h;subst bH;rfl
 one h v ah:=by obtain ⟨hn,eD,ho,eH,bH,_⟩:=h;subst bH;simp only [List.mem_cons,List.not_mem_nil,or_false] at ah;rcases ah with rfl | rfl | rfl | rfl | rfl | rfl | rfl <;> rfl
 law b4 h:=by obtain ⟨hn,eD,ho,eH,bH,aI,aV⟩:=h;exact ⟨hn,eD,ho,eH,bH,(a5.aN (a5.aq .i64)).law b4 aI,(a5.aN (a5.aq .i64)).law b4 aV⟩
end J
namespace Go.Value
abbrev U (g:Nat):Value:=.pointer (some ⟨g,0,none⟩)
abbrev i (n:Int):Value:=.int .i64 n
end Go.Value
namespace Go.Proofs.YtpkhpagplommoaaGreat
open Go Go.RowKit
abbrev aa {α:Type} (T:a5.fJ α) (A:Option Addr) (c:Nat) (l:List α):a5.ap:=a5.ap.of (a5.aN T) [.slice A l.length c] l
def zL:a5.o3:=⟨[(3,.i .i64),(4,.b),(5,.i .u8),(9,.s),(22,.aa),(25,.aa),(26,.aa),(27,.aa),(28,.aa),(31,.i .i64),(106,.aa),(124,.aa),(125,.aa),(126,.aa),(130,.aa),(131,.aa),(134,.aa),(184,.aa),(186,.aa)],[(24,0,0),(24,1,1),(24,2,2),(24,3,3),(24,4,4),(24,5,5),(24,6,6),(30,0,0),(30,1,1),(30,2,2),(30,3,3),(30,4,4),(74,0,0),(77,0,0),(77,1,7),(77,2,12),(77,3,13),(77,4,14),(103,0,0),(103,1,1),(105,0,0),(105,1,1),(122,0,0),(122,1,1),(122,2,2),(133,0,0),(133,1,1),(133,2,2),(133,3,3),(133,4,5),(133,5,6),(133,6,7),(133,7,8),(136,0,0),(136,1,1),(136,2,2),(136,3,3),(150,0,0),(150,1,1),(150,2,2),(150,3,3)],[(3,none),(4,none),(5,none),(9,none),(22,none),(24,some 7),(25,none),(26,none),(27,none),(28,none),(30,some 5),(65,none),(74,some 5),(75,none),(103,some 2),(105,some 3),(106,none),(118,none),(120,none),(123,none),(125,none),(126,none),(130,none),(131,none),(133,some 9),(134,none),(136,some 4),(150,some 4),(159,some 2)]⟩
theorem cq:a5.sf Tryz.prog zL:=⟨⟨Tryz.underlying3,Tryz.underlying4,Tryz.underlying5,Tryz.underlying9,⟨_,Tryz.underlying22⟩,⟨_,Tryz.underlying25⟩,⟨_,Tryz.underlying26⟩,⟨_,Tryz.underlying27⟩,⟨_,Tryz.underlying28⟩,Tryz.underlying31,⟨_,Tryz.underlying106⟩,⟨_,Tryz.underlying124⟩,⟨_,Tryz.underlying125⟩,⟨_,Tryz.underlying126⟩,⟨_,Tryz.underlying130⟩,⟨_,Tryz.underlying131⟩,⟨_,Tryz.underlying134⟩,⟨_,Tryz.underlying184⟩,⟨_,Tryz.underlying186⟩,trivial⟩,⟨a5.f' Tryz.underlying24 rfl rfl Tryz.sizeOf22 rfl,a5.f' Tryz.underlying24 rfl rfl Tryz.sizeOf3 rfl,a5.f' Tryz.underlying24 rfl rfl Tryz.sizeOf3 rfl,a5.f' Tryz.underlying24 rfl rfl Tryz.sizeOf3 rfl,a5.f' Tryz.underlying24 rfl rfl Tryz.sizeOf3 rfl,a5.f' Tryz.underlying24 rfl rfl Tryz.sizeOf22 rfl,a5.f' Tryz.underlying24 rfl rfl Tryz.sizeOf3 rfl,a5.f' Tryz.underlying30 rfl rfl Tryz.sizeOf25 rfl,a5.f' Tryz.underlying30 rfl rfl Tryz.sizeOf22 rfl,a5.f' Tryz.underlying30 rfl rfl Tryz.sizeOf26 rfl,a5.f' Tryz.underlying30 rfl rfl Tryz.sizeOf27 rfl,a5.f' Tryz.underlying30 rfl rfl Tryz.sizeOf28 rfl,a5.f' Tryz.underlying74 rfl rfl Tryz.sizeOf30 rfl,a5.f' Tryz.underlying77 rfl rfl Tryz.sizeOf24 rfl,a5.f' Tryz.underlying77 rfl rfl Tryz.sizeOf74 rfl,a5.f' Tryz.underlying77 rfl rfl Tryz.sizeOf22 rfl,a5.f' Tryz.underlying77 rfl rfl Tryz.sizeOf22 rfl,a5.f' Tryz.underlying77 rfl rfl Tryz.sizeOf75 rfl,a5.f' Tryz.underlying103 rfl rfl Tryz.sizeOf3 rfl,a5.f' Tryz.underlying103 rfl rfl Tryz.sizeOf9 rfl,a5.f' Tryz.underlying105 rfl rfl Tryz.sizeOf9 rfl,a5.f' Tryz.underlying105 rfl rfl Tryz.sizeOf103 rfl,a5.f' Tryz.underlying122 rfl rfl Tryz.sizeOf25 rfl,a5.f' Tryz.underlying122 rfl rfl Tryz.sizeOf120 rfl,a5.f' Tryz.underlying122 rfl rfl Tryz.sizeOf22 rfl,a5.f' Tryz.underlying133 rfl rfl Tryz.sizeOf9 rfl,a5.f' Tryz.underlying133 rfl rfl Tryz.sizeOf4 rfl,a5.f' Tryz.underlying133 rfl rfl Tryz.sizeOf130 rfl,a5.f' Tryz.underlying133 rfl rfl Tryz.sizeOf103 rfl,a5.f' Tryz.underlying133 rfl rfl Tryz.sizeOf3 rfl,a5.f' Tryz.underlying133 rfl rfl Tryz.sizeOf3 rfl,a5.f' Tryz.underlying133 rfl rfl Tryz.sizeOf9 rfl,a5.f' Tryz.underlying133 rfl rfl Tryz.sizeOf131 rfl,a5.f' Tryz.underlying136 rfl rfl Tryz.sizeOf9 rfl,a5.f' Tryz.underlying136 rfl rfl Tryz.sizeOf9 rfl,a5.f' Tryz.underlying136 rfl rfl Tryz.sizeOf106 rfl,a5.f' Tryz.underlying136 rfl rfl Tryz.sizeOf134 rfl,a5.f' Tryz.underlying150 rfl rfl Tryz.sizeOf3 rfl,a5.f' Tryz.underlying150 rfl rfl Tryz.sizeOf3 rfl,a5.f' Tryz.underlying150 rfl rfl Tryz.sizeOf3 rfl,a5.f' Tryz.underlying150 rfl rfl Tryz.sizeOf9 rfl,trivial⟩,⟨Tryz.isAgg3,Tryz.isAgg4,Tryz.isAgg5,Tryz.isAgg9,Tryz.isAgg22,⟨Tryz.isAgg24,Tryz.sizeOf24⟩,Tryz.isAgg25,Tryz.isAgg26,Tryz.isAgg27,Tryz.isAgg28,⟨Tryz.isAgg30,Tryz.sizeOf30⟩,Tryz.isAgg65,⟨Tryz.isAgg74,Tryz.sizeOf74⟩,Tryz.isAgg75,⟨Tryz.isAgg103,Tryz.sizeOf103⟩,⟨Tryz.isAgg105,Tryz.sizeOf105⟩,Tryz.isAgg106,Tryz.isAgg118,Tryz.isAgg120,Tryz.isAgg123,Tryz.isAgg125,Tryz.isAgg126,Tryz.isAgg130,Tryz.isAgg131,⟨Tryz.isAgg133,Tryz.sizeOf133⟩,Tryz.isAgg134,⟨Tryz.isAgg136,Tryz.sizeOf136⟩,⟨Tryz.isAgg150,Tryz.sizeOf150⟩,⟨Tryz.isAgg159,Tryz.sizeOf159⟩,trivial⟩⟩
theorem oA:(Tryz.prog.info? 3).map (fun i=>(i.zero,i.size,i.bytes))=some (some (.int .i64 0),1,8):=by kernel_rfl
theorem ym:(Tryz.prog.info? 9).map (fun i=>(i.zero,i.size,i.bytes))=some (some (a5.ak []),1,16):=by kernel_rfl
theorem aCV:(Tryz.prog.info? 103).map (fun i=>(i.zero,i.size,i.bytes))=some (some (.agg #[.int .i64 0,a5.ak []]),2,24):=by kernel_rfl
theorem Ug:(Tryz.prog.info? 105).map (fun i=>(i.zero,i.size,i.bytes))=some (some (.agg #[a5.ak [],.int .i64 0,a5.ak []]),3,40):=by kernel_rfl
theorem acO:(Tryz.prog.info? 106).map (fun i=>(i.zero,i.size,i.bytes))=some (some (.slice none 0 0),1,24):=by kernel_rfl
theorem acP:(Tryz.prog.info? 125).map (fun i=>(i.zero,i.size,i.bytes))=some (some (.slice none 0 0),1,24):=by kernel_rfl
theorem acQ:(Tryz.prog.info? 126).map (fun i=>(i.zero,i.size,i.bytes))=some (some (.slice none 0 0),1,24):=by kernel_rfl
theorem aCW:(Tryz.prog.info? 133).map (fun i=>(i.zero,i.size,i.bytes))=some (some (.agg #[a5.ak [],.bool false,.slice none 0 0,.int .i64 0,a5.ak [],.int .i64 0,.int .i64 0,a5.ak [],.slice none 0 0]),9,128):=by kernel_rfl
theorem aCX:(Tryz.prog.info? 136).map (fun i=>(i.zero,i.size,i.bytes))=some (some (.agg #[a5.ak [],a5.ak [],.slice none 0 0,.slice none 0 0]),4,80):=by kernel_rfl
theorem aCY:(Tryz.prog.info? 150).map (fun i=>(i.zero,i.size,i.bytes))=some (some (.agg #[.int .i64 0,.int .i64 0,.int .i64 0,a5.ak []]),4,40):=by kernel_rfl
theorem Lt:(Tryz.prog.info? 159).map (fun i=>(i.zero,i.size,i.bytes))=some (some (.agg #[.int .i64 0,.int .i64 0]),2,16):=by kernel_rfl
theorem vC:∀ w,(a5.placesOf Tryz.prog 24).run Tryz.prog w= .ok #[(0,1),(1,1),(2,1),(3,1),(4,1),(5,1),(6,1)] w:=fun w=>by kernel_rfl
theorem qF:∀ w,(a5.placesOf Tryz.prog 30).run Tryz.prog w= .ok #[(0,1),(1,1),(2,1),(3,1),(4,1)] w:=fun w=>by kernel_rfl
theorem aDW:∀ w,(a5.placesOf Tryz.prog 74).run Tryz.prog w= .ok #[(0,5)] w:=fun w=>by kernel_rfl
theorem aDX:∀ w,(a5.placesOf Tryz.prog 77).run Tryz.prog w= .ok #[(0,7),(7,5),(12,1),(13,1),(14,1)] w:=fun w=>by kernel_rfl
theorem adU:∀ w,(a5.placesOf Tryz.prog 103).run Tryz.prog w= .ok #[(0,1),(1,1)] w:=fun w=>by kernel_rfl
theorem aDT:∀ w,(a5.placesOf Tryz.prog 105).run Tryz.prog w= .ok #[(0,1),(1,2)] w:=fun w=>by kernel_rfl
theorem aDU:∀ w,(a5.placesOf Tryz.prog 122).run Tryz.prog w= .ok #[(0,1),(1,1),(2,1)] w:=fun w=>by kernel_rfl
theorem aDV:∀ w,(a5.placesOf Tryz.prog 133).run Tryz.prog w= .ok #[(0,1),(1,1),(2,1),(3,2),(5,1),(6,1),(7,1),(8,1)] w:=fun w=>by kernel_rfl
theorem adV:∀ w,(a5.placesOf Tryz.prog 136).run Tryz.prog w= .ok #[(0,1),(1,1),(2,1),(3,1)] w:=fun w=>by kernel_rfl
theorem Wl:∀ w,(a5.placesOf Tryz.prog 159).run Tryz.prog w= .ok #[(0,1),(1,1)] w:=fun w=>by kernel_rfl
theorem aiL {o:Oper} {a:Act} {w:World} {eF:TypeId} {x y:Operand} {X Y:J.Kind} (bu:o.op= .binOp .eql 103 x y eF) (al:a.eval x= .agg #[.int .i64 X.Kind,a5.ak X.aR]) (hy:a.eval y= .agg #[.int .i64 Y.Kind,a5.ak Y.aR]):a5.cv Tryz.prog o a w (.bool (decide (X=Y))) w:=by
 have bY:decide (X=Y)=decide (X.Kind=Y.Kind/\X.aR=Y.aR/\True):=by rcases X with ⟨_,_⟩;rcases Y with ⟨_,_⟩;simp
 rw [bY]
 exact a5.aGA Tryz.underlying103 (by kernel_rfl) (by kernel_rfl) (a5.xI rfl Tryz.underlying3 Tryz.isAgg3 rfl rfl (a5.Fs rfl Tryz.underlying9 Tryz.isAgg9 rfl rfl (by simp [a5.Cb]))) bu al hy
theorem Ft {o:Oper} {a:Act} {w:World} {eF:TypeId} {x y:Operand} {X Y:J.Kind} (bu:o.op= .binOp .neq 103 x y eF) (al:a.eval x= .agg #[.int .i64 X.Kind,a5.ak X.aR]) (hy:a.eval y= .agg #[.int .i64 Y.Kind,a5.ak Y.aR]):a5.cv Tryz.prog o a w (.bool (!decide (X=Y))) w:=by
 have bY:decide (X=Y)=decide (X.Kind=Y.Kind/\X.aR=Y.aR/\True):=by rcases X with ⟨_,_⟩;rcases Y with ⟨_,_⟩;simp
 rw [bY]
 exact a5.OC Tryz.underlying103 (by kernel_rfl) (by kernel_rfl) (a5.xI rfl Tryz.underlying3 Tryz.isAgg3 rfl rfl (a5.Fs rfl Tryz.underlying9 Tryz.isAgg9 rfl rfl (by simp [a5.Cb]))) bu al hy
theorem aa1 {o:Oper} {a:Act} {w:World} {eF:TypeId} {x y:Operand} {X Y:J.Field} (bu:o.op= .binOp .neq 105 x y eF) (al:a.eval x= .agg #[a5.ak X.Name,.int .i64 X.Kind.Kind,a5.ak X.Kind.aR]) (hy:a.eval y= .agg #[a5.ak Y.Name,.int .i64 Y.Kind.Kind,a5.ak Y.Kind.aR]):a5.cv Tryz.prog o a w (.bool (!decide (X=Y))) w:=by
 have bY:decide (X=Y)=decide (X.Name=Y.Name/\(X.Kind.Kind=Y.Kind.Kind/\X.Kind.aR=Y.Kind.aR/\True)/\True):=by rcases X with ⟨_,⟨_,_⟩⟩;rcases Y with ⟨_,⟨_,_⟩⟩;simp
 rw [bY]
 exact a5.OC Tryz.underlying105 (by kernel_rfl) (by kernel_rfl) (a5.Fs rfl Tryz.underlying9 Tryz.isAgg9 rfl rfl (a5.aiD (us:=[.int .i64 X.Kind.Kind,a5.ak X.Kind.aR]) (vs:=[.int .i64 Y.Kind.Kind,a5.ak Y.Kind.aR]) (q:=X.Kind.Kind=Y.Kind.Kind/\X.Kind.aR=Y.Kind.aR/\True) rfl Tryz.isAgg103 Tryz.sizeOf103 rfl rfl (a5.aiN Tryz.underlying103 (by kernel_rfl) (a5.xI rfl Tryz.underlying3 Tryz.isAgg3 rfl rfl (a5.Fs rfl Tryz.underlying9 Tryz.isAgg9 rfl rfl (by simp [a5.Cb])))) (by simp [a5.Cb]))) bu al hy
theorem aiM {o:Oper} {a:Act} {w:World} {eF:TypeId} {x y:Operand} {X Y:J.Handler} (bu:o.op= .binOp .neq 150 x y eF) (al:a.eval x= .agg #[.int .i64 X.From,.int .i64 X.To,.int .i64 X.hB,a5.ak X.aR]) (hy:a.eval y= .agg #[.int .i64 Y.From,.int .i64 Y.To,.int .i64 Y.hB,a5.ak Y.aR]):a5.cv Tryz.prog o a w (.bool (!decide (X=Y))) w:=by
 have bY:decide (X=Y)=decide (X.From=Y.From/\X.To=Y.To/\X.hB=Y.hB/\X.aR=Y.aR/\True):=by rcases X with ⟨_,_,_,_⟩;rcases Y with ⟨_,_,_,_⟩;simp
 rw [bY]
 exact a5.OC Tryz.underlying150 (by kernel_rfl) (by kernel_rfl) (a5.xI rfl Tryz.underlying3 Tryz.isAgg3 rfl rfl (a5.xI rfl Tryz.underlying3 Tryz.isAgg3 rfl rfl (a5.xI rfl Tryz.underlying3 Tryz.isAgg3 rfl rfl (a5.Fs rfl Tryz.underlying9 Tryz.isAgg9 rfl rfl (by simp [a5.Cb]))))) bu al hy
theorem aa2 {o:Oper} {a:Act} {w:World} {eF:TypeId} {x y:Operand} {X Y:J.Target} (bu:o.op= .binOp .neq 159 x y eF) (al:a.eval x= .agg #[.int .i64 X.aR,.int .i64 X.Method]) (hy:a.eval y= .agg #[.int .i64 Y.aR,.int .i64 Y.Method]):a5.cv Tryz.prog o a w (.bool (!decide (X=Y))) w:=by
 have bY:decide (X=Y)=decide (X.aR=Y.aR/\X.Method=Y.Method/\True):=by rcases X with ⟨_,_⟩;rcases Y with ⟨_,_⟩;simp
 rw [bY]
 exact a5.OC Tryz.underlying159 (by kernel_rfl) (by kernel_rfl) (a5.xI rfl Tryz.underlying3 Tryz.isAgg3 rfl rfl (a5.xI rfl Tryz.underlying3 Tryz.isAgg3 rfl rfl (by simp [a5.Cb]))) bu al hy
section
open a5
variable {n:h'} {cz:List (Nat × Value)} {w:World} {a:Act}
theorem aM (k:Nat) (bc:List Nat) {ops:Array Oper} {Q:Exit->Act->World->Prop} {rest:List Oper} (fr':List (Nat × Value)) (I:Fr n cz a)
 (next:∀ b2,Fr n fr' b2->wpList Tryz.prog ops Q (rest.drop k) b2 w) (he:rb zL ops n [] (rest.take k) bc cz (fr'.map (·.1))=some (fr',dup []):=by kernel_rfl):wpList Tryz.prog ops Q rest a w:=jP k _ bc cq aE I he next
theorem bh (k:Nat) (bc:List Nat) {ops:Array Oper} {Q:Exit->Act->World->Prop} {rest:List Oper} {M:List (Nat × Nat × List Value)} (fr':List (Nat × Value)) (L:List Nat) (hs:mr w M) (I:Fr n cz a)
 (next:∀ b2,Fr n fr' b2->wpList Tryz.prog ops Q (rest.drop k) b2 w) (he:rb zL ops n M (rest.take k) bc cz (fr'.map (·.1))=some (fr',dup L):=by kernel_rfl):wpList Tryz.prog ops Q rest a w:=jP k _ bc cq hs I he next
theorem dW (k:Nat) (bc:List Nat) {ops:Array Oper} {C:World->Prop} {qX:Act->Prop} {rest:List Oper} {M:List (Nat × Nat × List Value)} (fr':List (Nat × Value)) (L:List Nat) (hs:∀ w,C w->mr w M) (I:Fr n cz a)
 (next:∀ b2,Fr n fr' b2->wpQuiet Tryz.prog ops C qX (rest.drop k) b2) (he:rb zL ops n M (rest.take k) bc cz (fr'.map (·.1))=some (fr',dup L):=by kernel_rfl):wpQuiet Tryz.prog ops C qX rest a:=aD9 k _ bc cq hs I he next
theorem rg (bc:List Nat) {id:Nat} {lo:List Oper} {Q:Exit->Act->World->Prop} {M:List (Nat × Nat × List Value)} (fr':List (Nat × Value)) (L:List Nat) (hs:mr w M) (I:Fr n cz a)
 (next:∀ b2,Fr n fr' b2->Q .normal b2 w) (he:rb zL lo.toArray n M lo bc cz (fr'.map (·.1))=some (fr',dup L):=by kernel_rfl):(Code.region id lo.toArray false).wp Tryz.prog Q a w:=by
 refine a7 (jP lo.length _ bc cq hs I (by rw [List.take_length];exact he) fun b2 fB=>?_)
 rw [List.drop_length]
 exact next b2 fB
theorem cn (bc:List Nat) {id:Nat} {lo:List Oper} {Q:Exit->Act->World->Prop} (fr':List (Nat × Value)) (I:Fr n cz a)
 (next:∀ b2,Fr n fr' b2->Q .normal b2 w) (he:rb zL lo.toArray n [] lo bc cz (fr'.map (·.1))=some (fr',dup []):=by kernel_rfl):(Code.region id lo.toArray false).wp Tryz.prog Q a w:=rg bc fr' [] aE I next he
theorem aG (bc:List Nat) {id:Nat} {lo:List Oper} {c:Code} {Q:Exit->Act->World->Prop} (fr':List (Nat × Value)) (I:Fr n cz a)
 (next:∀ b2,Fr n fr' b2->c.wp Tryz.prog Q b2 w) (he:rb zL lo.toArray n [] lo bc cz (fr'.map (·.1))=some (fr',dup []):=by kernel_rfl):(Code.seq (.region id lo.toArray false) c).wp Tryz.prog Q a w:=wp_seq_k fun _ i_=>rg bc fr' [] aE I (fun b2 fB=>i_ _ _ (next b2 fB)) he
end
end Go.Proofs.YtpkhpagplommoaaGreat
namespace Go.Proofs.YtpkhpagplommoaaGreat
open Go Go.RowKit
theorem om:Tryz.prog.cellsOf 3 = 1 :=by kernel_rfl
theorem aio:Tryz.prog.cellsOf 4 = 1 :=by kernel_rfl
theorem xD:Tryz.prog.cellsOf 9 = 1 :=by kernel_rfl
theorem Qf:Tryz.prog.cellsOf 22 = 1 :=by kernel_rfl
theorem aih:Tryz.prog.cellsOf 24 = 7 :=by kernel_rfl
theorem aij:Tryz.prog.cellsOf 25 = 1 :=by kernel_rfl
theorem aik:Tryz.prog.cellsOf 26 = 1 :=by kernel_rfl
theorem ail:Tryz.prog.cellsOf 27 = 1 :=by kernel_rfl
theorem aim:Tryz.prog.cellsOf 28 = 1 :=by kernel_rfl
theorem ain:Tryz.prog.cellsOf 30 = 5 :=by kernel_rfl
theorem KF:Tryz.prog.cellsOf 103 = 2 :=by kernel_rfl
theorem aaD:Tryz.prog.cellsOf 105 = 3 :=by kernel_rfl
theorem aaE:Tryz.prog.cellsOf 106 = 1 :=by kernel_rfl
theorem aia:Tryz.prog.cellsOf 125 = 1 :=by kernel_rfl
theorem aib:Tryz.prog.cellsOf 126 = 1 :=by kernel_rfl
theorem aic:Tryz.prog.cellsOf 130 = 1 :=by kernel_rfl
theorem aid:Tryz.prog.cellsOf 131 = 1 :=by kernel_rfl
theorem aaF:Tryz.prog.cellsOf 133 = 9 :=by kernel_rfl
theorem aie:Tryz.prog.cellsOf 134 = 1 :=by kernel_rfl
theorem aaG:Tryz.prog.cellsOf 136 = 4 :=by kernel_rfl
theorem aaI:Tryz.prog.cellsOf 150 = 4 :=by kernel_rfl
theorem aaK:Tryz.prog.cellsOf 159 = 2 :=by kernel_rfl
theorem agq:Tryz.prog.bytesOf 3 = 8 :=by kernel_rfl
theorem agr:Tryz.prog.bytesOf 9 = 16 :=by kernel_rfl
theorem agh:Tryz.prog.bytesOf 103 = 24 :=by kernel_rfl
theorem agi:Tryz.prog.bytesOf 105 = 40 :=by kernel_rfl
theorem agj:Tryz.prog.bytesOf 106 = 24 :=by kernel_rfl
theorem agk:Tryz.prog.bytesOf 125 = 24 :=by kernel_rfl
theorem agl:Tryz.prog.bytesOf 126 = 24 :=by kernel_rfl
theorem agm:Tryz.prog.bytesOf 133 = 128 :=by kernel_rfl
theorem agn:Tryz.prog.bytesOf 136 = 80 :=by kernel_rfl
theorem ago:Tryz.prog.bytesOf 150 = 40 :=by kernel_rfl
theorem agp:Tryz.prog.bytesOf 159 = 16 :=by kernel_rfl
theorem adC {l:List Value} (h:l.length= 2):∃ a0 eu,l= [a0,eu]:=match l,h with | [a0,eu],_=>⟨a0,eu,rfl⟩
theorem aDe {l:List Value} (h:l.length= 3):∃ a0 eu fw,l= [a0,eu,fw]:=match l,h with | [a0,eu,fw],_=>⟨a0,eu,fw,rfl⟩
theorem adD {l:List Value} (h:l.length= 4):∃ a0 eu fw a3,l= [a0,eu,fw,a3]:=match l,h with | [a0,eu,fw,a3],_=>⟨a0,eu,fw,a3,rfl⟩
theorem aDf {l:List Value} (h:l.length= 5):∃ a0 eu fw a3 a4,l= [a0,eu,fw,a3,a4]:=match l,h with | [a0,eu,fw,a3,a4],_=>⟨a0,eu,fw,a3,a4,rfl⟩
theorem aDg {l:List Value} (h:l.length= 7):∃ a0 eu fw a3 a4 oc ny,l= [a0,eu,fw,a3,a4,oc,ny]:=match l,h with | [a0,eu,fw,a3,a4,oc,ny],_=>⟨a0,eu,fw,a3,a4,oc,ny,rfl⟩
theorem aDh {l:List Value} (h:l.length= 9):∃ a0 eu fw a3 a4 oc ny zp BQ,l= [a0,eu,fw,a3,a4,oc,ny,zp,BQ]:=match l,h with | [a0,eu,fw,a3,a4,oc,ny,zp,BQ],_=>⟨a0,eu,fw,a3,a4,oc,ny,zp,BQ,rfl⟩
section
variable {H:Type} {enc:TypeId × Value->H} {N:Nat}
theorem Xj:a5.jk Tryz.prog enc N 22 (a5.aN (a5.aq .i64)) (fun l=>l.length* 8 <=N/\ ∀ fr ∈ l,a5.ld fr):=by
 have h:=a5.rR (enc:=enc) (N:=N) Tryz.underlying22 om (by decide) (a5.oN Tryz.underlying3)
 rw [agq] at h
 exact h
def Y2 (N:Nat) (d:J.bO):Prop:=(d.Words.length* 8 <=N/\ ∀ fr ∈ d.Words,a5.ld fr)/\a5.ld d.aA/\a5.ld d.aP/\a5.ld d.aZ/\a5.ld d.aY/\(d.ay.length* 8 <=N/\ ∀ fr ∈ d.ay,a5.ld fr)/\a5.ld d.Next
theorem aEp:a5.jk Tryz.prog enc N 24 J.aFq (Y2 N):=by
 intro W n cs x h b9 hw
 obtain ⟨lC,aC,I⟩:=a5.ph Tryz.underlying24 h b9 hw
 replace aC:=aC.trans aih
 obtain ⟨a0,eu,fw,a3,a4,oc,ny,rfl⟩:=aDg aC
 obtain ⟨Bn,bH,js,j6⟩:=a5.g' I 0 rfl rfl rfl Qf (r:=[a0]) rfl
 obtain ⟨d0,lF,mn⟩:=(Xj) W _ _ _ bH js j6
 obtain ⟨qP,zs,jU⟩:=a5.gS lF
 obtain rfl:a0=_:=(List.cons.inj jU).1
 obtain ⟨Bo,aI,il,bb⟩:=a5.g' I 1 rfl rfl rfl om (r:=[eu]) rfl
 obtain ⟨d1,k7,kv⟩:=(a5.oN Tryz.underlying3) W _ _ _ aI il bb
 have bS:[eu]=_:=k7
 obtain rfl:eu=_:=(List.cons.inj bS).1
 obtain ⟨Oy,aV,n0,qI⟩:=a5.g' I 2 rfl rfl rfl om (r:=[fw]) rfl
 obtain ⟨d2,oL,nP⟩:=(a5.oN Tryz.underlying3) W _ _ _ aV n0 qI
 have cf:[fw]=_:=oL
 obtain rfl:fw=_:=(List.cons.inj cf).1
 obtain ⟨Oz,bX,vB,pS⟩:=a5.g' I 3 rfl rfl rfl om (r:=[a3]) rfl
 obtain ⟨d3,n3,uT⟩:=(a5.oN Tryz.underlying3) W _ _ _ bX vB pS
 have eI:[a3]=_:=n3
 obtain rfl:a3=_:=(List.cons.inj eI).1
 obtain ⟨afw,eP,HV,Ip⟩:=a5.g' I 4 rfl rfl rfl om (r:=[a4]) rfl
 obtain ⟨d4,Da,Hr⟩:=(a5.oN Tryz.underlying3) W _ _ _ eP HV Ip
 have iy:[a4]=_:=Da
 obtain rfl:a4=_:=(List.cons.inj iy).1
 obtain ⟨aGn,mY,Wh,XF⟩:=a5.g' I 5 rfl rfl rfl Qf (r:=[oc]) rfl
 obtain ⟨d5,Ml,VP⟩:=(Xj) W _ _ _ mY Wh XF
 obtain ⟨wg,ma,lm⟩:=a5.gS Ml
 obtain rfl:oc=_:=(List.cons.inj lm).1
 obtain ⟨aGo,ul,Wi,XG⟩:=a5.g' I 6 rfl rfl rfl om (r:=[ny]) rfl
 obtain ⟨d6,W6,VQ⟩:=(a5.oN Tryz.underlying3) W _ _ _ ul Wi XG
 have zG:[ny]=_:=W6
 obtain rfl:ny=_:=(List.cons.inj zG).1
 exact ⟨⟨d0,d1,d2,d3,d4,d5,d6⟩,⟨qP,zs,wg,ma,rfl,lF,Ml⟩,⟨mn,kv,nP,uT,Hr,VP,VQ⟩⟩
def Ev (N:Nat) (d:J.Kind):Prop:=a5.ld d.Kind/\d.aR.length<=N
theorem Xi:a5.jk Tryz.prog enc N 103 J.dB (Ev N):=by
 intro W n cs x h b9 hw
 obtain ⟨lC,aC,I⟩:=a5.ph Tryz.underlying103 h b9 hw
 replace aC:=aC.trans KF
 obtain ⟨a0,eu,rfl⟩:=adC aC
 obtain ⟨Bn,bH,js,j6⟩:=a5.g' I 0 rfl rfl rfl om (r:=[a0]) rfl
 obtain ⟨d0,lF,mn⟩:=(a5.oN Tryz.underlying3) W _ _ _ bH js j6
 have jU:[a0]=_:=lF
 obtain rfl:a0=_:=(List.cons.inj jU).1
 obtain ⟨Bo,aI,il,bb⟩:=a5.g' I 1 rfl rfl rfl xD (r:=[eu]) rfl
 obtain ⟨d1,k7,kv⟩:=(a5.yM Tryz.underlying9) W _ _ _ aI il bb
 have bS:[eu]=_:=k7
 obtain rfl:eu=_:=(List.cons.inj bS).1
 exact ⟨⟨d0,d1⟩,rfl,⟨mn,kv⟩⟩
def Eu (N:Nat) (d:J.Field):Prop:=d.Name.length<=N/\Ev N d.Kind
theorem aEn:a5.jk Tryz.prog enc N 105 J.aX (Eu N):=by
 intro W n cs x h b9 hw
 obtain ⟨lC,aC,I⟩:=a5.ph Tryz.underlying105 h b9 hw
 replace aC:=aC.trans aaD
 obtain ⟨a0,eu,fw,rfl⟩:=aDe aC
 obtain ⟨Bn,bH,js,j6⟩:=a5.g' I 0 rfl rfl rfl xD (r:=[a0]) rfl
 obtain ⟨d0,lF,mn⟩:=(a5.yM Tryz.underlying9) W _ _ _ bH js j6
 have jU:[a0]=_:=lF
 obtain rfl:a0=_:=(List.cons.inj jU).1
 obtain ⟨Bo,aI,il,bb⟩:=a5.g' I 1 rfl rfl rfl KF (r:=[eu,fw]) rfl
 obtain ⟨d1,k7,kv⟩:=Xi W _ _ _ aI il bb
 have bS:[eu,fw]=_:=k7
 simp only [List.cons.injEq,and_true] at bS
 obtain ⟨rfl,rfl⟩:=bS
 exact ⟨⟨d0,d1⟩,rfl,⟨mn,kv⟩⟩
theorem aeb:a5.jk Tryz.prog enc N 106 (a5.aN J.aX) (fun l=>l.length* 40 <=N/\ ∀ fr ∈ l,Eu N fr):=by
 have h:=a5.rR (enc:=enc) (N:=N) Tryz.underlying106 aaD (by decide) aEn
 rw [agi] at h
 exact h
theorem aEw:a5.jk Tryz.prog enc N 130 (a5.aN J.dB) (fun l=>l.length* 24 <=N/\ ∀ fr ∈ l,Ev N fr):=by
 have h:=a5.rR (enc:=enc) (N:=N) Tryz.underlying130 KF (by decide) Xi
 rw [agh] at h
 exact h
def Ph (N:Nat) (d:J.Handler):Prop:=a5.ld d.From/\a5.ld d.To/\a5.ld d.hB/\d.aR.length<=N
theorem aEo:a5.jk Tryz.prog enc N 150 J.eG (Ph N):=by
 intro W n cs x h b9 hw
 obtain ⟨lC,aC,I⟩:=a5.ph Tryz.underlying150 h b9 hw
 replace aC:=aC.trans aaI
 obtain ⟨a0,eu,fw,a3,rfl⟩:=adD aC
 obtain ⟨Bn,bH,js,j6⟩:=a5.g' I 0 rfl rfl rfl om (r:=[a0]) rfl
 obtain ⟨d0,lF,mn⟩:=(a5.oN Tryz.underlying3) W _ _ _ bH js j6
 have jU:[a0]=_:=lF
 obtain rfl:a0=_:=(List.cons.inj jU).1
 obtain ⟨Bo,aI,il,bb⟩:=a5.g' I 1 rfl rfl rfl om (r:=[eu]) rfl
 obtain ⟨d1,k7,kv⟩:=(a5.oN Tryz.underlying3) W _ _ _ aI il bb
 have bS:[eu]=_:=k7
 obtain rfl:eu=_:=(List.cons.inj bS).1
 obtain ⟨Oy,aV,n0,qI⟩:=a5.g' I 2 rfl rfl rfl om (r:=[fw]) rfl
 obtain ⟨d2,oL,nP⟩:=(a5.oN Tryz.underlying3) W _ _ _ aV n0 qI
 have cf:[fw]=_:=oL
 obtain rfl:fw=_:=(List.cons.inj cf).1
 obtain ⟨Oz,bX,vB,pS⟩:=a5.g' I 3 rfl rfl rfl xD (r:=[a3]) rfl
 obtain ⟨d3,n3,uT⟩:=(a5.yM Tryz.underlying9) W _ _ _ bX vB pS
 have eI:[a3]=_:=n3
 obtain rfl:a3=_:=(List.cons.inj eI).1
 exact ⟨⟨d0,d1,d2,d3⟩,rfl,⟨mn,kv,nP,uT⟩⟩
theorem aEx:a5.jk Tryz.prog enc N 131 (a5.aN J.eG) (fun l=>l.length* 40 <=N/\ ∀ fr ∈ l,Ph N fr):=by
 have h:=a5.rR (enc:=enc) (N:=N) Tryz.underlying131 aaI (by decide) aEo
 rw [ago] at h
 exact h
def JV (N:Nat) (d:J.Method):Prop:=d.Name.length<=N/\True/\(d.bA.length* 24 <=N/\ ∀ fr ∈ d.bA,Ev N fr)/\Ev N d.Returns/\a5.ld d.cT/\a5.ld d.cS/\d.Code.length<=N/\(d.bp.length* 40 <=N/\ ∀ fr ∈ d.bp,Ph N fr)
theorem aEr:a5.jk Tryz.prog enc N 133 J.b8 (JV N):=by
 intro W n cs x h b9 hw
 obtain ⟨lC,aC,I⟩:=a5.ph Tryz.underlying133 h b9 hw
 replace aC:=aC.trans aaF
 obtain ⟨a0,eu,fw,a3,a4,oc,ny,zp,BQ,rfl⟩:=aDh aC
 obtain ⟨Bn,bH,js,j6⟩:=a5.g' I 0 rfl rfl rfl xD (r:=[a0]) rfl
 obtain ⟨d0,lF,mn⟩:=(a5.yM Tryz.underlying9) W _ _ _ bH js j6
 have jU:[a0]=_:=lF
 obtain rfl:a0=_:=(List.cons.inj jU).1
 obtain ⟨Bo,aI,il,bb⟩:=a5.g' I 1 rfl rfl rfl aio (r:=[eu]) rfl
 obtain ⟨d1,k7,kv⟩:=(a5.aEt Tryz.underlying4) W _ _ _ aI il bb
 have bS:[eu]=_:=k7
 obtain rfl:eu=_:=(List.cons.inj bS).1
 obtain ⟨Oy,aV,n0,qI⟩:=a5.g' I 2 rfl rfl rfl aic (r:=[fw]) rfl
 obtain ⟨d2,oL,nP⟩:=(aEw) W _ _ _ aV n0 qI
 obtain ⟨ho,eH,cf⟩:=a5.gS oL
 obtain rfl:fw=_:=(List.cons.inj cf).1
 obtain ⟨Oz,bX,vB,pS⟩:=a5.g' I 3 rfl rfl rfl KF (r:=[a3,a4]) rfl
 obtain ⟨d3,n3,uT⟩:=Xi W _ _ _ bX vB pS
 have eI:[a3,a4]=_:=n3
 simp only [List.cons.injEq,and_true] at eI
 obtain ⟨rfl,rfl⟩:=eI
 obtain ⟨afw,eP,HV,Ip⟩:=a5.g' I 4 rfl rfl rfl om (r:=[oc]) rfl
 obtain ⟨d4,Da,Hr⟩:=(a5.oN Tryz.underlying3) W _ _ _ eP HV Ip
 have iy:[oc]=_:=Da
 obtain rfl:oc=_:=(List.cons.inj iy).1
 obtain ⟨aGn,mY,Wh,XF⟩:=a5.g' I 5 rfl rfl rfl om (r:=[ny]) rfl
 obtain ⟨d5,Ml,VP⟩:=(a5.oN Tryz.underlying3) W _ _ _ mY Wh XF
 have lm:[ny]=_:=Ml
 obtain rfl:ny=_:=(List.cons.inj lm).1
 obtain ⟨aGo,ul,Wi,XG⟩:=a5.g' I 6 rfl rfl rfl xD (r:=[zp]) rfl
 obtain ⟨d6,W6,VQ⟩:=(a5.yM Tryz.underlying9) W _ _ _ ul Wi XG
 have zG:[zp]=_:=W6
 obtain rfl:zp=_:=(List.cons.inj zG).1
 obtain ⟨aI5,zN,aDR,aFy⟩:=a5.g' I 7 rfl rfl rfl aid (r:=[BQ]) rfl
 obtain ⟨d7,ad2,aC8⟩:=(aEx) W _ _ _ zN aDR aFy
 obtain ⟨afX,agR,aiA⟩:=a5.gS ad2
 obtain rfl:BQ=_:=(List.cons.inj aiA).1
 exact ⟨⟨d0,d1,d2,d3,d4,d5,d6,d7⟩,⟨ho,eH,afX,agR,rfl,oL,ad2⟩,⟨mn,kv,nP,uT,Hr,VP,VQ,aC8⟩⟩
theorem aEy:a5.jk Tryz.prog enc N 134 (a5.aN J.b8) (fun l=>l.length* 128 <=N/\ ∀ fr ∈ l,JV N fr):=by
 have h:=a5.rR (enc:=enc) (N:=N) Tryz.underlying134 aaF (by decide) aEr
 rw [agm] at h
 exact h
def Et (N:Nat) (d:J.aR):Prop:=d.Name.length<=N/\d.b0.length<=N/\(d.Fields.length* 40 <=N/\ ∀ fr ∈ d.Fields,Eu N fr)/\(d.az.length* 128 <=N/\ ∀ fr ∈ d.az,JV N fr)
theorem aEm:a5.jk Tryz.prog enc N 136 J.bd (Et N):=by
 intro W n cs x h b9 hw
 obtain ⟨lC,aC,I⟩:=a5.ph Tryz.underlying136 h b9 hw
 replace aC:=aC.trans aaG
 obtain ⟨a0,eu,fw,a3,rfl⟩:=adD aC
 obtain ⟨Bn,bH,js,j6⟩:=a5.g' I 0 rfl rfl rfl xD (r:=[a0]) rfl
 obtain ⟨d0,lF,mn⟩:=(a5.yM Tryz.underlying9) W _ _ _ bH js j6
 have jU:[a0]=_:=lF
 obtain rfl:a0=_:=(List.cons.inj jU).1
 obtain ⟨Bo,aI,il,bb⟩:=a5.g' I 1 rfl rfl rfl xD (r:=[eu]) rfl
 obtain ⟨d1,k7,kv⟩:=(a5.yM Tryz.underlying9) W _ _ _ aI il bb
 have bS:[eu]=_:=k7
 obtain rfl:eu=_:=(List.cons.inj bS).1
 obtain ⟨Oy,aV,n0,qI⟩:=a5.g' I 2 rfl rfl rfl aaE (r:=[fw]) rfl
 obtain ⟨d2,oL,nP⟩:=(aeb) W _ _ _ aV n0 qI
 obtain ⟨ho,eH,cf⟩:=a5.gS oL
 obtain rfl:fw=_:=(List.cons.inj cf).1
 obtain ⟨Oz,bX,vB,pS⟩:=a5.g' I 3 rfl rfl rfl aie (r:=[a3]) rfl
 obtain ⟨d3,n3,uT⟩:=(aEy) W _ _ _ bX vB pS
 obtain ⟨sb,gK,eI⟩:=a5.gS n3
 obtain rfl:a3=_:=(List.cons.inj eI).1
 exact ⟨⟨d0,d1,d2,d3⟩,⟨ho,eH,sb,gK,rfl,oL,n3⟩,⟨mn,kv,nP,uT⟩⟩
theorem aEz:a5.jk Tryz.prog enc N 25 (a5.aN J.bd) (fun l=>l.length* 80 <=N/\ ∀ fr ∈ l,Et N fr):=by
 have h:=a5.rR (enc:=enc) (N:=N) Tryz.underlying25 aaG (by decide) aEm
 rw [agn] at h
 exact h
theorem aEA:a5.jk Tryz.prog enc N 26 (a5.aN (a5.aN J.aX)) (fun l=>l.length* 24 <=N/\ ∀ fr ∈ l,(fr.length* 40 <=N/\ ∀ la ∈ fr,Eu N la)):=by
 have h:=a5.rR (enc:=enc) (N:=N) Tryz.underlying26 aaE (by decide) (aeb)
 rw [agj] at h
 exact h
theorem aEu:a5.jk Tryz.prog enc N 125 (a5.aN a5.bE) (fun l=>l.length* 16 <=N/\ ∀ fr ∈ l,fr.length<=N):=by
 have h:=a5.rR (enc:=enc) (N:=N) Tryz.underlying125 xD (by decide) (a5.yM Tryz.underlying9)
 rw [agr] at h
 exact h
theorem aEB:a5.jk Tryz.prog enc N 27 (a5.aN (a5.aN a5.bE)) (fun l=>l.length* 24 <=N/\ ∀ fr ∈ l,(fr.length* 16 <=N/\ ∀ la ∈ fr,la.length<=N)):=by
 have h:=a5.rR (enc:=enc) (N:=N) Tryz.underlying27 aia (by decide) (aEu)
 rw [agk] at h
 exact h
def JW (N:Nat) (d:J.Target):Prop:=a5.ld d.aR/\a5.ld d.Method
theorem aEs:a5.jk Tryz.prog enc N 159 J.bW (JW N):=by
 intro W n cs x h b9 hw
 obtain ⟨lC,aC,I⟩:=a5.ph Tryz.underlying159 h b9 hw
 replace aC:=aC.trans aaK
 obtain ⟨a0,eu,rfl⟩:=adC aC
 obtain ⟨Bn,bH,js,j6⟩:=a5.g' I 0 rfl rfl rfl om (r:=[a0]) rfl
 obtain ⟨d0,lF,mn⟩:=(a5.oN Tryz.underlying3) W _ _ _ bH js j6
 have jU:[a0]=_:=lF
 obtain rfl:a0=_:=(List.cons.inj jU).1
 obtain ⟨Bo,aI,il,bb⟩:=a5.g' I 1 rfl rfl rfl om (r:=[eu]) rfl
 obtain ⟨d1,k7,kv⟩:=(a5.oN Tryz.underlying3) W _ _ _ aI il bb
 have bS:[eu]=_:=k7
 obtain rfl:eu=_:=(List.cons.inj bS).1
 exact ⟨⟨d0,d1⟩,rfl,⟨mn,kv⟩⟩
theorem aEv:a5.jk Tryz.prog enc N 126 (a5.aN J.bW) (fun l=>l.length* 16 <=N/\ ∀ fr ∈ l,JW N fr):=by
 have h:=a5.rR (enc:=enc) (N:=N) Tryz.underlying126 aaK (by decide) aEs
 rw [agp] at h
 exact h
theorem aEC:a5.jk Tryz.prog enc N 28 (a5.aN (a5.aN J.bW)) (fun l=>l.length* 24 <=N/\ ∀ fr ∈ l,(fr.length* 16 <=N/\ ∀ la ∈ fr,JW N la)):=by
 have h:=a5.rR (enc:=enc) (N:=N) Tryz.underlying28 aib (by decide) (aEv)
 rw [agl] at h
 exact h
def JU (N:Nat) (d:J.bC):Prop:=(d.aO.length* 80 <=N/\ ∀ fr ∈ d.aO,Et N fr)/\(d.aK.length* 8 <=N/\ ∀ fr ∈ d.aK,a5.ld fr)/\(d.Fields.length* 24 <=N/\ ∀ fr ∈ d.Fields,(fr.length* 40 <=N/\ ∀ la ∈ fr,Eu N la))/\(d.Names.length* 24 <=N/\ ∀ fr ∈ d.Names,(fr.length* 16 <=N/\ ∀ la ∈ fr,la.length<=N))/\(d.aL.length* 24 <=N/\ ∀ fr ∈ d.aL,(fr.length* 16 <=N/\ ∀ la ∈ fr,JW N la))
theorem aEq:a5.jk Tryz.prog enc N 30 J.aFr (JU N):=by
 intro W n cs x h b9 hw
 obtain ⟨lC,aC,I⟩:=a5.ph Tryz.underlying30 h b9 hw
 replace aC:=aC.trans ain
 obtain ⟨a0,eu,fw,a3,a4,rfl⟩:=aDf aC
 obtain ⟨Bn,bH,js,j6⟩:=a5.g' I 0 rfl rfl rfl aij (r:=[a0]) rfl
 obtain ⟨d0,lF,mn⟩:=(aEz) W _ _ _ bH js j6
 obtain ⟨qP,zs,jU⟩:=a5.gS lF
 obtain rfl:a0=_:=(List.cons.inj jU).1
 obtain ⟨Bo,aI,il,bb⟩:=a5.g' I 1 rfl rfl rfl Qf (r:=[eu]) rfl
 obtain ⟨d1,k7,kv⟩:=(Xj) W _ _ _ aI il bb
 obtain ⟨hn,eD,bS⟩:=a5.gS k7
 obtain rfl:eu=_:=(List.cons.inj bS).1
 obtain ⟨Oy,aV,n0,qI⟩:=a5.g' I 2 rfl rfl rfl aik (r:=[fw]) rfl
 obtain ⟨d2,oL,nP⟩:=(aEA) W _ _ _ aV n0 qI
 obtain ⟨ho,eH,cf⟩:=a5.gS oL
 obtain rfl:fw=_:=(List.cons.inj cf).1
 obtain ⟨Oz,bX,vB,pS⟩:=a5.g' I 3 rfl rfl rfl ail (r:=[a3]) rfl
 obtain ⟨d3,n3,uT⟩:=(aEB) W _ _ _ bX vB pS
 obtain ⟨sb,gK,eI⟩:=a5.gS n3
 obtain rfl:a3=_:=(List.cons.inj eI).1
 obtain ⟨afw,eP,HV,Ip⟩:=a5.g' I 4 rfl rfl rfl aim (r:=[a4]) rfl
 obtain ⟨d4,Da,Hr⟩:=(aEC) W _ _ _ eP HV Ip
 obtain ⟨wc,kN,iy⟩:=a5.gS Da
 obtain rfl:a4=_:=(List.cons.inj iy).1
 exact ⟨⟨d0,d1,d2,d3,d4⟩,⟨qP,zs,hn,eD,ho,eH,sb,gK,wc,kN,rfl,lF,k7,oL,n3,Da⟩,⟨mn,kv,nP,uT,Hr⟩⟩
end
end Go.Proofs.YtpkhpagplommoaaGreat
namespace J
def hM (bx:Int) (kY:Int) (k1:Int):Option (Bool):=
 some ((decide (kY<=bx)) && (decide (bx<=k1)))
def nN (bx:Int) (kY:Int) (k1:Int):Option (Bool):=
 some ((decide (kY<=bx)) && (decide (bx<=k1)))
def Lr (ag:Int):Option (Bool):=
 some ((decide (ag= 3)) || (decide (ag= 4)))
def Aw (kb:List UInt8):Nat->Int->Option (Way (Bool) (Unit))
 | 0,_=>none
 | bz+ 1,nX=>
   cond (decide (nX <(kb.length:Int))) ((idx kb nX).bind fun nu=>
   cond (((((decide ((nu.toNat:Int) < 97)) || (decide (122 <(nu.toNat:Int)))) && ((decide ((nu.toNat:Int) < 65)) || (decide (90 <(nu.toNat:Int))))) && ((decide ((nu.toNat:Int) < 48)) || (decide (57 <(nu.toNat:Int))))) && (!decide ((nu.toNat:Int)= 95))) (some (.out false)) (Aw kb bz (av (nX+ 1)))) (some (.go ()))
def oz (F:Nat) (s_:List UInt8):Option (Bool):=
 (bytesOf s_).bind fun kb=>
 dD (α:=Unit) (Aw kb F 0) fun (_:Unit)=>
 some ((!decide (s_= [])) && (decide ((s_.length:Int)<= 20)))
def uS (F:Nat) (ag:Kind):Option (Bool):=
 (Lr ag.Kind).bind fun AN=>
 cond (AN) ((oz F ag.aR).bind fun AU=>
 some AU) (some (((decide (ag.Kind= 1)) || (decide (ag.Kind= 2))) && (decide (ag.aR= []))))
def qZ (s_:List UInt8):Nat->Int->Option (Way (Bool) (Unit))
 | 0,_=>none
 | bz+ 1,nb=>
   cond (decide (nb <(s_.length:Int))) ((idx s_ nb).bind fun mP=>
   cond (!(((((decide (97 <=(mP.toNat:Int))) && (decide ((mP.toNat:Int)<= 122))) || ((decide (65 <=(mP.toNat:Int))) && (decide ((mP.toNat:Int)<= 90)))) || ((decide (48 <=(mP.toNat:Int))) && (decide ((mP.toNat:Int)<= 57)))) || (decide ((mP.toNat:Int)= 95)))) (some (.out false)) (qZ s_ bz (av (nb+ 1)))) (some (.go ()))
def o6 (F:Nat) (s_:List UInt8):Option (Bool):=
 dD (α:=Unit) (qZ s_ F 0) fun (_:Unit)=>
 some ((decide (1 <=(s_.length:Int))) && (decide ((s_.length:Int)<= 20)))
def tF (F:Nat) (ag:Kind):Option (Bool):=
 cond ((decide (ag.Kind= 1)) || (decide (ag.Kind= 2))) (some (decide (ag.aR= []))) (cond ((decide (ag.Kind= 3)) || (decide (ag.Kind= 4))) ((o6 F ag.aR).bind fun iP=>
 some iP) (some false))
end J
namespace Go.Proofs.YtpkhpagplommoaaGreat
open Go Go.RowKit a5
set_option maxHeartbeats 4000000
set_option maxRecDepth 20000
theorem pf {W:World} {X:List Nat} {bx:Int} {kY:Int} {k1:Int} {r:Bool} {M0:List Nat} (hm:aw W M0 X W [] []) (h:J.hM bx kY k1=some r) :
 Calls Tryz.prog 41 [.i bx,.i kY,.i k1].toArray W (fun e aJ=>e= .returned (.bool r)/\aw W M0 X aJ [] []):=by
 refine enter Tryz.func41 rfl Tryz.ntmps41 rfl fun a I=>?_;rw [J.hM] at h;refine aG [] [(0,.i bx),(1,.i kY),(2,.i k1)] I fun a I=>aG [0,0,0,0] [(6,.bool ((decide (kY<=bx)) && (decide (bx<=k1))))] I fun a I=>wp_ret ?_;obtain rfl:=aH h;refine bq Tryz.results41 I rfl ?_;exact ⟨rfl,hm.a1 [] []⟩
theorem xC {W:World} {X:List Nat} {bx:Int} {kY:Int} {k1:Int} {r:Bool} {M0:List Nat} (hm:aw W M0 X W [] []) (h:J.nN bx kY k1=some r) :
 Calls Tryz.prog 145 [.i bx,.i kY,.i k1].toArray W (fun e aJ=>e= .returned (.bool r)/\aw W M0 X aJ [] []):=by
 refine enter Tryz.func145 rfl Tryz.ntmps145 rfl fun a I=>?_;rw [J.nN] at h;refine aG [] [(0,.i bx),(1,.i kY),(2,.i k1)] I fun a I=>aG [0,0,0,0] [(6,.bool ((decide (kY<=bx)) && (decide (bx<=k1))))] I fun a I=>wp_ret ?_;obtain rfl:=aH h;refine bq Tryz.results145 I rfl ?_;exact ⟨rfl,hm.a1 [] []⟩
theorem ahy {W:World} {X:List Nat} {ag:Int} {r:Bool} {M0:List Nat} (hm:aw W M0 X W [] []) (h:J.Lr ag=some r) :
 Calls Tryz.prog 144 [.i ag].toArray W (fun e aJ=>e= .returned (.bool r)/\aw W M0 X aJ [] []):=by
 refine enter Tryz.func144 rfl Tryz.ntmps144 rfl fun a I=>?_;rw [J.Lr] at h;refine aG [] [(0,.i ag)] I fun a I=>aG [0,0,0] [(2,.bool ((decide (ag= 3)) || (decide (ag= 4))))] I fun a I=>wp_ret ?_;obtain rfl:=aH h;refine bq Tryz.results144 I rfl ?_;exact ⟨rfl,hm.a1 [] []⟩
theorem xB {W:World} {X:List Nat} {F:Nat} {s_:List UInt8} {r:Bool} {M0:List Nat} (hm:aw W M0 X W [] []) (h:J.oz F s_=some r) :
 Calls Tryz.prog 130 [ak s_].toArray W (fun e aJ=>e= .returned (.bool r)/\aw W M0 X aJ [] []):=by
 refine enter Tryz.func130 rfl Tryz.ntmps130 rfl fun a I=>?_;rw [J.oz] at h;refine aG [] [(0,ak s_)] I fun a I=>wp_seq_k fun K bT=>wp_seq_k fun K cw=>a7 <| aM 1 [] [(0,ak s_),(5,ak s_)] I fun a I=>?_;obtain ⟨kb,axb,h⟩:=J.aQ h;refine aDC axb Tryz.underlying9 Tryz.underlying186 Tryz.underlying5 wn rfl (I.g rfl) I hm rfl rfl fun a ar ax w _ I hm=>aM 2 [] [(0,ak s_),(6,.q ar ax kb),(7,.i (kb.length:Int)),(8,.i 0)] I fun a I=>wpList_nil (cw _ _ ?_);obtain ⟨UY,h,St⟩:=J.eC h
 refine cp (fun a w=>Fr ⟨46,[]⟩ [(0,ak s_)] a/\aw W M0 X w [] [aa MN ar ax kb]/\UY=(.go ())) (fun K c4=>?_) ?_
 · refine cN (fun (bz:Nat) a w=>∃ (nX:Int),Fr ⟨46,[]⟩ [(0,ak s_),(6,.q ar ax kb),(7,.i (kb.length:Int)),(8,.i nX)] a/\aw W M0 X w [] [aa MN ar ax kb]/\J.Aw kb bz nX=some UY) F ⟨0,I.cut,hm,h⟩ ?_ ?_
   · rintro a w ⟨nX,I,hm,h⟩;exact absurd h (by simp [J.Aw])
   rintro bz a w ⟨nX,I,hm,h⟩ K cG;rw [J.Aw] at h;refine aG [] [(0,ak s_),(6,.q ar ax kb),(7,.i (kb.length:Int)),(8,.i nX),(9,.bool (decide (nX <(kb.length:Int))))] I fun a I=>wp_seq_k fun K dH=>bn (I.g rfl) h (fun aoO h=>?_) (fun aoO h=>?_)
   · refine wp_skip <| dH _ _ <| wp_seq_k fun K c6=>wp_block <| wp_seq_k fun K dE=>a7 ?_;obtain ⟨nu,aBM,h⟩:=J.aQ h;obtain ⟨ak2,avU,_,rfl,arD⟩:=b3 _ (hm.d 0 rfl) aBM;refine bR wn (bL Tryz.underlying186 Tryz.sizeOf5 rfl (I.g rfl) (I.g rfl) ak2 avU) I rfl rfl fun a I=>bh 2 [0,0] [(0,ak s_),(4,.int .u8 (nu.toNat:Int)),(6,.q ar ax kb),(7,.i (kb.length:Int)),(8,.i nX)] [bM ar,bP ar+(nX).toNat* 1] (aD arD aE) I fun a I=>wpList_nil (dE _ _ ?_);refine wp_seq_k fun K dx=>?_
     refine cn [0,0,0,0,0,0,0,0,0,0,0,0,0,0,0,0,0,0,0,0,0,0] [(0,ak s_),(6,.q ar ax kb),(7,.i (kb.length:Int)),(8,.i nX),(37,.bool (((((decide ((nu.toNat:Int) < 97)) || (decide (122 <(nu.toNat:Int)))) && ((decide ((nu.toNat:Int) < 65)) || (decide (90 <(nu.toNat:Int))))) && ((decide ((nu.toNat:Int) < 48)) || (decide (57 <(nu.toNat:Int))))) && (!decide ((nu.toNat:Int)= 95))))] I fun a I=>dx _ _ <| bn (I.g rfl) h (fun ao' h=>?_) (fun ao' h=>?_)
     · refine aG [] [(2,.bool false)] I fun a I=>wp_ret ?_;obtain rfl:=aH h;obtain rfl:=aH St;refine ba (ao (ao (ba (ao (ao ?_)))));refine bq Tryz.results130 I rfl ?_;exact ⟨rfl,hm.a1 [] []⟩
     refine wp_skip <| c6 _ _ <| cn [] [(0,ak s_),(6,.q ar ax kb),(7,.i (kb.length:Int)),(8,.i (J.av (nX+ 1)))] I fun a I=>?_;exact cG _ _ ⟨J.av (nX+ 1),I.cut,hm,h⟩
   refine wp_exit <| bD (bD (cD ?_));exact c4 _ _ ⟨I.cut,hm,(os h)⟩
 rintro a w ⟨I,hm,bf⟩;subst UY;have h:=St;clear St;dsimp only [J.ep] at h;refine bT _ _ <| aG [0,0,0,0] [(2,.bool ((!decide (s_= [])) && (decide ((s_.length:Int)<= 20))))] I fun a I=>wp_ret ?_;obtain rfl:=aH h;refine bq Tryz.results130 I rfl ?_;exact ⟨rfl,hm.a1 [] []⟩
theorem KC {W:World} {X:List Nat} {F:Nat} {ag:J.Kind} {r:Bool} {M0:List Nat} (hm:aw W M0 X W [] []) (h:J.uS F ag=some r) :
 Calls Tryz.prog 131 [.agg #[.i ag.Kind,ak ag.aR]].toArray W (fun e aJ=>e= .returned (.bool r)/\aw W M0 X aJ [] []):=by
 refine enter Tryz.func131 rfl Tryz.ntmps131 rfl fun a I=>?_;rw [J.uS] at h;refine wp_seq_k fun K dq=>a7 <| cZ (cs:=[.i ag.Kind,ak ag.aR]) wn (eV rfl rfl (I.g rfl)) I hm rfl rfl fun a aB w _ I hm=>aM 1 [] [(1,.U aB)] I fun a I=>wpList_nil (dq _ _ ?_);refine wp_seq_k fun K bT=>wp_seq_k fun K cw=>a7 <| bh 2 [0,0] [(1,.U aB),(4,.i ag.Kind)] [aB,0] (aD (a' (hm.e 0 rfl)) aE) I fun a I=>?_;obtain ⟨AN,TW,h⟩:=J.aQ h;have hc:=hm
 refine bU (vs:=[.i ag.Kind]) wn rfl Tryz.call144 ⟨(I.g rfl),trivial⟩ (ahy ((hc.into 0).pick trivial) TW) I rfl rfl ?_;rintro _ w ⟨rfl,ai⟩;refine ⟨_,rfl,fun a I=>?_⟩;have hm:=hc.back 0 ai;clear ai hc;refine wpList_nil <| cw _ _ <| bn (I.g rfl) h (fun uB h=>?_) (fun uB h=>?_)
 · refine wp_seq_k fun K c4=>a7 <| bh 2 [0,1] [(7,ak ag.aR)] [aB,1] (aD (a' (hm.e 0 rfl)) aE) I fun a I=>?_;obtain ⟨AU,TY,h⟩:=J.aQ h;have hc:=hm;refine bU (vs:=[ak ag.aR]) wn rfl Tryz.call130 ⟨(I.g rfl),trivial⟩ (xB ((hc.into 0).pick trivial) TY) I rfl rfl ?_;rintro _ w ⟨rfl,ai⟩;refine ⟨_,rfl,fun a I=>?_⟩;have hm:=hc.back 0 ai;clear ai hc;refine aM 1 [] [(2,.bool AU)] I fun a I=>wpList_nil (c4 _ _ ?_);refine wp_ret ?_;obtain rfl:=aH h;refine ao <| bq Tryz.results131 I rfl ?_;exact ⟨rfl,hm.a1 [] []⟩
 refine wp_skip <| bT _ _ <| wp_seq_k fun K cG=>rg [0,0,0,0,0,0,0,0,0,0,0,1,0,0] [(2,.bool (((decide (ag.Kind= 1)) || (decide (ag.Kind= 2))) && (decide (ag.aR= []))))] [aB,1,aB,0,aB,0] (aD (a' (hm.e 0 rfl)) aE) I fun a I=>cG _ _ <| wp_ret ?_;obtain rfl:=aH h;refine bq Tryz.results131 I rfl ?_;exact ⟨rfl,hm.a1 [] []⟩
theorem zF {W:World} {X:List Nat} {F:Nat} {s_:List UInt8} {r:Bool} {M0:List Nat} (hm:aw W M0 X W [] []) (h:J.o6 F s_=some r) :
 Calls Tryz.prog 146 [ak s_].toArray W (fun e aJ=>e= .returned (.bool r)/\aw W M0 X aJ [] []):=by
 refine enter Tryz.func146 rfl Tryz.ntmps146 rfl fun a I=>?_;rw [J.o6] at h;refine aG [] [(0,ak s_)] I fun a I=>wp_seq_k fun K bT=>aG [] [(0,ak s_),(3,.i 0)] I fun a I=>?_;obtain ⟨Uw,h,R7⟩:=J.eC h;refine cp (fun a w=>Fr ⟨49,[]⟩ [(0,ak s_)] a/\aw W M0 X w [] []/\Uw=(.go ())) (fun K c4=>?_) ?_
 · refine cN (fun (bz:Nat) a w=>∃ (nb:Int),Fr ⟨49,[]⟩ [(0,ak s_),(3,.i nb)] a/\aw W M0 X w [] []/\J.qZ s_ bz nb=some Uw) F ⟨0,I.cut,hm,h⟩ ?_ ?_
   · rintro a w ⟨nb,I,hm,h⟩;exact absurd h (by simp [J.qZ])
   rintro bz a w ⟨nb,I,hm,h⟩ K cG;rw [J.qZ] at h;refine wp_seq_k fun K eb=>aG [] [(0,ak s_),(3,.i nb),(8,.bool (decide (nb <(s_.length:Int))))] I fun a I=>bn (I.g rfl) h (fun uz h=>?_) (fun uz h=>?_)
   · refine wp_skip <| eb _ _ <| wp_seq_k fun K c6=>wp_block <| wp_seq_k fun K dE=>a7 <| aM 2 [] [(0,ak s_),(3,.i nb),(11,ak s_),(12,.i nb)] I fun a I=>?_;obtain ⟨mP,Lp,h⟩:=J.aQ h;refine bR wn (aGI Tryz.underlying9 rfl (I.g rfl) (I.g rfl) Lp) I rfl rfl fun a I=>aM 1 [] [(0,ak s_),(3,.i nb),(4,.int .u8 (mP.toNat:Int))] I fun a I=>wpList_nil (dE _ _ ?_);refine wp_seq_k fun K dx=>?_
     refine cn [0,0,0,0,0,0,0,0,0,0,0,0,0,0,0,0,0,0,0,0,0,0] [(0,ak s_),(3,.i nb),(40,.bool (!(((((decide (97 <=(mP.toNat:Int))) && (decide ((mP.toNat:Int)<= 122))) || ((decide (65 <=(mP.toNat:Int))) && (decide ((mP.toNat:Int)<= 90)))) || ((decide (48 <=(mP.toNat:Int))) && (decide ((mP.toNat:Int)<= 57)))) || (decide ((mP.toNat:Int)= 95)))))] I fun a I=>dx _ _ <| bn (I.g rfl) h (fun ri h=>?_) (fun ri h=>?_)
     · refine aG [] [(2,.bool false)] I fun a I=>wp_ret ?_;obtain rfl:=aH h;obtain rfl:=aH R7;refine ba (ao (ao (ba (ao (ao ?_)))));refine bq Tryz.results146 I rfl ?_;exact ⟨rfl,hm.a1 [] []⟩
     refine wp_skip <| c6 _ _ <| cn [] [(0,ak s_),(3,.i (J.av (nb+ 1)))] I fun a I=>?_;exact cG _ _ ⟨J.av (nb+ 1),I.cut,hm,h⟩
   refine wp_exit <| bD (bD (cD ?_));exact c4 _ _ ⟨I.cut,hm,(os h)⟩
 rintro a w ⟨I,hm,bf⟩;subst Uw;have h:=R7;clear R7;dsimp only [J.ep] at h;refine bT _ _ <| aG [0,0,0,0] [(2,.bool ((decide (1 <=(s_.length:Int))) && (decide ((s_.length:Int)<= 20))))] I fun a I=>wp_ret ?_;obtain rfl:=aH h;refine bq Tryz.results146 I rfl ?_;exact ⟨rfl,hm.a1 [] []⟩
theorem Ky {W:World} {X:List Nat} {F:Nat} {ag:J.Kind} {r:Bool} {M0:List Nat} (hm:aw W M0 X W [] []) (h:J.tF F ag=some r) :
 Calls Tryz.prog 147 [.agg #[.i ag.Kind,ak ag.aR]].toArray W (fun e aJ=>e= .returned (.bool r)/\aw W M0 X aJ [] []):=by
 refine enter Tryz.func147 rfl Tryz.ntmps147 rfl fun a I=>?_;rw [J.tF] at h;refine wp_seq_k fun K dq=>a7 <| cZ (cs:=[.i ag.Kind,ak ag.aR]) wn (eV rfl rfl (I.g rfl)) I hm rfl rfl fun a aB w _ I hm=>aM 1 [] [(1,.U aB)] I fun a I=>wpList_nil (dq _ _ ?_);refine wp_seq_k fun K bT=>wp_seq_k fun K cw=>rg [0,0,0,0,0,0,0,0] [(1,.U aB),(10,.bool ((decide (ag.Kind= 1)) || (decide (ag.Kind= 2))))] [aB,0,aB,0] (aD (a' (hm.e 0 rfl)) aE) I fun a I=>cw _ _ <| bn (I.g rfl) h (fun an3 h=>?_) (fun an3 h=>?_)
 · refine wp_seq_k fun K c4=>rg [0,1] [(2,.bool (decide (ag.aR= [])))] [aB,1] (aD (a' (hm.e 0 rfl)) aE) I fun a I=>c4 _ _ <| wp_ret ?_;obtain rfl:=aH h;refine ao <| bq Tryz.results147 I rfl ?_;exact ⟨rfl,hm.a1 [] []⟩
 refine wp_skip <| bT _ _ <| wp_seq_k fun K cG=>a7 <| bh 9 [0,0,0,0,0,0,0,0] [(1,.U aB),(22,.bool ((decide (ag.Kind= 3)) || (decide (ag.Kind= 4))))] [aB,0,aB,0] (aD (a' (hm.e 0 rfl)) aE) I fun a I=>?_;rcases Bool.eq_false_or_eq_true ((decide (ag.Kind= 3)) || (decide (ag.Kind= 4))) with mh | mh
 · have h:=J.dz mh h;have I:=I.cd 22 rfl mh;refine bh 2 [1,1,0,1] [(22,.bool true),(24,ak ag.aR)] [aB,1] (aD (a' (hm.e 0 rfl)) aE) I fun a I=>?_;obtain ⟨iP,Ap,h⟩:=J.aQ h;have hc:=hm;refine bU (vs:=[ak ag.aR]) (db I rfl rfl rfl rfl) rfl Tryz.call146 ⟨(I.g rfl),trivial⟩ (zF ((hc.into 0).pick trivial) Ap) I rfl rfl ?_;rintro _ w ⟨rfl,ai⟩;refine ⟨_,rfl,fun a I=>?_⟩;have hm:=hc.back 0 ai;clear ai hc;refine aM 2 [1] [(2,.bool iP)] I fun a I=>wpList_nil (cG _ _ ?_);refine wp_ret ?_;obtain rfl:=aH h;refine bq Tryz.results147 I rfl ?_
   exact ⟨rfl,hm.a1 [] []⟩
 have h:=J.dy mh h;have I:=I.cd 22 rfl mh;refine aM 5 [1,1,1,1] [(2,.bool false)] I fun a I=>wpList_nil (cG _ _ ?_);refine wp_ret ?_;obtain rfl:=aH h;refine bq Tryz.results147 I rfl ?_;exact ⟨rfl,hm.a1 [] []⟩
end Go.Proofs.YtpkhpagplommoaaGreat
namespace J
def yj (F:Nat) (m_:Method):Nat->Int->Option (Way (Int) (Unit))
 | 0,_=>none
 | bz+ 1,nk=>
   cond (decide (nk <(m_.bA.length:Int))) ((idx m_.bA nk).bind fun r5=>
   (uS F (⟨r5.Kind,r5.aR⟩:Kind)).bind fun W'=>
   cond (!W') (some (.out 7)) (yj F m_ bz (av (nk+ 1)))) (some (.go ()))
def yk (F:Nat) (m_:Method):Nat->Int->Option (Way (Int) (Unit))
 | 0,_=>none
 | dg+ 1,fX=>
   cond (decide (fX <(m_.bp.length:Int))) ((idx m_.bp fX).bind fun kC=>
   (oz F kC.aR).bind fun H5=>
   cond (!H5) (some (.out 1)) ((nN kC.From 0 200).bind fun k8=>
   cond (!k8) (some (.out 3)) ((nN kC.To 0 200).bind fun C_=>
   cond (!C_) (some (.out 3)) ((nN kC.hB 0 200).bind fun H6=>
   cond (!H6) (some (.out 3)) (yk F m_ dg (av (fX+ 1))))))) (some (.go ()))
def yl (F:Nat) (m_:Method):Nat->Int->Option (Way (Int) (Unit))
 | 0,_=>none
 | eQ+ 1,jK=>
   cond (decide (jK <(m_.bp.length:Int))) ((idx m_.bp jK).bind fun kD=>
   (oz F kD.aR).bind fun WL=>
   cond (!WL) (some (.out 1)) ((nN kD.From 0 200).bind fun Mg=>
   cond (!Mg) (some (.out 3)) ((nN kD.To 0 200).bind fun Mh=>
   cond (!Mh) (some (.out 3)) ((nN kD.hB 0 200).bind fun WM=>
   cond (!WM) (some (.out 3)) (yl F m_ eQ (av (jK+ 1))))))) (some (.go ()))
def Ax (F:Nat) (m_:Method):Option (Int):=
 (oz F m_.Name).bind fun dp=>
 cond (!dp) (some 1) (cond (((decide (4 <(m_.bA.length:Int))) || (decide (200 <(m_.Code.length:Int)))) || (decide (4 <(m_.bp.length:Int)))) (some 2) ((nN m_.cT 0 10).bind fun im=>
 cond (!im) (some 3) ((nN m_.cS 0 10).bind fun np=>
 cond (!np) (some 3) (dD (α:=Unit) (yj F m_ F 0) fun (_:Unit)=>
 cond (!decide ((⟨m_.Returns.Kind,m_.Returns.aR⟩:Kind)=(⟨0,[]⟩:Kind))) ((uS F (⟨m_.Returns.Kind,m_.Returns.aR⟩:Kind)).bind fun Xa=>
 cond (!Xa) (some 7) (dD (α:=Unit) (yk F m_ F 0) fun (_:Unit)=>
 some 0)) (dD (α:=Unit) (yl F m_ F 0) fun (_:Unit)=>
 some 0)))))
def yf (F:Nat) (c_:aR):Nat->Int->Option (Way (Int) (Unit))
 | 0,_=>none
 | bz+ 1,dV=>
   cond (decide (dV <(c_.Fields.length:Int))) ((idx c_.Fields dV).bind fun nv=>
   (oz F nv.Name).bind fun AV=>
   cond (!AV) (some (.out 1)) ((uS F (⟨nv.Kind.Kind,nv.Kind.aR⟩:Kind)).bind fun lG=>
   cond (!lG) (some (.out 7)) (yf F c_ bz (av (dV+ 1))))) (some (.go ()))
def yg (F:Nat) (c_:aR):Nat->Int->Option (Way (Int) (Unit))
 | 0,_=>none
 | dg+ 1,fX=>
   cond (decide (fX <(c_.az.length:Int))) ((idx c_.az fX).bind fun fs=>
   (Ax F (⟨fs.Name,fs.Static,fs.bA,(⟨fs.Returns.Kind,fs.Returns.aR⟩:Kind),fs.cT,fs.cS,fs.Code,fs.bp⟩:Method)).bind fun k8=>
   cond (!decide (k8= 0)) (some (.out k8)) (yg F c_ dg (av (fX+ 1)))) (some (.go ()))
def yh (F:Nat) (c_:aR):Nat->Int->Option (Way (Int) (Unit))
 | 0,_=>none
 | eQ+ 1,lV=>
   cond (decide (lV <(c_.Fields.length:Int))) ((idx c_.Fields lV).bind fun nt=>
   (oz F nt.Name).bind fun WG=>
   cond (!WG) (some (.out 1)) ((uS F (⟨nt.Kind.Kind,nt.Kind.aR⟩:Kind)).bind fun WH=>
   cond (!WH) (some (.out 7)) (yh F c_ eQ (av (lV+ 1))))) (some (.go ()))
def yi (F:Nat) (c_:aR):Nat->Int->Option (Way (Int) (Unit))
 | 0,_=>none
 | gk+ 1,mv=>
   cond (decide (mv <(c_.az.length:Int))) ((idx c_.az mv).bind fun ft=>
   (Ax F (⟨ft.Name,ft.Static,ft.bA,(⟨ft.Returns.Kind,ft.Returns.aR⟩:Kind),ft.cT,ft.cS,ft.Code,ft.bp⟩:Method)).bind fun AO=>
   cond (!decide (AO= 0)) (some (.out AO)) (yi F c_ gk (av (mv+ 1)))) (some (.go ()))
def Hp (F:Nat) (c_:aR):Option (Int):=
 (oz F c_.Name).bind fun dp=>
 cond (!dp) (some 1) (cond (!decide (c_.b0= [])) ((oz F c_.b0).bind fun im=>
 cond (!im) (some 1) (cond ((decide (6 <(c_.Fields.length:Int))) || (decide (8 <(c_.az.length:Int)))) (some 2) (dD (α:=Unit) (yf F c_ F 0) fun (_:Unit)=>
 dD (α:=Unit) (yg F c_ F 0) fun (_:Unit)=>
 some 0))) (cond ((decide (6 <(c_.Fields.length:Int))) || (decide (8 <(c_.az.length:Int)))) (some 2) (dD (α:=Unit) (yh F c_ F 0) fun (_:Unit)=>
 dD (α:=Unit) (yi F c_ F 0) fun (_:Unit)=>
 some 0)))
def yd (F:Nat) (aj:List aR):Nat->Int->Option (Way (Int) (Unit))
 | 0,_=>none
 | bz+ 1,mA=>
   cond (decide (mA <(aj.length:Int))) ((idx aj mA).bind fun j7=>
   (Hp F (⟨j7.Name,j7.b0,j7.Fields,j7.az⟩:aR)).bind fun AM=>
   cond (!decide (AM= 0)) (some (.out AM)) (yd F aj bz (av (mA+ 1)))) (some (.go ()))
def Ho (F:Nat) (aj:List aR):Option (Int):=
 cond (decide (10 <(aj.length:Int))) (some 2) (dD (α:=Unit) (yd F aj F 0) fun (_:Unit)=>
 some 0)
def wV (F:Nat) (m_:Method):Nat->Int->Option (Way (Int) (Unit))
 | 0,_=>none
 | bz+ 1,my=>
   cond (decide (my <(m_.bA.length:Int))) ((idx m_.bA my).bind fun Dx=>
   (tF F Dx).bind fun W_=>
   cond (!W_) (some (.out 7)) (wV F m_ bz (av (my+ 1)))) (some (.go ()))
def wW (F:Nat) (m_:Method):Nat->Int->Option (Way (Int) (Unit))
 | 0,_=>none
 | dg+ 1,ja=>
   cond (decide (ja <(m_.bp.length:Int))) ((idx m_.bp ja).bind fun kB=>
   (o6 F kB.aR).bind fun WA=>
   cond (!WA) (some (.out 1)) ((hM kB.From 0 200).bind fun Ma=>
   cond (!Ma) (some (.out 3)) ((hM kB.To 0 200).bind fun Mb=>
   cond (!Mb) (some (.out 3)) ((hM kB.hB 0 200).bind fun WB=>
   cond (!WB) (some (.out 3)) (wW F m_ dg (av (ja+ 1))))))) (some (.go ()))
def zk (F:Nat) (m_:Method):Option (Int):=
 (o6 F m_.Name).bind fun dp=>
 cond (!dp) (some 1) (cond (((decide (4 <(m_.bA.length:Int))) || (decide (200 <(m_.Code.length:Int)))) || (decide (4 <(m_.bp.length:Int)))) (some 2) ((hM m_.cT 0 10).bind fun im=>
 cond (!im) (some 3) ((hM m_.cS 0 10).bind fun np=>
 cond (!np) (some 3) (dD (α:=Unit) (wV F m_ F 0) fun (_:Unit)=>
 (tF F (⟨m_.Returns.Kind,m_.Returns.aR⟩:Kind)).bind fun n4=>
 cond ((!n4) && ((!decide (m_.Returns.Kind= 0)) || (!decide (m_.Returns.aR= [])))) (some 7) (dD (α:=Unit) (wW F m_ F 0) fun (_:Unit)=>
 some 0)))))
def wz (F:Nat) (cK:aR):Nat->Int->Option (Way (Int) (Unit))
 | 0,_=>none
 | dg+ 1,j3=>
   cond (decide (j3 <(cK.Fields.length:Int))) ((idx cK.Fields j3).bind fun Nq=>
   (o6 F Nq.Name).bind fun WZ=>
   cond (!WZ) (some (.out 1)) ((idx cK.Fields j3).bind fun Bd=>
   (tF F (⟨Bd.Kind.Kind,Bd.Kind.aR⟩:Kind)).bind fun W0=>
   cond (!W0) (some (.out 7)) (wz F cK dg (av (j3+ 1))))) (some (.go ()))
def wA (F:Nat) (cK:aR):Nat->Int->Option (Way (Int) (Unit))
 | 0,_=>none
 | eQ+ 1,lW=>
   cond (decide (lW <(cK.az.length:Int))) ((idx cK.az lW).bind fun kj=>
   (zk F kj).bind fun AQ=>
   cond (!decide (AQ= 0)) (some (.out AQ)) (wA F cK eQ (av (lW+ 1)))) (some (.go ()))
def wB (F:Nat) (cK:aR):Nat->Int->Option (Way (Int) (Unit))
 | 0,_=>none
 | gk+ 1,j4=>
   cond (decide (j4 <(cK.Fields.length:Int))) ((idx cK.Fields j4).bind fun Ns=>
   (o6 F Ns.Name).bind fun W2=>
   cond (!W2) (some (.out 1)) ((idx cK.Fields j4).bind fun Bf=>
   (tF F (⟨Bf.Kind.Kind,Bf.Kind.aR⟩:Kind)).bind fun W3=>
   cond (!W3) (some (.out 7)) (wB F cK gk (av (j4+ 1))))) (some (.go ()))
def wC (F:Nat) (cK:aR):Nat->Int->Option (Way (Int) (Unit))
 | 0,_=>none
 | jo+ 1,lX=>
   cond (decide (lX <(cK.az.length:Int))) ((idx cK.az lX).bind fun kl=>
   (zk F kl).bind fun AR=>
   cond (!decide (AR= 0)) (some (.out AR)) (wC F cK jo (av (lX+ 1)))) (some (.go ()))
def wy (F:Nat) (aj:List aR):Nat->Int->Option (Way (Int) (Unit))
 | 0,_=>none
 | bz+ 1,ef=>
   cond (decide (ef <(aj.length:Int))) (et (α:=Unit) ((idx aj ef).bind fun cK=>
   (o6 F cK.Name).bind fun Mn=>
   cond (!Mn) (some (.out 1)) (cond (!decide (cK.b0= [])) ((o6 F cK.b0).bind fun WX=>
   cond (!WX) (some (.out 1)) (cond ((decide (6 <(cK.Fields.length:Int))) || (decide (8 <(cK.az.length:Int)))) (some (.out 2)) (et (α:=Unit) (wz F cK F 0) fun (_:Unit)=>
   et (α:=Unit) (wA F cK F 0) fun (_:Unit)=>
   some (.go ())))) (cond ((decide (6 <(cK.Fields.length:Int))) || (decide (8 <(cK.az.length:Int)))) (some (.out 2)) (et (α:=Unit) (wB F cK F 0) fun (_:Unit)=>
   et (α:=Unit) (wC F cK F 0) fun (_:Unit)=>
   some (.go ()))))) fun (_:Unit)=>
   wy F aj bz (av (ef+ 1))) (some (.go ()))
def Ew (F:Nat) (aj:List aR):Option (Int):=
 cond (decide (10 <(aj.length:Int))) (some 2) (dD (α:=Unit) (wy F aj F 0) fun (_:Unit)=>
 some 0)
end J
namespace Go.Proofs.YtpkhpagplommoaaGreat
open Go Go.RowKit a5
set_option maxHeartbeats 4000000
set_option maxRecDepth 20000
theorem aap {W:World} {X:List Nat} {F:Nat} {m_:J.Method} {r:Int} {ad:aU} {af:Nat} {ar:aU} {ax:Nat} {M0:List Nat} (hm:aw W M0 X W [] [aa J.dB ad af m_.bA,aa J.eG ar ax m_.bp]) (h:J.Ax F m_=some r) :
 Calls Tryz.prog 132 [.agg #[ak m_.Name,.bool m_.Static,.q ad af m_.bA,.i m_.Returns.Kind,ak m_.Returns.aR,.i m_.cT,.i m_.cS,ak m_.Code,.q ar ax m_.bp]].toArray W (fun e aJ=>e= .returned (.i r)/\aw W M0 X aJ [] []):=by
 refine enter Tryz.func132 rfl Tryz.ntmps132 rfl fun a I=>?_;rw [J.Ax] at h;refine wp_seq_k fun K dq=>a7 <| cZ (cs:=[ak m_.Name,.bool m_.Static,.q ad af m_.bA,.i m_.Returns.Kind,ak m_.Returns.aR,.i m_.cT,.i m_.cS,ak m_.Code,.q ar ax m_.bp]) wn (eV rfl rfl (I.g rfl)) I hm rfl rfl fun a bZ w _ I hm=>aM 1 [] [(1,.U bZ)] I fun a I=>wpList_nil (dq _ _ ?_);refine wp_seq_k fun K bT=>wp_block <| wp_seq_k fun K cw=>a7 ?_
 refine bh 2 [0,0] [(1,.U bZ),(9,ak m_.Name)] [bZ,0] (aD (a' (hm.e 0 rfl)) aE) I fun a I=>?_;obtain ⟨dp,uP,h⟩:=J.aQ h;have hc:=hm;refine bU (vs:=[ak m_.Name]) wn rfl Tryz.call130 ⟨(I.g rfl),trivial⟩ (xB ((hc.into 0).pick trivial) uP) I rfl rfl ?_;rintro _ w ⟨rfl,ai⟩;refine ⟨_,rfl,fun a I=>?_⟩;have hm:=hc.back 0 ai;clear ai hc;refine aM 2 [] [(1,.U bZ),(7,.bool (!dp))] I fun a I=>wpList_nil (cw _ _ ?_);refine bn (I.g rfl) h (fun mi h=>?_) (fun mi h=>?_)
 · refine aG [] [(2,.i 1)] I fun a I=>wp_ret ?_;obtain rfl:=aH h;refine ba (ao ?_);refine bq Tryz.results132 I rfl ?_;exact ⟨rfl,hm.a1 [] []⟩
 refine wp_seq_k fun K cG=>rg [0,2,0,0,0,7,0,0,0,0,0,0,8,0,0,0] [(1,.U bZ),(12,.bool (((decide (4 <(m_.bA.length:Int))) || (decide (200 <(m_.Code.length:Int)))) || (decide (4 <(m_.bp.length:Int)))))] [bZ,8,bZ,7,bZ,2] (aD (a' (hm.e 0 rfl)) aE) I fun a I=>cG _ _ <| bn (I.g rfl) h (fun rk h=>?_) (fun rk h=>?_)
 · refine aG [] [(2,.i 2)] I fun a I=>wp_ret ?_;obtain rfl:=aH h;refine ba (ao ?_);refine bq Tryz.results132 I rfl ?_;exact ⟨rfl,hm.a1 [] []⟩
 refine wp_seq_k fun K dH=>a7 <| bh 2 [0,5] [(1,.U bZ),(31,.i m_.cT)] [bZ,5] (aD (a' (hm.e 0 rfl)) aE) I fun a I=>?_;obtain ⟨im,Am,h⟩:=J.aQ h;have hc:=hm;refine bU (vs:=[.i m_.cT,.i 0,.i 10]) wn rfl Tryz.call145 ⟨(I.g rfl),(c' _ _),(c' _ _),trivial⟩ (xC ((hc.into 0).pick trivial) Am) I rfl rfl ?_;rintro _ w ⟨rfl,ai⟩;refine ⟨_,rfl,fun a I=>?_⟩;have hm:=hc.back 0 ai;clear ai hc;refine aM 2 [] [(1,.U bZ),(34,.bool (!im))] I fun a I=>?_
 rcases Bool.eq_false_or_eq_true (!im) with ht | ht
 · have h:=J.dz ht h;have I:=I.cd 34 rfl ht;refine aM 6 [1,1,1,1,1] [(1,.U bZ),(29,.bool true)] I fun a I=>wpList_nil (dH _ _ ?_);refine eZ (I.g rfl) rfl <| aG [] [(2,.i 3)] I fun a I=>wp_ret ?_;obtain rfl:=aH h;refine ba (ao ?_);refine bq Tryz.results132 I rfl ?_;exact ⟨rfl,hm.a1 [] []⟩
 have h:=J.dy ht h;have I:=I.cd 34 rfl ht;refine bh 2 [1,1,0,6] [(1,.U bZ),(34,.bool false),(36,.i m_.cS)] [bZ,6] (aD (a' (hm.e 0 rfl)) aE) I fun a I=>?_;obtain ⟨np,An,h⟩:=J.aQ h;have hc:=hm;refine bU (vs:=[.i m_.cS,.i 0,.i 10]) (db I rfl rfl rfl rfl) rfl Tryz.call145 ⟨(I.g rfl),(c' _ _),(c' _ _),trivial⟩ (xC ((hc.into 0).pick trivial) An) I rfl rfl ?_;rintro _ w ⟨rfl,ai⟩;refine ⟨_,rfl,fun a I=>?_⟩;have hm:=hc.back 0 ai;clear ai hc
 refine aM 3 [1,1] [(1,.U bZ),(29,.bool (!np))] I fun a I=>wpList_nil (dH _ _ ?_);refine bn (I.g rfl) h (fun kt h=>?_) (fun kt h=>?_)
 · refine aG [] [(2,.i 3)] I fun a I=>wp_ret ?_;obtain rfl:=aH h;refine ba (ao ?_);refine bq Tryz.results132 I rfl ?_;exact ⟨rfl,hm.a1 [] []⟩
 refine wp_skip <| bT _ _ <| wp_seq_k fun K dx=>wp_seq_k fun K dN=>rg [0,2] [(1,.U bZ),(41,.q ad af m_.bA),(42,.i (m_.bA.length:Int)),(43,.i 0)] [bZ,2] (aD (a' (hm.e 0 rfl)) aE) I fun a I=>dN _ _ ?_;obtain ⟨Vk,h,SU⟩:=J.eC h
 refine cp (fun a w=>Fr ⟨91,[]⟩ [(1,.U bZ)] a/\aw W M0 X w [au.bs bZ 133 [ak m_.Name,.bool m_.Static,.q ad af m_.bA,.i m_.Returns.Kind,ak m_.Returns.aR,.i m_.cT,.i m_.cS,ak m_.Code,.q ar ax m_.bp]] [aa J.dB ad af m_.bA,aa J.eG ar ax m_.bp]/\Vk=(.go ())) (fun K ew=>?_) ?_
 · refine cN (fun (bz:Nat) a w=>∃ (nk:Int),Fr ⟨91,[]⟩ [(1,.U bZ),(41,.q ad af m_.bA),(42,.i (m_.bA.length:Int)),(43,.i nk)] a/\aw W M0 X w [au.bs bZ 133 [ak m_.Name,.bool m_.Static,.q ad af m_.bA,.i m_.Returns.Kind,ak m_.Returns.aR,.i m_.cT,.i m_.cS,ak m_.Code,.q ar ax m_.bp]] [aa J.dB ad af m_.bA,aa J.eG ar ax m_.bp]/\J.yj F m_ bz nk=some Vk) F ⟨0,I.cut,hm,h⟩ ?_ ?_
   · rintro a w ⟨nk,I,hm,h⟩;exact absurd h (by simp [J.yj])
   rintro bz a w ⟨nk,I,hm,h⟩ K ej;rw [J.yj] at h;refine aG [] [(1,.U bZ),(41,.q ad af m_.bA),(42,.i (m_.bA.length:Int)),(43,.i nk),(44,.bool (decide (nk <(m_.bA.length:Int))))] I fun a I=>wp_seq_k fun K fH=>bn (I.g rfl) h (fun apz h=>?_) (fun apz h=>?_)
   · refine wp_skip <| fH _ _ <| wp_seq_k fun K hr=>wp_block <| wp_seq_k fun K hO=>a7 ?_;obtain ⟨r5,aCh,h⟩:=J.aQ h;obtain ⟨alA,awq,_,rfl,ar'⟩:=b3 _ (hm.d 0 rfl) aCh;refine bR wn (bL Tryz.underlying130 Tryz.sizeOf103 rfl (I.g rfl) (I.g rfl) alA awq) I rfl rfl fun a I=>bh 1 [0,0] [(1,.U bZ),(41,.q ad af m_.bA),(42,.i (m_.bA.length:Int)),(43,.i nk),(46,.agg #[.i r5.Kind,ak r5.aR])] [bM ad,bP ad+(nk).toNat* 2] (aD ar' aE) I fun a I=>cZ (cs:=[.i 0,ak []]) wn (fc Tryz.zeroValue103 rfl rfl) I hm rfl rfl fun a ajc w _ I hm=>?_
     refine da (vs:=[.i r5.Kind,ak r5.aR]) 0 hm rfl wn rfl Tryz.sizeOf103 rfl rfl rfl rfl (I.g rfl) (I.g rfl) rfl fun w hm=>wpList_nil <| hO _ _ <| wp_seq_k fun K gd=>a7 <| bh 1 [0,0] [(1,.U bZ),(41,.q ad af m_.bA),(42,.i (m_.bA.length:Int)),(43,.i nk),(47,.agg #[.i r5.Kind,ak r5.aR])] [ajc,0] (aD (a' (hm.e 0 rfl)) aE) I fun a I=>?_;obtain ⟨W',azz,h⟩:=J.aQ h;have hc:=hm;refine bU (vs:=[.agg #[.i r5.Kind,ak r5.aR]]) wn rfl Tryz.call131 ⟨(I.g rfl),trivial⟩ (KC ((hc.into 0).pick trivial) azz) I rfl rfl ?_
     rintro _ w ⟨rfl,ai⟩;refine ⟨_,rfl,fun a I=>?_⟩;have hm:=hc.back 0 ai;clear ai hc;refine aM 1 [] [(1,.U bZ),(41,.q ad af m_.bA),(42,.i (m_.bA.length:Int)),(43,.i nk),(49,.bool (!W'))] I fun a I=>wpList_nil (gd _ _ ?_);refine bn (I.g rfl) h (fun apD h=>?_) (fun apD h=>?_)
     · refine aG [] [(2,.i 7)] I fun a I=>wp_ret ?_;obtain rfl:=aH h;obtain rfl:=aH SU;refine ba (ao (ao (ba (ao (ao ?_)))));refine bq Tryz.results132 I rfl ?_;exact ⟨rfl,hm.a1 [] []⟩
     refine wp_skip <| hr _ _ <| cn [] [(1,.U bZ),(41,.q ad af m_.bA),(42,.i (m_.bA.length:Int)),(43,.i (J.av (nk+ 1)))] I fun a I=>?_;exact ej _ _ ⟨J.av (nk+ 1),I.cut,(hm.l2 [1] rfl rfl),h⟩
   refine wp_exit <| bD (bD (cD ?_));exact ew _ _ ⟨I.cut,hm,(os h)⟩
 rintro a w ⟨I,hm,bf⟩;subst Vk;have h:=SU;clear SU;dsimp only [J.ep] at h;refine dx _ _ <| wp_seq_k fun K gQ=>wp_seq_k fun K gR=>a7 <| bh 2 [0,3] [(1,.U bZ),(52,.agg #[.i m_.Returns.Kind,ak m_.Returns.aR])] [bZ,3] (aD (a' (hm.e 0 rfl)) aE) I fun a I=>bR wn (hA (vs:=[]) (cs:=[.i 0,ak []]) Tryz.zeroValue103 Tryz.underlying103 adU rfl trivial (by kernel_rfl)) I rfl rfl fun a I=>bR wn (Ft (X:=m_.Returns) (Y:=(⟨0,[]⟩:J.Kind)) rfl (I.g rfl) (I.g rfl)) I rfl rfl fun a I=>?_
 refine aM 1 [] [(1,.U bZ),(55,.bool (!decide (m_.Returns=(⟨0,[]⟩:J.Kind))))] I fun a I=>?_;rcases Bool.eq_false_or_eq_true (!decide (m_.Returns=(⟨0,[]⟩:J.Kind))) with Gr | Gr
 · have h:=J.dz Gr h;have I:=I.cd 55 rfl Gr;refine bh 2 [1,1,0,3] [(1,.U bZ),(55,.bool true),(57,.agg #[.i m_.Returns.Kind,ak m_.Returns.aR])] [bZ,3] (aD (a' (hm.e 0 rfl)) aE) I fun a I=>?_;obtain ⟨Xa,azC,h⟩:=J.aQ h;have hc:=hm;refine bU (vs:=[.agg #[.i m_.Returns.Kind,ak m_.Returns.aR]]) (db I rfl rfl rfl rfl) rfl Tryz.call131 ⟨(I.g rfl),trivial⟩ (KC ((hc.into 0).pick trivial) azC) I rfl rfl ?_;rintro _ w ⟨rfl,ai⟩;refine ⟨_,rfl,fun a I=>?_⟩;have hm:=hc.back 0 ai;clear ai hc
   refine aM 2 [1,1] [(1,.U bZ),(60,.bool (!Xa))] I fun a I=>wpList_nil (gR _ _ ?_);refine bn (I.g rfl) h (fun apJ h=>?_) (fun apJ h=>?_)
   · refine aG [] [(2,.i 7)] I fun a I=>wp_ret ?_;obtain rfl:=aH h;refine ao <| bq Tryz.results132 I rfl ?_;exact ⟨rfl,hm.a1 [] []⟩
   refine wp_skip <| gQ _ _ <| wp_seq_k fun K iK=>wp_seq_k fun K jn=>rg [0,8] [(62,.q ar ax m_.bp),(63,.i (m_.bp.length:Int)),(64,.i 0)] [bZ,8] (aD (a' (hm.e 0 rfl)) aE) I fun a I=>jn _ _ ?_;obtain ⟨Uu,h,CA⟩:=J.eC h;refine cp (fun a w=>Fr ⟨91,[]⟩ [] a/\aw W M0 X w [au.bs bZ 133 [ak m_.Name,.bool m_.Static,.q ad af m_.bA,.i m_.Returns.Kind,ak m_.Returns.aR,.i m_.cT,.i m_.cS,ak m_.Code,.q ar ax m_.bp]] [aa J.dB ad af m_.bA,aa J.eG ar ax m_.bp]/\Uu=(.go ())) (fun K iA=>?_) ?_
   · refine cN (fun (dg:Nat) a w=>∃ (fX:Int),Fr ⟨91,[]⟩ [(62,.q ar ax m_.bp),(63,.i (m_.bp.length:Int)),(64,.i fX)] a/\aw W M0 X w [au.bs bZ 133 [ak m_.Name,.bool m_.Static,.q ad af m_.bA,.i m_.Returns.Kind,ak m_.Returns.aR,.i m_.cT,.i m_.cS,ak m_.Code,.q ar ax m_.bp]] [aa J.dB ad af m_.bA,aa J.eG ar ax m_.bp]/\J.yk F m_ dg fX=some Uu) F ⟨0,I.cut,hm,h⟩ ?_ ?_
     · rintro a w ⟨fX,I,hm,h⟩;exact absurd h (by simp [J.yk])
     rintro dg a w ⟨fX,I,hm,h⟩ K iB;rw [J.yk] at h;refine aG [] [(62,.q ar ax m_.bp),(63,.i (m_.bp.length:Int)),(64,.i fX),(65,.bool (decide (fX <(m_.bp.length:Int))))] I fun a I=>wp_seq_k fun K kQ=>bn (I.g rfl) h (fun anI h=>?_) (fun anI h=>?_)
     · refine wp_skip <| kQ _ _ <| wp_seq_k fun K kr=>wp_block <| wp_seq_k fun K nE=>a7 ?_;obtain ⟨kC,aAH,h⟩:=J.aQ h;obtain ⟨ajS,auI,_,rfl,aqo⟩:=b3 _ (hm.d 1 rfl) aAH;refine bR wn (bL Tryz.underlying131 Tryz.sizeOf150 rfl (I.g rfl) (I.g rfl) ajS auI) I rfl rfl fun a I=>bh 1 [0,0] [(62,.q ar ax m_.bp),(63,.i (m_.bp.length:Int)),(64,.i fX),(67,.agg #[.i kC.From,.i kC.To,.i kC.hB,ak kC.aR])] [bM ar,bP ar+(fX).toNat* 4] (aD aqo aE) I fun a I=>cZ (cs:=[.i 0,.i 0,.i 0,ak []]) wn (fc Tryz.zeroValue150 rfl rfl) I hm rfl rfl fun a sB w ah I hm=>?_
       clear ah;refine da (vs:=[.i kC.From,.i kC.To,.i kC.hB,ak kC.aR]) 0 hm rfl wn rfl Tryz.sizeOf150 rfl rfl rfl rfl (I.g rfl) (I.g rfl) rfl fun w hm=>wpList_nil <| nE _ _ <| wp_block <| wp_seq_k fun K kR=>a7 <| bh 2 [0,3] [(6,.U sB),(62,.q ar ax m_.bp),(63,.i (m_.bp.length:Int)),(64,.i fX),(70,ak kC.aR)] [sB,3] (aD (a' (hm.e 0 rfl)) aE) I fun a I=>?_;obtain ⟨H5,ayo,h⟩:=J.aQ h;have hc:=hm
       refine bU (vs:=[ak kC.aR]) wn rfl Tryz.call130 ⟨(I.g rfl),trivial⟩ (xB ((hc.into 0).pick trivial) ayo) I rfl rfl ?_;rintro _ w ⟨rfl,ai⟩;refine ⟨_,rfl,fun a I=>?_⟩;have hm:=hc.back 0 ai;clear ai hc;refine aM 2 [] [(6,.U sB),(62,.q ar ax m_.bp),(63,.i (m_.bp.length:Int)),(64,.i fX),(68,.bool (!H5))] I fun a I=>wpList_nil (kR _ _ ?_);refine bn (I.g rfl) h (fun anP h=>?_) (fun anP h=>?_)
       · refine aG [] [(2,.i 1)] I fun a I=>wp_ret ?_;obtain rfl:=aH h;obtain rfl:=aH CA;refine ba (ba (ao (ao (ba (ao (ao ?_))))));refine bq Tryz.results132 I rfl ?_;exact ⟨rfl,hm.a1 [] []⟩
       refine wp_seq_k fun K lr=>a7 <| bh 2 [0,0] [(6,.U sB),(62,.q ar ax m_.bp),(63,.i (m_.bp.length:Int)),(64,.i fX),(75,.i kC.From)] [sB,0] (aD (a' (hm.e 0 rfl)) aE) I fun a I=>?_;obtain ⟨k8,TM,h⟩:=J.aQ h;have hc:=hm;refine bU (vs:=[.i kC.From,.i 0,.i 200]) wn rfl Tryz.call145 ⟨(I.g rfl),(c' _ _),(c' _ _),trivial⟩ (xC ((hc.into 0).pick trivial) TM) I rfl rfl ?_;rintro _ w ⟨rfl,ai⟩;refine ⟨_,rfl,fun a I=>?_⟩;have hm:=hc.back 0 ai;clear ai hc
       refine aM 2 [] [(6,.U sB),(62,.q ar ax m_.bp),(63,.i (m_.bp.length:Int)),(64,.i fX),(78,.bool (!k8))] I fun a I=>?_;rcases Bool.eq_false_or_eq_true (!k8) with zY | zY
       · have h:=J.dz zY h;have I:=I.cd 78 rfl zY;refine aM 12 [1,1,1,1,1,1,1,1,1,1] [(62,.q ar ax m_.bp),(63,.i (m_.bp.length:Int)),(64,.i fX),(73,.bool true)] I fun a I=>wpList_nil (lr _ _ ?_);refine eZ (I.g rfl) rfl <| aG [] [(2,.i 3)] I fun a I=>wp_ret ?_;obtain rfl:=aH h;obtain rfl:=aH CA;refine ba (ba (ao (ao (ba (ao (ao ?_))))));refine bq Tryz.results132 I rfl ?_;exact ⟨rfl,hm.a1 [] []⟩
       have h:=J.dy zY h;have I:=I.cd 78 rfl zY;refine bh 2 [1,1,0,1] [(6,.U sB),(62,.q ar ax m_.bp),(63,.i (m_.bp.length:Int)),(64,.i fX),(78,.bool false),(80,.i kC.To)] [sB,1] (aD (a' (hm.e 0 rfl)) aE) I fun a I=>?_;obtain ⟨C_,ayq,h⟩:=J.aQ h;have hc:=hm;refine bU (vs:=[.i kC.To,.i 0,.i 200]) (db I rfl rfl rfl rfl) rfl Tryz.call145 ⟨(I.g rfl),(c' _ _),(c' _ _),trivial⟩ (xC ((hc.into 0).pick trivial) ayq) I rfl rfl ?_;rintro _ w ⟨rfl,ai⟩;refine ⟨_,rfl,fun a I=>?_⟩;have hm:=hc.back 0 ai;clear ai hc
       refine aM 3 [1,1] [(6,.U sB),(62,.q ar ax m_.bp),(63,.i (m_.bp.length:Int)),(64,.i fX),(84,.bool (!C_))] I fun a I=>?_;rcases Bool.eq_false_or_eq_true (!C_) with FX | FX
       · have h:=J.dz FX h;have I:=I.cd 84 rfl FX;refine aM 6 [1,1,1,1,1] [(62,.q ar ax m_.bp),(63,.i (m_.bp.length:Int)),(64,.i fX),(73,.bool true)] I fun a I=>wpList_nil (lr _ _ ?_);refine eZ (I.g rfl) rfl <| aG [] [(2,.i 3)] I fun a I=>wp_ret ?_;obtain rfl:=aH h;obtain rfl:=aH CA;refine ba (ba (ao (ao (ba (ao (ao ?_))))));refine bq Tryz.results132 I rfl ?_;exact ⟨rfl,hm.a1 [] []⟩
       have h:=J.dy FX h;have I:=I.cd 84 rfl FX;refine bh 2 [1,1,0,2] [(62,.q ar ax m_.bp),(63,.i (m_.bp.length:Int)),(64,.i fX),(84,.bool false),(86,.i kC.hB)] [sB,2] (aD (a' (hm.e 0 rfl)) aE) I fun a I=>?_;obtain ⟨H6,ayr,h⟩:=J.aQ h;have hc:=hm;refine bU (vs:=[.i kC.hB,.i 0,.i 200]) (db I rfl rfl rfl rfl) rfl Tryz.call145 ⟨(I.g rfl),(c' _ _),(c' _ _),trivial⟩ (xC ((hc.into 0).pick trivial) ayr) I rfl rfl ?_;rintro _ w ⟨rfl,ai⟩;refine ⟨_,rfl,fun a I=>?_⟩;have hm:=hc.back 0 ai;clear ai hc
       refine aM 3 [1,1] [(62,.q ar ax m_.bp),(63,.i (m_.bp.length:Int)),(64,.i fX),(73,.bool (!H6))] I fun a I=>wpList_nil (lr _ _ ?_);refine bn (I.g rfl) h (fun anS h=>?_) (fun anS h=>?_)
       · refine aG [] [(2,.i 3)] I fun a I=>wp_ret ?_;obtain rfl:=aH h;obtain rfl:=aH CA;refine ba (ba (ao (ao (ba (ao (ao ?_))))));refine bq Tryz.results132 I rfl ?_;exact ⟨rfl,hm.a1 [] []⟩
       refine wp_skip <| kr _ _ <| cn [] [(62,.q ar ax m_.bp),(63,.i (m_.bp.length:Int)),(64,.i (J.av (fX+ 1)))] I fun a I=>?_;exact iB _ _ ⟨J.av (fX+ 1),I.cut,(hm.l2 [1] rfl rfl),h⟩
     refine wp_exit <| bD (bD (cD ?_));exact iA _ _ ⟨I.cut,hm,(os h)⟩
   rintro a w ⟨I,hm,bf⟩;subst Uu;have h:=CA;clear CA;dsimp only [J.ep] at h;refine iK _ _ <| aG [] [(2,.i 0)] I fun a I=>wp_ret ?_;obtain rfl:=aH h;refine bq Tryz.results132 I rfl ?_;exact ⟨rfl,hm.a1 [] []⟩
 have h:=J.dy Gr h;have I:=I.cd 55 rfl Gr;refine aM 5 [1,1,1,1,1] [(1,.U bZ),(60,.bool false)] I fun a I=>wpList_nil (gR _ _ ?_);refine jD (I.g rfl) rfl <| wp_skip <| gQ _ _ <| wp_seq_k fun K po=>wp_seq_k fun K m0=>rg [0,8] [(62,.q ar ax m_.bp),(63,.i (m_.bp.length:Int)),(64,.i 0)] [bZ,8] (aD (a' (hm.e 0 rfl)) aE) I fun a I=>m0 _ _ ?_;obtain ⟨US,h,CE⟩:=J.eC h
 refine cp (fun a w=>Fr ⟨91,[]⟩ [] a/\aw W M0 X w [au.bs bZ 133 [ak m_.Name,.bool m_.Static,.q ad af m_.bA,.i m_.Returns.Kind,ak m_.Returns.aR,.i m_.cT,.i m_.cS,ak m_.Code,.q ar ax m_.bp]] [aa J.dB ad af m_.bA,aa J.eG ar ax m_.bp]/\US=(.go ())) (fun K nF=>?_) ?_
 · refine cN (fun (eQ:Nat) a w=>∃ (jK:Int),Fr ⟨91,[]⟩ [(62,.q ar ax m_.bp),(63,.i (m_.bp.length:Int)),(64,.i jK)] a/\aw W M0 X w [au.bs bZ 133 [ak m_.Name,.bool m_.Static,.q ad af m_.bA,.i m_.Returns.Kind,ak m_.Returns.aR,.i m_.cT,.i m_.cS,ak m_.Code,.q ar ax m_.bp]] [aa J.dB ad af m_.bA,aa J.eG ar ax m_.bp]/\J.yl F m_ eQ jK=some US) F ⟨0,I.cut,hm,h⟩ ?_ ?_
   · rintro a w ⟨jK,I,hm,h⟩;exact absurd h (by simp [J.yl])
   rintro eQ a w ⟨jK,I,hm,h⟩ K rf;rw [J.yl] at h;refine aG [] [(62,.q ar ax m_.bp),(63,.i (m_.bp.length:Int)),(64,.i jK),(65,.bool (decide (jK <(m_.bp.length:Int))))] I fun a I=>wp_seq_k fun K nG=>bn (I.g rfl) h (fun an9 h=>?_) (fun an9 h=>?_)
   · refine wp_skip <| nG _ _ <| wp_seq_k fun K um=>wp_block <| wp_seq_k fun K rh=>a7 ?_;obtain ⟨kD,aA2,h⟩:=J.aQ h;obtain ⟨ake,au6,_,rfl,aqL⟩:=b3 _ (hm.d 1 rfl) aA2;refine bR wn (bL Tryz.underlying131 Tryz.sizeOf150 rfl (I.g rfl) (I.g rfl) ake au6) I rfl rfl fun a I=>bh 1 [0,0] [(62,.q ar ax m_.bp),(63,.i (m_.bp.length:Int)),(64,.i jK),(67,.agg #[.i kD.From,.i kD.To,.i kD.hB,ak kD.aR])] [bM ar,bP ar+(jK).toNat* 4] (aD aqL aE) I fun a I=>cZ (cs:=[.i 0,.i 0,.i 0,ak []]) wn (fc Tryz.zeroValue150 rfl rfl) I hm rfl rfl fun a sC w ah I hm=>?_
     clear ah;refine da (vs:=[.i kD.From,.i kD.To,.i kD.hB,ak kD.aR]) 0 hm rfl wn rfl Tryz.sizeOf150 rfl rfl rfl rfl (I.g rfl) (I.g rfl) rfl fun w hm=>wpList_nil <| rh _ _ <| wp_block <| wp_seq_k fun K pq=>a7 <| bh 2 [0,3] [(6,.U sC),(62,.q ar ax m_.bp),(63,.i (m_.bp.length:Int)),(64,.i jK),(70,ak kD.aR)] [sC,3] (aD (a' (hm.e 0 rfl)) aE) I fun a I=>?_;obtain ⟨WL,ayG,h⟩:=J.aQ h;have hc:=hm
     refine bU (vs:=[ak kD.aR]) wn rfl Tryz.call130 ⟨(I.g rfl),trivial⟩ (xB ((hc.into 0).pick trivial) ayG) I rfl rfl ?_;rintro _ w ⟨rfl,ai⟩;refine ⟨_,rfl,fun a I=>?_⟩;have hm:=hc.back 0 ai;clear ai hc;refine aM 2 [] [(6,.U sC),(62,.q ar ax m_.bp),(63,.i (m_.bp.length:Int)),(64,.i jK),(68,.bool (!WL))] I fun a I=>wpList_nil (pq _ _ ?_);refine bn (I.g rfl) h (fun an_ h=>?_) (fun an_ h=>?_)
     · refine aG [] [(2,.i 1)] I fun a I=>wp_ret ?_;obtain rfl:=aH h;obtain rfl:=aH CE;refine ba (ba (ao (ao (ba (ao (ao ?_))))));refine bq Tryz.results132 I rfl ?_;exact ⟨rfl,hm.a1 [] []⟩
     refine wp_seq_k fun K nH=>a7 <| bh 2 [0,0] [(6,.U sC),(62,.q ar ax m_.bp),(63,.i (m_.bp.length:Int)),(64,.i jK),(75,.i kD.From)] [sC,0] (aD (a' (hm.e 0 rfl)) aE) I fun a I=>?_;obtain ⟨Mg,ayH,h⟩:=J.aQ h;have hc:=hm;refine bU (vs:=[.i kD.From,.i 0,.i 200]) wn rfl Tryz.call145 ⟨(I.g rfl),(c' _ _),(c' _ _),trivial⟩ (xC ((hc.into 0).pick trivial) ayH) I rfl rfl ?_;rintro _ w ⟨rfl,ai⟩;refine ⟨_,rfl,fun a I=>?_⟩;have hm:=hc.back 0 ai;clear ai hc
     refine aM 2 [] [(6,.U sC),(62,.q ar ax m_.bp),(63,.i (m_.bp.length:Int)),(64,.i jK),(78,.bool (!Mg))] I fun a I=>?_;rcases Bool.eq_false_or_eq_true (!Mg) with F5 | F5
     · have h:=J.dz F5 h;have I:=I.cd 78 rfl F5;refine aM 12 [1,1,1,1,1,1,1,1,1,1] [(62,.q ar ax m_.bp),(63,.i (m_.bp.length:Int)),(64,.i jK),(73,.bool true)] I fun a I=>wpList_nil (nH _ _ ?_);refine eZ (I.g rfl) rfl <| aG [] [(2,.i 3)] I fun a I=>wp_ret ?_;obtain rfl:=aH h;obtain rfl:=aH CE;refine ba (ba (ao (ao (ba (ao (ao ?_))))));refine bq Tryz.results132 I rfl ?_;exact ⟨rfl,hm.a1 [] []⟩
     have h:=J.dy F5 h;have I:=I.cd 78 rfl F5;refine bh 2 [1,1,0,1] [(6,.U sC),(62,.q ar ax m_.bp),(63,.i (m_.bp.length:Int)),(64,.i jK),(78,.bool false),(80,.i kD.To)] [sC,1] (aD (a' (hm.e 0 rfl)) aE) I fun a I=>?_;obtain ⟨Mh,ayI,h⟩:=J.aQ h;have hc:=hm;refine bU (vs:=[.i kD.To,.i 0,.i 200]) (db I rfl rfl rfl rfl) rfl Tryz.call145 ⟨(I.g rfl),(c' _ _),(c' _ _),trivial⟩ (xC ((hc.into 0).pick trivial) ayI) I rfl rfl ?_;rintro _ w ⟨rfl,ai⟩;refine ⟨_,rfl,fun a I=>?_⟩;have hm:=hc.back 0 ai;clear ai hc
     refine aM 3 [1,1] [(6,.U sC),(62,.q ar ax m_.bp),(63,.i (m_.bp.length:Int)),(64,.i jK),(84,.bool (!Mh))] I fun a I=>?_;rcases Bool.eq_false_or_eq_true (!Mh) with F6 | F6
     · have h:=J.dz F6 h;have I:=I.cd 84 rfl F6;refine aM 6 [1,1,1,1,1] [(62,.q ar ax m_.bp),(63,.i (m_.bp.length:Int)),(64,.i jK),(73,.bool true)] I fun a I=>wpList_nil (nH _ _ ?_);refine eZ (I.g rfl) rfl <| aG [] [(2,.i 3)] I fun a I=>wp_ret ?_;obtain rfl:=aH h;obtain rfl:=aH CE;refine ba (ba (ao (ao (ba (ao (ao ?_))))));refine bq Tryz.results132 I rfl ?_;exact ⟨rfl,hm.a1 [] []⟩
     have h:=J.dy F6 h;have I:=I.cd 84 rfl F6;refine bh 2 [1,1,0,2] [(62,.q ar ax m_.bp),(63,.i (m_.bp.length:Int)),(64,.i jK),(84,.bool false),(86,.i kD.hB)] [sC,2] (aD (a' (hm.e 0 rfl)) aE) I fun a I=>?_;obtain ⟨WM,ayJ,h⟩:=J.aQ h;have hc:=hm;refine bU (vs:=[.i kD.hB,.i 0,.i 200]) (db I rfl rfl rfl rfl) rfl Tryz.call145 ⟨(I.g rfl),(c' _ _),(c' _ _),trivial⟩ (xC ((hc.into 0).pick trivial) ayJ) I rfl rfl ?_;rintro _ w ⟨rfl,ai⟩;refine ⟨_,rfl,fun a I=>?_⟩;have hm:=hc.back 0 ai;clear ai hc
     refine aM 3 [1,1] [(62,.q ar ax m_.bp),(63,.i (m_.bp.length:Int)),(64,.i jK),(73,.bool (!WM))] I fun a I=>wpList_nil (nH _ _ ?_);refine bn (I.g rfl) h (fun aob h=>?_) (fun aob h=>?_)
     · refine aG [] [(2,.i 3)] I fun a I=>wp_ret ?_;obtain rfl:=aH h;obtain rfl:=aH CE;refine ba (ba (ao (ao (ba (ao (ao ?_))))));refine bq Tryz.results132 I rfl ?_;exact ⟨rfl,hm.a1 [] []⟩
     refine wp_skip <| um _ _ <| cn [] [(62,.q ar ax m_.bp),(63,.i (m_.bp.length:Int)),(64,.i (J.av (jK+ 1)))] I fun a I=>?_;exact rf _ _ ⟨J.av (jK+ 1),I.cut,(hm.l2 [1] rfl rfl),h⟩
   refine wp_exit <| bD (bD (cD ?_));exact nF _ _ ⟨I.cut,hm,(os h)⟩
 rintro a w ⟨I,hm,bf⟩;subst US;have h:=CE;clear CE;dsimp only [J.ep] at h;refine po _ _ <| aG [] [(2,.i 0)] I fun a I=>wp_ret ?_;obtain rfl:=aH h;refine bq Tryz.results132 I rfl ?_;exact ⟨rfl,hm.a1 [] []⟩
theorem ahx {W:World} {X:List Nat} {F:Nat} {c_:J.aR} {r:Int} {ad:aU} {af:Nat} {ar:aU} {ax:Nat} {M0:List Nat} (hm:aw W M0 X W [] [aa J.aX ad af c_.Fields,aa J.b8 ar ax c_.az]) (h:J.Hp F c_=some r) :
 Calls Tryz.prog 98 [.agg #[ak c_.Name,ak c_.b0,.q ad af c_.Fields,.q ar ax c_.az]].toArray W (fun e aJ=>e= .returned (.i r)/\aw W M0 X aJ [] []):=by
 refine enter Tryz.func98 rfl Tryz.ntmps98 rfl fun a I=>?_;rw [J.Hp] at h;refine wp_seq_k fun K dq=>a7 <| cZ (cs:=[ak c_.Name,ak c_.b0,.q ad af c_.Fields,.q ar ax c_.az]) wn (eV rfl rfl (I.g rfl)) I hm rfl rfl fun a bZ w _ I hm=>aM 1 [] [(1,.U bZ)] I fun a I=>wpList_nil (dq _ _ ?_);refine wp_seq_k fun K bT=>wp_block <| wp_seq_k fun K cw=>a7 <| bh 2 [0,0] [(1,.U bZ),(10,ak c_.Name)] [bZ,0] (aD (a' (hm.e 0 rfl)) aE) I fun a I=>?_;obtain ⟨dp,uP,h⟩:=J.aQ h;have hc:=hm
 refine bU (vs:=[ak c_.Name]) wn rfl Tryz.call130 ⟨(I.g rfl),trivial⟩ (xB ((hc.into 0).pick trivial) uP) I rfl rfl ?_;rintro _ w ⟨rfl,ai⟩;refine ⟨_,rfl,fun a I=>?_⟩;have hm:=hc.back 0 ai;clear ai hc;refine aM 2 [] [(1,.U bZ),(13,.bool (!dp))] I fun a I=>?_;rcases Bool.eq_false_or_eq_true (!dp) with mi | mi
 · have h:=J.dz mi h;have I:=I.cd 13 rfl mi;refine aM 11 [1,1,1,1,1,1,1,1,1,1] [(1,.U bZ),(8,.bool true)] I fun a I=>wpList_nil (cw _ _ ?_);refine eZ (I.g rfl) rfl <| aG [] [(2,.i 1)] I fun a I=>wp_ret ?_;obtain rfl:=aH h;refine ba (ao ?_);refine bq Tryz.results98 I rfl ?_;exact ⟨rfl,hm.a1 [] []⟩
 have h:=J.dy mi h;have I:=I.cd 13 rfl mi;refine bh 4 [1,1,0,1,1,1] [(1,.U bZ),(13,.bool false),(17,.bool (!decide (c_.b0= [])))] [bZ,1] (aD (a' (hm.e 0 rfl)) aE) I fun a I=>?_;rcases Bool.eq_false_or_eq_true (!decide (c_.b0= [])) with rk | rk
 · have h:=J.dz rk h;have I:=I.cd 17 rfl rk;refine bh 2 [1,1,0,1] [(1,.U bZ),(13,.bool false),(17,.bool true),(19,ak c_.b0)] [bZ,1] (aD (a' (hm.e 0 rfl)) aE) I fun a I=>?_;obtain ⟨im,Am,h⟩:=J.aQ h;have hc:=hm;refine bU (vs:=[ak c_.b0]) (db I rfl rfl rfl rfl) rfl Tryz.call130 ⟨(I.g rfl),trivial⟩ (xB ((hc.into 0).pick trivial) Am) I rfl rfl ?_;rintro _ w ⟨rfl,ai⟩;refine ⟨_,rfl,fun a I=>?_⟩;have hm:=hc.back 0 ai;clear ai hc;refine aM 4 [1,1,1,1] [(1,.U bZ),(8,.bool (!im))] I fun a I=>wpList_nil (cw _ _ ?_)
   refine bn (I.g rfl) h (fun ht h=>?_) (fun ht h=>?_)
   · refine aG [] [(2,.i 1)] I fun a I=>wp_ret ?_;obtain rfl:=aH h;refine ba (ao ?_);refine bq Tryz.results98 I rfl ?_;exact ⟨rfl,hm.a1 [] []⟩
   refine wp_seq_k fun K eb=>rg [0,2,0,0,0,3,0,0,0] [(1,.U bZ),(24,.bool ((decide (6 <(c_.Fields.length:Int))) || (decide (8 <(c_.az.length:Int)))))] [bZ,3,bZ,2] (aD (a' (hm.e 0 rfl)) aE) I fun a I=>eb _ _ <| bn (I.g rfl) h (fun pt h=>?_) (fun pt h=>?_)
   · refine aG [] [(2,.i 2)] I fun a I=>wp_ret ?_;obtain rfl:=aH h;refine ba (ao ?_);refine bq Tryz.results98 I rfl ?_;exact ⟨rfl,hm.a1 [] []⟩
   refine wp_skip <| bT _ _ <| wp_seq_k fun K c6=>wp_seq_k fun K dE=>rg [0,2] [(1,.U bZ),(36,.q ad af c_.Fields),(37,.i (c_.Fields.length:Int)),(38,.i 0)] [bZ,2] (aD (a' (hm.e 0 rfl)) aE) I fun a I=>dE _ _ ?_;obtain ⟨Az,h,x3⟩:=J.eC h;refine cp (fun a w=>Fr ⟨66,[]⟩ [(1,.U bZ)] a/\aw W M0 X w [au.bs bZ 136 [ak c_.Name,ak c_.b0,.q ad af c_.Fields,.q ar ax c_.az]] [aa J.aX ad af c_.Fields,aa J.b8 ar ax c_.az]/\Az=(.go ())) (fun K dx=>?_) ?_
   · refine cN (fun (bz:Nat) a w=>∃ (dV:Int),Fr ⟨66,[]⟩ [(1,.U bZ),(36,.q ad af c_.Fields),(37,.i (c_.Fields.length:Int)),(38,.i dV)] a/\aw W M0 X w [au.bs bZ 136 [ak c_.Name,ak c_.b0,.q ad af c_.Fields,.q ar ax c_.az]] [aa J.aX ad af c_.Fields,aa J.b8 ar ax c_.az]/\J.yf F c_ bz dV=some Az) F ⟨0,I.cut,hm,h⟩ ?_ ?_
     · rintro a w ⟨dV,I,hm,h⟩;exact absurd h (by simp [J.yf])
     rintro bz a w ⟨dV,I,hm,h⟩ K dN;rw [J.yf] at h;refine aG [] [(1,.U bZ),(36,.q ad af c_.Fields),(37,.i (c_.Fields.length:Int)),(38,.i dV),(39,.bool (decide (dV <(c_.Fields.length:Int))))] I fun a I=>wp_seq_k fun K ej=>bn (I.g rfl) h (fun Gs h=>?_) (fun Gs h=>?_)
     · refine wp_skip <| ej _ _ <| wp_seq_k fun K gb=>wp_block <| wp_seq_k fun K fH=>a7 ?_;obtain ⟨nv,aCx,h⟩:=J.aQ h;obtain ⟨alT,awH,_,rfl,asq⟩:=b3 _ (hm.d 0 rfl) aCx;refine bR wn (bL Tryz.underlying106 Tryz.sizeOf105 rfl (I.g rfl) (I.g rfl) alT awH) I rfl rfl fun a I=>bh 1 [0,0] [(1,.U bZ),(36,.q ad af c_.Fields),(37,.i (c_.Fields.length:Int)),(38,.i dV),(41,.agg #[ak nv.Name,.i nv.Kind.Kind,ak nv.Kind.aR])] [bM ad,bP ad+(dV).toNat* 3] (aD asq aE) I fun a I=>cZ (cs:=[ak [],.i 0,ak []]) wn (fc Tryz.zeroValue105 rfl rfl) I hm rfl rfl fun a KQ w _ I hm=>?_
       refine da (vs:=[ak nv.Name,.i nv.Kind.Kind,ak nv.Kind.aR]) 0 hm rfl wn rfl Tryz.sizeOf105 rfl rfl rfl rfl (I.g rfl) (I.g rfl) rfl fun w hm=>wpList_nil <| fH _ _ <| wp_block <| wp_seq_k fun K hr=>a7 <| bh 2 [0,0] [(1,.U bZ),(4,.U KQ),(36,.q ad af c_.Fields),(37,.i (c_.Fields.length:Int)),(38,.i dV),(44,ak nv.Name)] [KQ,0] (aD (a' (hm.e 0 rfl)) aE) I fun a I=>?_;obtain ⟨AV,azF,h⟩:=J.aQ h;have hc:=hm
       refine bU (vs:=[ak nv.Name]) wn rfl Tryz.call130 ⟨(I.g rfl),trivial⟩ (xB ((hc.into 0).pick trivial) azF) I rfl rfl ?_;rintro _ w ⟨rfl,ai⟩;refine ⟨_,rfl,fun a I=>?_⟩;have hm:=hc.back 0 ai;clear ai hc;refine aM 2 [] [(1,.U bZ),(4,.U KQ),(36,.q ad af c_.Fields),(37,.i (c_.Fields.length:Int)),(38,.i dV),(42,.bool (!AV))] I fun a I=>wpList_nil (hr _ _ ?_);refine bn (I.g rfl) h (fun apM h=>?_) (fun apM h=>?_)
       · refine aG [] [(2,.i 1)] I fun a I=>wp_ret ?_;obtain rfl:=aH h;obtain rfl:=aH x3;refine ba (ba (ao (ao (ba (ao (ao ?_))))));refine bq Tryz.results98 I rfl ?_;exact ⟨rfl,hm.a1 [] []⟩
       refine wp_seq_k fun K gd=>a7 <| bh 2 [0,1] [(1,.U bZ),(36,.q ad af c_.Fields),(37,.i (c_.Fields.length:Int)),(38,.i dV),(49,.agg #[.i nv.Kind.Kind,ak nv.Kind.aR])] [KQ,1] (aD (a' (hm.e 0 rfl)) aE) I fun a I=>?_;obtain ⟨lG,TK,h⟩:=J.aQ h;have hc:=hm;refine bU (vs:=[.agg #[.i nv.Kind.Kind,ak nv.Kind.aR]]) wn rfl Tryz.call131 ⟨(I.g rfl),trivial⟩ (KC ((hc.into 0).pick trivial) TK) I rfl rfl ?_;rintro _ w ⟨rfl,ai⟩;refine ⟨_,rfl,fun a I=>?_⟩;have hm:=hc.back 0 ai;clear ai hc
       refine aM 2 [] [(1,.U bZ),(36,.q ad af c_.Fields),(37,.i (c_.Fields.length:Int)),(38,.i dV),(47,.bool (!lG))] I fun a I=>wpList_nil (gd _ _ ?_);refine bn (I.g rfl) h (fun uy h=>?_) (fun uy h=>?_)
       · refine aG [] [(2,.i 7)] I fun a I=>wp_ret ?_;obtain rfl:=aH h;obtain rfl:=aH x3;refine ba (ba (ao (ao (ba (ao (ao ?_))))));refine bq Tryz.results98 I rfl ?_;exact ⟨rfl,hm.a1 [] []⟩
       refine wp_skip <| gb _ _ <| cn [] [(1,.U bZ),(36,.q ad af c_.Fields),(37,.i (c_.Fields.length:Int)),(38,.i (J.av (dV+ 1)))] I fun a I=>?_;exact dN _ _ ⟨J.av (dV+ 1),I.cut,(hm.l2 [1] rfl rfl),h⟩
     refine wp_exit <| bD (bD (cD ?_));exact dx _ _ ⟨I.cut,hm,(os h)⟩
   rintro a w ⟨I,hm,bf⟩;subst Az;have h:=x3;clear x3;dsimp only [J.ep] at h;refine c6 _ _ <| wp_seq_k fun K gQ=>wp_seq_k fun K gR=>rg [0,3] [(54,.q ar ax c_.az),(55,.i (c_.az.length:Int)),(56,.i 0)] [bZ,3] (aD (a' (hm.e 0 rfl)) aE) I fun a I=>gR _ _ ?_;obtain ⟨Uv,h,R6⟩:=J.eC h;refine cp (fun a w=>Fr ⟨66,[]⟩ [] a/\aw W M0 X w [au.bs bZ 136 [ak c_.Name,ak c_.b0,.q ad af c_.Fields,.q ar ax c_.az]] [aa J.aX ad af c_.Fields,aa J.b8 ar ax c_.az]/\Uv=(.go ())) (fun K hF=>?_) ?_
   · refine cN (fun (dg:Nat) a w=>∃ (fX:Int),Fr ⟨66,[]⟩ [(54,.q ar ax c_.az),(55,.i (c_.az.length:Int)),(56,.i fX)] a/\aw W M0 X w [au.bs bZ 136 [ak c_.Name,ak c_.b0,.q ad af c_.Fields,.q ar ax c_.az]] [aa J.aX ad af c_.Fields,aa J.b8 ar ax c_.az]/\J.yg F c_ dg fX=some Uv) F ⟨0,I.cut,hm,h⟩ ?_ ?_
     · rintro a w ⟨fX,I,hm,h⟩;exact absurd h (by simp [J.yg])
     rintro dg a w ⟨fX,I,hm,h⟩ K iK;rw [J.yg] at h;refine aG [] [(54,.q ar ax c_.az),(55,.i (c_.az.length:Int)),(56,.i fX),(57,.bool (decide (fX <(c_.az.length:Int))))] I fun a I=>wp_seq_k fun K iA=>bn (I.g rfl) h (fun anH h=>?_) (fun anH h=>?_)
     · refine wp_skip <| iA _ _ <| wp_seq_k fun K iB=>wp_block <| wp_seq_k fun K iC=>a7 ?_;obtain ⟨fs,aAF,h⟩:=J.aQ h;obtain ⟨ajQ,auG,_,⟨DQ,EM,wa,xn,rfl,asO,asP⟩,aqn⟩:=b3 _ (hm.d 1 rfl) aAF;have hm:=hm.more (y:=aa J.dB DQ EM fs.bA) asO;have hm:=hm.more (y:=aa J.eG wa xn fs.bp) asP;refine bR wn (bL Tryz.underlying134 Tryz.sizeOf133 rfl (I.g rfl) (I.g rfl) ajQ auG) I rfl rfl fun a I=>?_
       refine bh 1 [0,0] [(54,.q ar ax c_.az),(55,.i (c_.az.length:Int)),(56,.i fX),(59,.agg #[ak fs.Name,.bool fs.Static,.q DQ EM fs.bA,.i fs.Returns.Kind,ak fs.Returns.aR,.i fs.cT,.i fs.cS,ak fs.Code,.q wa xn fs.bp])] [bM ar,bP ar+(fX).toNat* 9] (aD aqn aE) I fun a I=>cZ (cs:=[ak [],.bool false,.slice none 0 0,.i 0,ak [],.i 0,.i 0,ak [],.slice none 0 0]) wn (fc Tryz.zeroValue133 rfl rfl) I hm rfl rfl fun a ai5 w _ I hm=>?_
       refine da (vs:=[ak fs.Name,.bool fs.Static,.q DQ EM fs.bA,.i fs.Returns.Kind,ak fs.Returns.aR,.i fs.cT,.i fs.cS,ak fs.Code,.q wa xn fs.bp]) 0 hm rfl wn rfl Tryz.sizeOf133 rfl rfl rfl rfl (I.g rfl) (I.g rfl) rfl fun w hm=>wpList_nil <| iC _ _ <| wp_seq_k fun K kQ=>a7 ?_
       refine bh 1 [0,0] [(54,.q ar ax c_.az),(55,.i (c_.az.length:Int)),(56,.i fX),(60,.agg #[ak fs.Name,.bool fs.Static,.q DQ EM fs.bA,.i fs.Returns.Kind,ak fs.Returns.aR,.i fs.cT,.i fs.cS,ak fs.Code,.q wa xn fs.bp])] [ai5,0] (aD (a' (hm.e 0 rfl)) aE) I fun a I=>?_;obtain ⟨k8,TM,h⟩:=J.aQ h;have hc:=hm
       refine bU (vs:=[.agg #[ak fs.Name,.bool fs.Static,.q DQ EM fs.bA,.i fs.Returns.Kind,ak fs.Returns.aR,.i fs.cT,.i fs.cS,ak fs.Code,.q wa xn fs.bp]]) wn rfl Tryz.call132 ⟨(I.g rfl),trivial⟩ (aap (m_:=fs) ((hc.into 0).pick ⟨⟨1,rfl⟩,⟨0,rfl⟩,trivial⟩) TM) I rfl rfl ?_;rintro _ w ⟨rfl,ai⟩;refine ⟨_,rfl,fun a I=>?_⟩;have hm:=hc.back 0 ai;clear ai hc
       refine aM 1 [] [(7,.i k8),(54,.q ar ax c_.az),(55,.i (c_.az.length:Int)),(56,.i fX)] I fun a I=>wpList_nil (kQ _ _ ?_);refine aG [] [(7,.i k8),(54,.q ar ax c_.az),(55,.i (c_.az.length:Int)),(56,.i fX),(63,.bool (!decide (k8= 0)))] I fun a I=>bn (I.g rfl) h (fun zY h=>?_) (fun zY h=>?_)
       · refine aG [] [(2,.i k8)] I fun a I=>wp_ret ?_;obtain rfl:=aH h;obtain rfl:=aH R6;refine ba (ao (ao (ba (ao (ao ?_)))));refine bq Tryz.results98 I rfl ?_;exact ⟨rfl,hm.a1 [] []⟩
       refine wp_skip <| iB _ _ <| cn [] [(54,.q ar ax c_.az),(55,.i (c_.az.length:Int)),(56,.i (J.av (fX+ 1)))] I fun a I=>?_;exact iK _ _ ⟨J.av (fX+ 1),I.cut,hm.a1 [1] [2,3],h⟩
     refine wp_exit <| bD (bD (cD ?_));exact hF _ _ ⟨I.cut,hm,(os h)⟩
   rintro a w ⟨I,hm,bf⟩;subst Uv;have h:=R6;clear R6;dsimp only [J.ep] at h;refine gQ _ _ <| aG [] [(2,.i 0)] I fun a I=>wp_ret ?_;obtain rfl:=aH h;refine bq Tryz.results98 I rfl ?_;exact ⟨rfl,hm.a1 [] []⟩
 have h:=J.dy rk h;have I:=I.cd 17 rfl rk;refine aM 7 [1,1,1,1,1,1,1] [(1,.U bZ),(8,.bool false)] I fun a I=>wpList_nil (cw _ _ ?_);refine jD (I.g rfl) rfl <| wp_seq_k fun K kS=>rg [0,2,0,0,0,3,0,0,0] [(1,.U bZ),(24,.bool ((decide (6 <(c_.Fields.length:Int))) || (decide (8 <(c_.az.length:Int)))))] [bZ,3,bZ,2] (aD (a' (hm.e 0 rfl)) aE) I fun a I=>kS _ _ <| bn (I.g rfl) h (fun anR h=>?_) (fun anR h=>?_)
 · refine aG [] [(2,.i 2)] I fun a I=>wp_ret ?_;obtain rfl:=aH h;refine ba (ao ?_);refine bq Tryz.results98 I rfl ?_;exact ⟨rfl,hm.a1 [] []⟩
 refine wp_skip <| bT _ _ <| wp_seq_k fun K ls=>wp_seq_k fun K ov=>rg [0,2] [(1,.U bZ),(36,.q ad af c_.Fields),(37,.i (c_.Fields.length:Int)),(38,.i 0)] [bZ,2] (aD (a' (hm.e 0 rfl)) aE) I fun a I=>ov _ _ ?_;obtain ⟨UN,h,K6⟩:=J.eC h;refine cp (fun a w=>Fr ⟨66,[]⟩ [(1,.U bZ)] a/\aw W M0 X w [au.bs bZ 136 [ak c_.Name,ak c_.b0,.q ad af c_.Fields,.q ar ax c_.az]] [aa J.aX ad af c_.Fields,aa J.b8 ar ax c_.az]/\UN=(.go ())) (fun K pn=>?_) ?_
 · refine cN (fun (eQ:Nat) a w=>∃ (lV:Int),Fr ⟨66,[]⟩ [(1,.U bZ),(36,.q ad af c_.Fields),(37,.i (c_.Fields.length:Int)),(38,.i lV)] a/\aw W M0 X w [au.bs bZ 136 [ak c_.Name,ak c_.b0,.q ad af c_.Fields,.q ar ax c_.az]] [aa J.aX ad af c_.Fields,aa J.b8 ar ax c_.az]/\J.yh F c_ eQ lV=some UN) F ⟨0,I.cut,hm,h⟩ ?_ ?_
   · rintro a w ⟨lV,I,hm,h⟩;exact absurd h (by simp [J.yh])
   rintro eQ a w ⟨lV,I,hm,h⟩ K mZ;rw [J.yh] at h;refine aG [] [(1,.U bZ),(36,.q ad af c_.Fields),(37,.i (c_.Fields.length:Int)),(38,.i lV),(39,.bool (decide (lV <(c_.Fields.length:Int))))] I fun a I=>wp_seq_k fun K m0=>bn (I.g rfl) h (fun an2 h=>?_) (fun an2 h=>?_)
   · refine wp_skip <| m0 _ _ <| wp_seq_k fun K nF=>wp_block <| wp_seq_k fun K rf=>a7 ?_;obtain ⟨nt,aAX,h⟩:=J.aQ h;obtain ⟨aj_,au0,_,rfl,aqF⟩:=b3 _ (hm.d 0 rfl) aAX;refine bR wn (bL Tryz.underlying106 Tryz.sizeOf105 rfl (I.g rfl) (I.g rfl) aj_ au0) I rfl rfl fun a I=>bh 1 [0,0] [(1,.U bZ),(36,.q ad af c_.Fields),(37,.i (c_.Fields.length:Int)),(38,.i lV),(41,.agg #[ak nt.Name,.i nt.Kind.Kind,ak nt.Kind.aR])] [bM ad,bP ad+(lV).toNat* 3] (aD aqF aE) I fun a I=>cZ (cs:=[ak [],.i 0,ak []]) wn (fc Tryz.zeroValue105 rfl rfl) I hm rfl rfl ?_
     intro a KP w ah I hm;clear ah;refine da (vs:=[ak nt.Name,.i nt.Kind.Kind,ak nt.Kind.aR]) 0 hm rfl wn rfl Tryz.sizeOf105 rfl rfl rfl rfl (I.g rfl) (I.g rfl) rfl fun w hm=>wpList_nil <| rf _ _ <| wp_block <| wp_seq_k fun K zQ=>a7 <| bh 2 [0,0] [(1,.U bZ),(4,.U KP),(36,.q ad af c_.Fields),(37,.i (c_.Fields.length:Int)),(38,.i lV),(44,ak nt.Name)] [KP,0] (aD (a' (hm.e 0 rfl)) aE) I fun a I=>?_;obtain ⟨WG,ayy,h⟩:=J.aQ h;have hc:=hm
     refine bU (vs:=[ak nt.Name]) wn rfl Tryz.call130 ⟨(I.g rfl),trivial⟩ (xB ((hc.into 0).pick trivial) ayy) I rfl rfl ?_;rintro _ w ⟨rfl,ai⟩;refine ⟨_,rfl,fun a I=>?_⟩;have hm:=hc.back 0 ai;clear ai hc;refine aM 2 [] [(1,.U bZ),(4,.U KP),(36,.q ad af c_.Fields),(37,.i (c_.Fields.length:Int)),(38,.i lV),(42,.bool (!WG))] I fun a I=>wpList_nil (zQ _ _ ?_);refine bn (I.g rfl) h (fun Q7 h=>?_) (fun Q7 h=>?_)
     · refine aG [] [(2,.i 1)] I fun a I=>wp_ret ?_;obtain rfl:=aH h;obtain rfl:=aH K6;refine ba (ba (ao (ao (ba (ao (ao ?_))))));refine bq Tryz.results98 I rfl ?_;exact ⟨rfl,hm.a1 [] []⟩
     refine wp_seq_k fun K um=>a7 <| bh 2 [0,1] [(1,.U bZ),(36,.q ad af c_.Fields),(37,.i (c_.Fields.length:Int)),(38,.i lV),(49,.agg #[.i nt.Kind.Kind,ak nt.Kind.aR])] [KP,1] (aD (a' (hm.e 0 rfl)) aE) I fun a I=>?_;obtain ⟨WH,ayz,h⟩:=J.aQ h;have hc:=hm;refine bU (vs:=[.agg #[.i nt.Kind.Kind,ak nt.Kind.aR]]) wn rfl Tryz.call131 ⟨(I.g rfl),trivial⟩ (KC ((hc.into 0).pick trivial) ayz) I rfl rfl ?_;rintro _ w ⟨rfl,ai⟩;refine ⟨_,rfl,fun a I=>?_⟩;have hm:=hc.back 0 ai;clear ai hc
     refine aM 2 [] [(1,.U bZ),(36,.q ad af c_.Fields),(37,.i (c_.Fields.length:Int)),(38,.i lV),(47,.bool (!WH))] I fun a I=>wpList_nil (um _ _ ?_);refine bn (I.g rfl) h (fun Q8 h=>?_) (fun Q8 h=>?_)
     · refine aG [] [(2,.i 7)] I fun a I=>wp_ret ?_;obtain rfl:=aH h;obtain rfl:=aH K6;refine ba (ba (ao (ao (ba (ao (ao ?_))))));refine bq Tryz.results98 I rfl ?_;exact ⟨rfl,hm.a1 [] []⟩
     refine wp_skip <| nF _ _ <| cn [] [(1,.U bZ),(36,.q ad af c_.Fields),(37,.i (c_.Fields.length:Int)),(38,.i (J.av (lV+ 1)))] I fun a I=>?_;exact mZ _ _ ⟨J.av (lV+ 1),I.cut,(hm.l2 [1] rfl rfl),h⟩
   refine wp_exit <| bD (bD (cD ?_));exact pn _ _ ⟨I.cut,hm,(os h)⟩
 rintro a w ⟨I,hm,bf⟩;subst UN;have h:=K6;clear K6;dsimp only [J.ep] at h;refine ls _ _ <| wp_seq_k fun K pq=>wp_seq_k fun K pr=>rg [0,3] [(54,.q ar ax c_.az),(55,.i (c_.az.length:Int)),(56,.i 0)] [bZ,3] (aD (a' (hm.e 0 rfl)) aE) I fun a I=>pr _ _ ?_;obtain ⟨U1,h,Sw⟩:=J.eC h;refine cp (fun a w=>Fr ⟨66,[]⟩ [] a/\aw W M0 X w [au.bs bZ 136 [ak c_.Name,ak c_.b0,.q ad af c_.Fields,.q ar ax c_.az]] [aa J.aX ad af c_.Fields,aa J.b8 ar ax c_.az]/\U1=(.go ())) (fun K nH=>?_) ?_
 · refine cN (fun (gk:Nat) a w=>∃ (mv:Int),Fr ⟨66,[]⟩ [(54,.q ar ax c_.az),(55,.i (c_.az.length:Int)),(56,.i mv)] a/\aw W M0 X w [au.bs bZ 136 [ak c_.Name,ak c_.b0,.q ad af c_.Fields,.q ar ax c_.az]] [aa J.aX ad af c_.Fields,aa J.b8 ar ax c_.az]/\J.yi F c_ gk mv=some U1) F ⟨0,I.cut,hm,h⟩ ?_ ?_
   · rintro a w ⟨mv,I,hm,h⟩;exact absurd h (by simp [J.yi])
   rintro gk a w ⟨mv,I,hm,h⟩ K sF;rw [J.yi] at h;refine aG [] [(54,.q ar ax c_.az),(55,.i (c_.az.length:Int)),(56,.i mv),(57,.bool (decide (mv <(c_.az.length:Int))))] I fun a I=>wp_seq_k fun K uq=>bn (I.g rfl) h (fun aom h=>?_) (fun aom h=>?_)
   · refine wp_skip <| uq _ _ <| wp_seq_k fun K p9=>wp_block <| wp_seq_k fun K ur=>a7 ?_;obtain ⟨ft,aBe,h⟩:=J.aQ h;obtain ⟨aks,avi,_,⟨D0,EW,D1,EX,rfl,as6,as7⟩,aq0⟩:=b3 _ (hm.d 1 rfl) aBe;have hm:=hm.more (y:=aa J.dB D0 EW ft.bA) as6;have hm:=hm.more (y:=aa J.eG D1 EX ft.bp) as7;refine bR wn (bL Tryz.underlying134 Tryz.sizeOf133 rfl (I.g rfl) (I.g rfl) aks avi) I rfl rfl fun a I=>?_
     refine bh 1 [0,0] [(54,.q ar ax c_.az),(55,.i (c_.az.length:Int)),(56,.i mv),(59,.agg #[ak ft.Name,.bool ft.Static,.q D0 EW ft.bA,.i ft.Returns.Kind,ak ft.Returns.aR,.i ft.cT,.i ft.cS,ak ft.Code,.q D1 EX ft.bp])] [bM ar,bP ar+(mv).toNat* 9] (aD aq0 aE) I fun a I=>cZ (cs:=[ak [],.bool false,.slice none 0 0,.i 0,ak [],.i 0,.i 0,ak [],.slice none 0 0]) wn (fc Tryz.zeroValue133 rfl rfl) I hm rfl rfl fun a ai6 w _ I hm=>?_
     refine da (vs:=[ak ft.Name,.bool ft.Static,.q D0 EW ft.bA,.i ft.Returns.Kind,ak ft.Returns.aR,.i ft.cT,.i ft.cS,ak ft.Code,.q D1 EX ft.bp]) 0 hm rfl wn rfl Tryz.sizeOf133 rfl rfl rfl rfl (I.g rfl) (I.g rfl) rfl fun w hm=>wpList_nil <| ur _ _ <| wp_seq_k fun K sG=>a7 ?_
     refine bh 1 [0,0] [(54,.q ar ax c_.az),(55,.i (c_.az.length:Int)),(56,.i mv),(60,.agg #[ak ft.Name,.bool ft.Static,.q D0 EW ft.bA,.i ft.Returns.Kind,ak ft.Returns.aR,.i ft.cT,.i ft.cS,ak ft.Code,.q D1 EX ft.bp])] [ai6,0] (aD (a' (hm.e 0 rfl)) aE) I fun a I=>?_;obtain ⟨AO,ayO,h⟩:=J.aQ h;have hc:=hm
     refine bU (vs:=[.agg #[ak ft.Name,.bool ft.Static,.q D0 EW ft.bA,.i ft.Returns.Kind,ak ft.Returns.aR,.i ft.cT,.i ft.cS,ak ft.Code,.q D1 EX ft.bp]]) wn rfl Tryz.call132 ⟨(I.g rfl),trivial⟩ (aap (m_:=ft) ((hc.into 0).pick ⟨⟨1,rfl⟩,⟨0,rfl⟩,trivial⟩) ayO) I rfl rfl ?_;rintro _ w ⟨rfl,ai⟩;refine ⟨_,rfl,fun a I=>?_⟩;have hm:=hc.back 0 ai;clear ai hc
     refine aM 1 [] [(7,.i AO),(54,.q ar ax c_.az),(55,.i (c_.az.length:Int)),(56,.i mv)] I fun a I=>wpList_nil (sG _ _ ?_);refine aG [] [(7,.i AO),(54,.q ar ax c_.az),(55,.i (c_.az.length:Int)),(56,.i mv),(63,.bool (!decide (AO= 0)))] I fun a I=>bn (I.g rfl) h (fun aor h=>?_) (fun aor h=>?_)
     · refine aG [] [(2,.i AO)] I fun a I=>wp_ret ?_;obtain rfl:=aH h;obtain rfl:=aH Sw;refine ba (ao (ao (ba (ao (ao ?_)))));refine bq Tryz.results98 I rfl ?_;exact ⟨rfl,hm.a1 [] []⟩
     refine wp_skip <| p9 _ _ <| cn [] [(54,.q ar ax c_.az),(55,.i (c_.az.length:Int)),(56,.i (J.av (mv+ 1)))] I fun a I=>?_;exact sF _ _ ⟨J.av (mv+ 1),I.cut,hm.a1 [1] [2,3],h⟩
   refine wp_exit <| bD (bD (cD ?_));exact nH _ _ ⟨I.cut,hm,(os h)⟩
 rintro a w ⟨I,hm,bf⟩;subst U1;have h:=Sw;clear Sw;dsimp only [J.ep] at h;refine pq _ _ <| aG [] [(2,.i 0)] I fun a I=>wp_ret ?_;obtain rfl:=aH h;refine bq Tryz.results98 I rfl ?_;exact ⟨rfl,hm.a1 [] []⟩
theorem ahw {W:World} {X:List Nat} {F:Nat} {aj:List J.aR} {r:Int} {ad:aU} {af:Nat} {M0:List Nat} (hm:aw W M0 X W [] [aa J.bd ad af aj]) (h:J.Ho F aj=some r) :
 Calls Tryz.prog 73 [.q ad af aj].toArray W (fun e aJ=>e= .returned (.i r)/\aw W M0 X aJ [] []):=by
 refine enter Tryz.func73 rfl Tryz.ntmps73 rfl fun a I=>?_;rw [J.Ho] at h;refine aG [] [(0,.q ad af aj)] I fun a I=>wp_seq_k fun K bT=>aG [] [(0,.q ad af aj),(8,.bool (decide (10 <(aj.length:Int))))] I fun a I=>bn (I.g rfl) h (fun mh h=>?_) (fun mh h=>?_)
 · refine aG [] [(2,.i 2)] I fun a I=>wp_ret ?_;obtain rfl:=aH h;refine ao <| bq Tryz.results73 I rfl ?_;exact ⟨rfl,hm.a1 [] []⟩
 refine wp_skip <| bT _ _ <| wp_seq_k fun K cG=>aG [] [(9,.q ad af aj),(10,.i (aj.length:Int)),(11,.i 0)] I fun a I=>?_;obtain ⟨ry,h,rp⟩:=J.eC h;refine cp (fun a w=>Fr ⟨21,[]⟩ [] a/\aw W M0 X w [] [aa J.bd ad af aj]/\ry=(.go ())) (fun K dH=>?_) ?_
 · refine cN (fun (bz:Nat) a w=>∃ (mA:Int),Fr ⟨21,[]⟩ [(9,.q ad af aj),(10,.i (aj.length:Int)),(11,.i mA)] a/\aw W M0 X w [] [aa J.bd ad af aj]/\J.yd F aj bz mA=some ry) F ⟨0,I.cut,hm,h⟩ ?_ ?_
   · rintro a w ⟨mA,I,hm,h⟩;exact absurd h (by simp [J.yd])
   rintro bz a w ⟨mA,I,hm,h⟩ K c6;rw [J.yd] at h;refine aG [] [(9,.q ad af aj),(10,.i (aj.length:Int)),(11,.i mA),(12,.bool (decide (mA <(aj.length:Int))))] I fun a I=>wp_seq_k fun K dx=>bn (I.g rfl) h (fun nJ h=>?_) (fun nJ h=>?_)
   · refine wp_skip <| dx _ _ <| wp_seq_k fun K dN=>wp_block <| wp_seq_k fun K ew=>a7 ?_;obtain ⟨j7,aCA,h⟩:=J.aQ h;obtain ⟨alW,awK,_,⟨mI,mQ,qQ,q5,rfl,asA,asB⟩,ast⟩:=b3 _ (hm.d 0 rfl) aCA;have hm:=hm.more (y:=aa J.aX mI mQ j7.Fields) asA;have hm:=hm.more (y:=aa J.b8 qQ q5 j7.az) asB;refine bR wn (bL Tryz.underlying25 Tryz.sizeOf136 rfl (I.g rfl) (I.g rfl) alW awK) I rfl rfl fun a I=>?_
     refine bh 1 [0,0] [(9,.q ad af aj),(10,.i (aj.length:Int)),(11,.i mA),(14,.agg #[ak j7.Name,ak j7.b0,.q mI mQ j7.Fields,.q qQ q5 j7.az])] [bM ad,bP ad+(mA).toNat* 4] (aD ast aE) I fun a I=>cZ (cs:=[ak [],ak [],.slice none 0 0,.slice none 0 0]) wn (fc Tryz.zeroValue136 rfl rfl) I hm rfl rfl fun a ai1 w _ I hm=>da (vs:=[ak j7.Name,ak j7.b0,.q mI mQ j7.Fields,.q qQ q5 j7.az]) 0 hm rfl wn rfl Tryz.sizeOf136 rfl rfl rfl rfl (I.g rfl) (I.g rfl) rfl fun w hm=>wpList_nil <| ew _ _ ?_
     refine wp_seq_k fun K ej=>a7 <| bh 1 [0,0] [(9,.q ad af aj),(10,.i (aj.length:Int)),(11,.i mA),(15,.agg #[ak j7.Name,ak j7.b0,.q mI mQ j7.Fields,.q qQ q5 j7.az])] [ai1,0] (aD (a' (hm.e 0 rfl)) aE) I fun a I=>?_;obtain ⟨AM,axX,h⟩:=J.aQ h;have hc:=hm;refine bU (vs:=[.agg #[ak j7.Name,ak j7.b0,.q mI mQ j7.Fields,.q qQ q5 j7.az]]) wn rfl Tryz.call98 ⟨(I.g rfl),trivial⟩ (ahx ((hc.into 0).pick ⟨⟨1,rfl⟩,⟨0,rfl⟩,trivial⟩) axX) I rfl rfl ?_;rintro _ w ⟨rfl,ai⟩;refine ⟨_,rfl,fun a I=>?_⟩;have ah:bg [] _ w:=ai.ev;have hm:=hc.back 0 ai
     clear ai hc;clear ah;refine aM 1 [] [(5,.i AM),(9,.q ad af aj),(10,.i (aj.length:Int)),(11,.i mA)] I fun a I=>wpList_nil (ej _ _ ?_);refine aG [] [(5,.i AM),(9,.q ad af aj),(10,.i (aj.length:Int)),(11,.i mA),(18,.bool (!decide (AM= 0)))] I fun a I=>bn (I.g rfl) h (fun am2 h=>?_) (fun am2 h=>?_)
     · refine aG [] [(2,.i AM)] I fun a I=>wp_ret ?_;obtain rfl:=aH h;obtain rfl:=aH rp;refine ba (ao (ao (ba (ao (ao ?_)))));refine bq Tryz.results73 I rfl ?_;exact ⟨rfl,hm.a1 [] []⟩
     refine wp_skip <| dN _ _ <| cn [] [(9,.q ad af aj),(10,.i (aj.length:Int)),(11,.i (J.av (mA+ 1)))] I fun a I=>?_;exact c6 _ _ ⟨J.av (mA+ 1),I.cut,hm.a1 [] [2],h⟩
   refine wp_exit <| bD (bD (cD ?_));exact dH _ _ ⟨I.cut,hm,(os h)⟩
 rintro a w ⟨I,hm,bf⟩;subst ry;have h:=rp;clear rp;dsimp only [J.ep] at h;refine cG _ _ <| aG [] [(2,.i 0)] I fun a I=>wp_ret ?_;obtain rfl:=aH h;refine bq Tryz.results73 I rfl ?_;exact ⟨rfl,hm.a1 [] []⟩
theorem aad {W:World} {X:List Nat} {F:Nat} {m_:J.Method} {r:Int} {ad:aU} {af:Nat} {ar:aU} {ax:Nat} {M0:List Nat} (hm:aw W M0 X W [] [aa J.dB ad af m_.bA,aa J.eG ar ax m_.bp]) (h:J.zk F m_=some r) :
 Calls Tryz.prog 148 [.agg #[ak m_.Name,.bool m_.Static,.q ad af m_.bA,.i m_.Returns.Kind,ak m_.Returns.aR,.i m_.cT,.i m_.cS,ak m_.Code,.q ar ax m_.bp]].toArray W (fun e aJ=>e= .returned (.i r)/\aw W M0 X aJ [] []):=by
 refine enter Tryz.func148 rfl Tryz.ntmps148 rfl fun a I=>?_;rw [J.zk] at h;refine wp_seq_k fun K dq=>a7 <| cZ (cs:=[ak m_.Name,.bool m_.Static,.q ad af m_.bA,.i m_.Returns.Kind,ak m_.Returns.aR,.i m_.cT,.i m_.cS,ak m_.Code,.q ar ax m_.bp]) wn (eV rfl rfl (I.g rfl)) I hm rfl rfl fun a bZ w _ I hm=>aM 1 [] [(1,.U bZ)] I fun a I=>wpList_nil (dq _ _ ?_);refine wp_seq_k fun K bT=>wp_seq_k fun K cw=>a7 <| bh 2 [0,0] [(1,.U bZ),(7,ak m_.Name)] [bZ,0] (aD (a' (hm.e 0 rfl)) aE) I fun a I=>?_
 obtain ⟨dp,uP,h⟩:=J.aQ h;have hc:=hm;refine bU (vs:=[ak m_.Name]) wn rfl Tryz.call146 ⟨(I.g rfl),trivial⟩ (zF ((hc.into 0).pick trivial) uP) I rfl rfl ?_;rintro _ w ⟨rfl,ai⟩;refine ⟨_,rfl,fun a I=>?_⟩;have hm:=hc.back 0 ai;clear ai hc;refine aM 1 [] [(1,.U bZ),(9,.bool (!dp))] I fun a I=>wpList_nil (cw _ _ ?_);refine bn (I.g rfl) h (fun mi h=>?_) (fun mi h=>?_)
 · refine aG [] [(2,.i 1)] I fun a I=>wp_ret ?_;obtain rfl:=aH h;refine ao <| bq Tryz.results148 I rfl ?_;exact ⟨rfl,hm.a1 [] []⟩
 refine wp_skip <| bT _ _ <| wp_seq_k fun K cG=>wp_seq_k fun K eb=>rg [0,2,0,0,0,7,0,0,0,0,0,0,8,0,0,0] [(1,.U bZ),(25,.bool (((decide (4 <(m_.bA.length:Int))) || (decide (200 <(m_.Code.length:Int)))) || (decide (4 <(m_.bp.length:Int)))))] [bZ,8,bZ,7,bZ,2] (aD (a' (hm.e 0 rfl)) aE) I fun a I=>eb _ _ <| bn (I.g rfl) h (fun rk h=>?_) (fun rk h=>?_)
 · refine aG [] [(2,.i 2)] I fun a I=>wp_ret ?_;obtain rfl:=aH h;refine ao <| bq Tryz.results148 I rfl ?_;exact ⟨rfl,hm.a1 [] []⟩
 refine wp_skip <| cG _ _ <| wp_seq_k fun K c6=>wp_seq_k fun K dE=>a7 <| bh 2 [0,5] [(1,.U bZ),(27,.i m_.cT)] [bZ,5] (aD (a' (hm.e 0 rfl)) aE) I fun a I=>?_;obtain ⟨im,Am,h⟩:=J.aQ h;have hc:=hm;refine bU (vs:=[.i m_.cT,.i 0,.i 10]) wn rfl Tryz.call41 ⟨(I.g rfl),(c' _ _),(c' _ _),trivial⟩ (pf ((hc.into 0).pick trivial) Am) I rfl rfl ?_;rintro _ w ⟨rfl,ai⟩;refine ⟨_,rfl,fun a I=>?_⟩;have hm:=hc.back 0 ai;clear ai hc
 refine aM 2 [] [(1,.U bZ),(30,.bool (!im))] I fun a I=>?_;rcases Bool.eq_false_or_eq_true (!im) with ht | ht
 · have h:=J.dz ht h;have I:=I.cd 30 rfl ht;refine aM 5 [1,1,1,1,1] [(1,.U bZ),(35,.bool true)] I fun a I=>wpList_nil (dE _ _ ?_);refine eZ (I.g rfl) rfl <| aG [] [(2,.i 3)] I fun a I=>wp_ret ?_;obtain rfl:=aH h;refine ao <| bq Tryz.results148 I rfl ?_;exact ⟨rfl,hm.a1 [] []⟩
 have h:=J.dy ht h;have I:=I.cd 30 rfl ht;refine bh 2 [1,1,0,6] [(1,.U bZ),(30,.bool false),(32,.i m_.cS)] [bZ,6] (aD (a' (hm.e 0 rfl)) aE) I fun a I=>?_;obtain ⟨np,An,h⟩:=J.aQ h;have hc:=hm;refine bU (vs:=[.i m_.cS,.i 0,.i 10]) (db I rfl rfl rfl rfl) rfl Tryz.call41 ⟨(I.g rfl),(c' _ _),(c' _ _),trivial⟩ (pf ((hc.into 0).pick trivial) An) I rfl rfl ?_;rintro _ w ⟨rfl,ai⟩;refine ⟨_,rfl,fun a I=>?_⟩;have hm:=hc.back 0 ai;clear ai hc
 refine aM 2 [1,1] [(1,.U bZ),(35,.bool (!np))] I fun a I=>wpList_nil (dE _ _ ?_);refine bn (I.g rfl) h (fun kt h=>?_) (fun kt h=>?_)
 · refine aG [] [(2,.i 3)] I fun a I=>wp_ret ?_;obtain rfl:=aH h;refine ao <| bq Tryz.results148 I rfl ?_;exact ⟨rfl,hm.a1 [] []⟩
 refine wp_skip <| c6 _ _ <| wp_seq_k fun K ew=>aG [] [(1,.U bZ),(3,.i 0)] I fun a I=>?_;obtain ⟨Vf,h,SP⟩:=J.eC h;refine cp (fun a w=>Fr ⟨98,[]⟩ [(1,.U bZ)] a/\aw W M0 X w [au.bs bZ 133 [ak m_.Name,.bool m_.Static,.q ad af m_.bA,.i m_.Returns.Kind,ak m_.Returns.aR,.i m_.cT,.i m_.cS,ak m_.Code,.q ar ax m_.bp]] [aa J.dB ad af m_.bA,aa J.eG ar ax m_.bp]/\Vf=(.go ())) (fun K gb=>?_) ?_
 · refine cN (fun (bz:Nat) a w=>∃ (my:Int),Fr ⟨98,[]⟩ [(1,.U bZ),(3,.i my)] a/\aw W M0 X w [au.bs bZ 133 [ak m_.Name,.bool m_.Static,.q ad af m_.bA,.i m_.Returns.Kind,ak m_.Returns.aR,.i m_.cT,.i m_.cS,ak m_.Code,.q ar ax m_.bp]] [aa J.dB ad af m_.bA,aa J.eG ar ax m_.bp]/\J.wV F m_ bz my=some Vf) F ⟨0,I.cut,hm,h⟩ ?_ ?_
   · rintro a w ⟨my,I,hm,h⟩;exact absurd h (by simp [J.wV])
   rintro bz a w ⟨my,I,hm,h⟩ K fH;rw [J.wV] at h;refine wp_seq_k fun K hr=>wp_seq_k fun K hO=>rg [0,2] [(1,.U bZ),(3,.i my),(40,.bool (decide (my <(m_.bA.length:Int))))] [bZ,2] (aD (a' (hm.e 0 rfl)) aE) I fun a I=>hO _ _ <| bn (I.g rfl) h (fun apt h=>?_) (fun apt h=>?_)
   · refine wp_skip <| hr _ _ <| wp_seq_k fun K gd=>wp_block <| wp_seq_k fun K gF=>a7 <| bh 3 [0,2] [(1,.U bZ),(3,.i my),(44,.q ad af m_.bA),(45,.i my)] [bZ,2] (aD (a' (hm.e 0 rfl)) aE) I fun a I=>?_;obtain ⟨Dx,aCf,h⟩:=J.aQ h;obtain ⟨aly,awm,_,rfl,ar6⟩:=b3 _ (hm.d 0 rfl) aCf;refine bR wn (bL Tryz.underlying130 Tryz.sizeOf103 rfl (I.g rfl) (I.g rfl) aly awm) I rfl rfl fun a I=>bh 1 [0,0] [(1,.U bZ),(3,.i my),(47,.agg #[.i Dx.Kind,ak Dx.aR])] [bM ad,bP ad+(my).toNat* 2] (aD ar6 aE) I fun a I=>?_;obtain ⟨W_,azv,h⟩:=J.aQ h
     have hc:=hm;refine bU (vs:=[.agg #[.i Dx.Kind,ak Dx.aR]]) wn rfl Tryz.call147 ⟨(I.g rfl),trivial⟩ (Ky ((hc.into 0).pick trivial) azv) I rfl rfl ?_;rintro _ w ⟨rfl,ai⟩;refine ⟨_,rfl,fun a I=>?_⟩;have hm:=hc.back 0 ai;clear ai hc;refine aM 1 [] [(1,.U bZ),(3,.i my),(49,.bool (!W_))] I fun a I=>wpList_nil (gF _ _ ?_);refine bn (I.g rfl) h (fun Ra h=>?_) (fun Ra h=>?_)
     · refine aG [] [(2,.i 7)] I fun a I=>wp_ret ?_;obtain rfl:=aH h;obtain rfl:=aH SP;refine ba (ao (ao (ba (ao (ao ?_)))));refine bq Tryz.results148 I rfl ?_;exact ⟨rfl,hm.a1 [] []⟩
     refine wp_skip <| gd _ _ <| cn [] [(1,.U bZ),(3,.i (J.av (my+ 1)))] I fun a I=>?_;exact fH _ _ ⟨J.av (my+ 1),I.cut,hm,h⟩
   refine wp_exit <| bD (bD (cD ?_));exact gb _ _ ⟨I.cut,hm,(os h)⟩
 rintro a w ⟨I,hm,bf⟩;subst Vf;have h:=SP;clear SP;dsimp only [J.ep] at h;refine ew _ _ <| wp_seq_k fun K gR=>wp_seq_k fun K hF=>a7 <| bh 2 [0,3] [(1,.U bZ),(51,.agg #[.i m_.Returns.Kind,ak m_.Returns.aR])] [bZ,3] (aD (a' (hm.e 0 rfl)) aE) I fun a I=>?_;obtain ⟨n4,TZ,h⟩:=J.aQ h;have hc:=hm;refine bU (vs:=[.agg #[.i m_.Returns.Kind,ak m_.Returns.aR]]) wn rfl Tryz.call147 ⟨(I.g rfl),trivial⟩ (Ky ((hc.into 0).pick trivial) TZ) I rfl rfl ?_;rintro _ w ⟨rfl,ai⟩;refine ⟨_,rfl,fun a I=>?_⟩;have ah:bg [] _ w:=ai.ev;have hm:=hc.back 0 ai
 clear ai hc;clear ah;refine bh 13 [0,0,0,0,3,0,0,0,0,0,0,4,0,0,0,0] [(1,.U bZ),(65,.bool ((!n4) && ((!decide (m_.Returns.Kind= 0)) || (!decide (m_.Returns.aR= [])))))] [bZ,4,bZ,3] (aD (a' (hm.e 0 rfl)) aE) I fun a I=>wpList_nil (hF _ _ ?_);refine bn (I.g rfl) h (fun apC h=>?_) (fun apC h=>?_)
 · refine aG [] [(2,.i 7)] I fun a I=>wp_ret ?_;obtain rfl:=aH h;refine ao <| bq Tryz.results148 I rfl ?_;exact ⟨rfl,hm.a1 [] []⟩
 refine wp_skip <| gR _ _ <| wp_seq_k fun K jn=>aG [] [(1,.U bZ),(4,.i 0)] I fun a I=>?_;obtain ⟨Ut,h,Cz⟩:=J.eC h;refine cp (fun a w=>Fr ⟨98,[]⟩ [] a/\aw W M0 X w [au.bs bZ 133 [ak m_.Name,.bool m_.Static,.q ad af m_.bA,.i m_.Returns.Kind,ak m_.Returns.aR,.i m_.cT,.i m_.cS,ak m_.Code,.q ar ax m_.bp]] [aa J.dB ad af m_.bA,aa J.eG ar ax m_.bp]/\Ut=(.go ())) (fun K iB=>?_) ?_
 · refine cN (fun (dg:Nat) a w=>∃ (ja:Int),Fr ⟨98,[]⟩ [(1,.U bZ),(4,.i ja)] a/\aw W M0 X w [au.bs bZ 133 [ak m_.Name,.bool m_.Static,.q ad af m_.bA,.i m_.Returns.Kind,ak m_.Returns.aR,.i m_.cT,.i m_.cS,ak m_.Code,.q ar ax m_.bp]] [aa J.dB ad af m_.bA,aa J.eG ar ax m_.bp]/\J.wW F m_ dg ja=some Ut) F ⟨0,I.cut,hm,h⟩ ?_ ?_
   · rintro a w ⟨ja,I,hm,h⟩;exact absurd h (by simp [J.wW])
   rintro dg a w ⟨ja,I,hm,h⟩ K iC;rw [J.wW] at h;refine wp_seq_k fun K kQ=>wp_seq_k fun K kr=>rg [0,8] [(1,.U bZ),(4,.i ja),(70,.bool (decide (ja <(m_.bp.length:Int))))] [bZ,8] (aD (a' (hm.e 0 rfl)) aE) I fun a I=>kr _ _ <| bn (I.g rfl) h (fun anE h=>?_) (fun anE h=>?_)
   · refine wp_skip <| kQ _ _ <| wp_seq_k fun K nE=>wp_block <| wp_seq_k fun K kR=>a7 <| bh 3 [0,8] [(1,.U bZ),(4,.i ja),(74,.q ar ax m_.bp),(75,.i ja)] [bZ,8] (aD (a' (hm.e 0 rfl)) aE) I fun a I=>?_;obtain ⟨kB,aAE,h⟩:=J.aQ h;obtain ⟨ajP,auF,_,rfl,aql⟩:=b3 _ (hm.d 1 rfl) aAE;refine bR wn (bL Tryz.underlying131 Tryz.sizeOf150 rfl (I.g rfl) (I.g rfl) ajP auF) I rfl rfl fun a I=>?_
     refine bh 1 [0,0] [(1,.U bZ),(4,.i ja),(77,.agg #[.i kB.From,.i kB.To,.i kB.hB,ak kB.aR])] [bM ar,bP ar+(ja).toNat* 4] (aD aql aE) I fun a I=>cZ (cs:=[.i 0,.i 0,.i 0,ak []]) wn (fc Tryz.zeroValue150 rfl rfl) I hm rfl rfl fun a sA w _ I hm=>da (vs:=[.i kB.From,.i kB.To,.i kB.hB,ak kB.aR]) 0 hm rfl wn rfl Tryz.sizeOf150 rfl rfl rfl rfl (I.g rfl) (I.g rfl) rfl fun w hm=>wpList_nil <| kR _ _ <| wp_seq_k fun K kS=>wp_seq_k fun K lr=>a7 ?_
     refine bh 2 [0,3] [(1,.U bZ),(4,.i ja),(5,.U sA),(79,ak kB.aR)] [sA,3] (aD (a' (hm.e 0 rfl)) aE) I fun a I=>?_;obtain ⟨WA,ayk,h⟩:=J.aQ h;have hc:=hm;refine bU (vs:=[ak kB.aR]) wn rfl Tryz.call146 ⟨(I.g rfl),trivial⟩ (zF ((hc.into 0).pick trivial) ayk) I rfl rfl ?_;rintro _ w ⟨rfl,ai⟩;refine ⟨_,rfl,fun a I=>?_⟩;have hm:=hc.back 0 ai;clear ai hc;refine aM 1 [] [(1,.U bZ),(4,.i ja),(5,.U sA),(81,.bool (!WA))] I fun a I=>wpList_nil (lr _ _ ?_)
     refine bn (I.g rfl) h (fun anM h=>?_) (fun anM h=>?_)
     · refine aG [] [(2,.i 1)] I fun a I=>wp_ret ?_;obtain rfl:=aH h;obtain rfl:=aH Cz;refine ao (ba (ao (ao (ba (ao (ao ?_))))));refine bq Tryz.results148 I rfl ?_;exact ⟨rfl,hm.a1 [] []⟩
     refine wp_skip <| kS _ _ <| wp_seq_k fun K ov=>a7 <| bh 2 [0,0] [(1,.U bZ),(4,.i ja),(5,.U sA),(83,.i kB.From)] [sA,0] (aD (a' (hm.e 0 rfl)) aE) I fun a I=>?_;obtain ⟨Ma,aym,h⟩:=J.aQ h;have hc:=hm;refine bU (vs:=[.i kB.From,.i 0,.i 200]) wn rfl Tryz.call41 ⟨(I.g rfl),(c' _ _),(c' _ _),trivial⟩ (pf ((hc.into 0).pick trivial) aym) I rfl rfl ?_;rintro _ w ⟨rfl,ai⟩;refine ⟨_,rfl,fun a I=>?_⟩;have hm:=hc.back 0 ai;clear ai hc
     refine aM 2 [] [(1,.U bZ),(4,.i ja),(5,.U sA),(86,.bool (!Ma))] I fun a I=>?_;rcases Bool.eq_false_or_eq_true (!Ma) with FV | FV
     · have h:=J.dz FV h;have I:=I.cd 86 rfl FV;refine aM 11 [1,1,1,1,1,1,1,1,1,1] [(1,.U bZ),(4,.i ja),(97,.bool true)] I fun a I=>wpList_nil (ov _ _ ?_);refine eZ (I.g rfl) rfl <| aG [] [(2,.i 3)] I fun a I=>wp_ret ?_;obtain rfl:=aH h;obtain rfl:=aH Cz;refine ba (ao (ao (ba (ao (ao ?_)))));refine bq Tryz.results148 I rfl ?_;exact ⟨rfl,hm.a1 [] []⟩
     have h:=J.dy FV h;have I:=I.cd 86 rfl FV;refine bh 2 [1,1,0,1] [(1,.U bZ),(4,.i ja),(5,.U sA),(86,.bool false),(88,.i kB.To)] [sA,1] (aD (a' (hm.e 0 rfl)) aE) I fun a I=>?_;obtain ⟨Mb,ayn,h⟩:=J.aQ h;have hc:=hm;refine bU (vs:=[.i kB.To,.i 0,.i 200]) (db I rfl rfl rfl rfl) rfl Tryz.call41 ⟨(I.g rfl),(c' _ _),(c' _ _),trivial⟩ (pf ((hc.into 0).pick trivial) ayn) I rfl rfl ?_;rintro _ w ⟨rfl,ai⟩;refine ⟨_,rfl,fun a I=>?_⟩;have hm:=hc.back 0 ai;clear ai hc
     refine aM 3 [1,1] [(1,.U bZ),(4,.i ja),(5,.U sA),(92,.bool (!Mb))] I fun a I=>?_;rcases Bool.eq_false_or_eq_true (!Mb) with FW | FW
     · have h:=J.dz FW h;have I:=I.cd 92 rfl FW;refine aM 5 [1,1,1,1,1] [(1,.U bZ),(4,.i ja),(97,.bool true)] I fun a I=>wpList_nil (ov _ _ ?_);refine eZ (I.g rfl) rfl <| aG [] [(2,.i 3)] I fun a I=>wp_ret ?_;obtain rfl:=aH h;obtain rfl:=aH Cz;refine ba (ao (ao (ba (ao (ao ?_)))));refine bq Tryz.results148 I rfl ?_;exact ⟨rfl,hm.a1 [] []⟩
     have h:=J.dy FW h;have I:=I.cd 92 rfl FW;refine bh 2 [1,1,0,2] [(1,.U bZ),(4,.i ja),(92,.bool false),(94,.i kB.hB)] [sA,2] (aD (a' (hm.e 0 rfl)) aE) I fun a I=>?_;obtain ⟨WB,ayp,h⟩:=J.aQ h;have hc:=hm;refine bU (vs:=[.i kB.hB,.i 0,.i 200]) (db I rfl rfl rfl rfl) rfl Tryz.call41 ⟨(I.g rfl),(c' _ _),(c' _ _),trivial⟩ (pf ((hc.into 0).pick trivial) ayp) I rfl rfl ?_;rintro _ w ⟨rfl,ai⟩;refine ⟨_,rfl,fun a I=>?_⟩;have hm:=hc.back 0 ai;clear ai hc
     refine aM 2 [1,1] [(1,.U bZ),(4,.i ja),(97,.bool (!WB))] I fun a I=>wpList_nil (ov _ _ ?_);refine bn (I.g rfl) h (fun anQ h=>?_) (fun anQ h=>?_)
     · refine aG [] [(2,.i 3)] I fun a I=>wp_ret ?_;obtain rfl:=aH h;obtain rfl:=aH Cz;refine ba (ao (ao (ba (ao (ao ?_)))));refine bq Tryz.results148 I rfl ?_;exact ⟨rfl,hm.a1 [] []⟩
     refine wp_skip <| nE _ _ <| cn [] [(1,.U bZ),(4,.i (J.av (ja+ 1)))] I fun a I=>?_;exact iC _ _ ⟨J.av (ja+ 1),I.cut,(hm.l2 [1] rfl rfl),h⟩
   refine wp_exit <| bD (bD (cD ?_));exact iB _ _ ⟨I.cut,hm,(os h)⟩
 rintro a w ⟨I,hm,bf⟩;subst Ut;have h:=Cz;clear Cz;dsimp only [J.ep] at h;refine jn _ _ <| aG [] [(2,.i 0)] I fun a I=>wp_ret ?_;obtain rfl:=aH h;refine bq Tryz.results148 I rfl ?_;exact ⟨rfl,hm.a1 [] []⟩
theorem ag4 {W:World} {X:List Nat} {F:Nat} {aj:List J.aR} {r:Int} {ad:aU} {af:Nat} {M0:List Nat} (hm:aw W M0 X W [] [aa J.bd ad af aj]) (h:J.Ew F aj=some r) :
 Calls Tryz.prog 135 [.q ad af aj].toArray W (fun e aJ=>e= .returned (.i r)/\aw W M0 X aJ [] []):=by
 refine enter Tryz.func135 rfl Tryz.ntmps135 rfl fun a I=>?_;rw [J.Ew] at h;refine aG [] [(0,.q ad af aj)] I fun a I=>wp_seq_k fun K bT=>aG [] [(0,.q ad af aj),(10,.bool (decide (10 <(aj.length:Int))))] I fun a I=>bn (I.g rfl) h (fun mh h=>?_) (fun mh h=>?_)
 · refine aG [] [(2,.i 2)] I fun a I=>wp_ret ?_;obtain rfl:=aH h;refine ao <| bq Tryz.results135 I rfl ?_;exact ⟨rfl,hm.a1 [] []⟩
 refine wp_skip <| bT _ _ <| wp_seq_k fun K cG=>aG [] [(0,.q ad af aj),(3,.i 0)] I fun a I=>?_;obtain ⟨UR,h,qb⟩:=J.eC h;refine cp (fun a w=>Fr ⟨85,[]⟩ [] a/\aw W M0 X w [] [aa J.bd ad af aj]/\UR=(.go ())) (fun K dH=>?_) ?_
 · refine cN (fun (bz:Nat) a w=>∃ (ef:Int),Fr ⟨85,[]⟩ [(0,.q ad af aj),(3,.i ef)] a/\aw W M0 X w [] [aa J.bd ad af aj]/\J.wy F aj bz ef=some UR) F ⟨0,I.cut,hm,h⟩ ?_ ?_
   · rintro a w ⟨ef,I,hm,h⟩;exact absurd h (by simp [J.wy])
   rintro bz a w ⟨ef,I,hm,h⟩ K c6;rw [J.wy] at h;refine wp_seq_k fun K dE=>aG [] [(0,.q ad af aj),(3,.i ef),(14,.bool (decide (ef <(aj.length:Int))))] I fun a I=>bn (I.g rfl) h (fun aoI h=>?_) (fun aoI h=>?_)
   · refine wp_skip <| dE _ _ <| wp_seq_k fun K dN=>?_;obtain ⟨adg,h,qc⟩:=J.fl h;refine cp (fun a w=>Fr ⟨85,[]⟩ [(0,.q ad af aj),(3,.i ef)] a/\aw W M0 X w [] [aa J.bd ad af aj]/\adg=(.go ())) (fun K ew=>?_) ?_
     · refine wp_seq_k fun K ej=>a7 <| aM 2 [] [(0,.q ad af aj),(3,.i ef),(17,.q ad af aj),(18,.i ef)] I fun a I=>?_;obtain ⟨cK,aBF,h⟩:=J.aQ h;obtain ⟨akU,avK,_,⟨hL,jS,jh,kp,rfl,ati,atj⟩,ars⟩:=b3 _ (hm.d 0 rfl) aBF;have hm:=hm.more (y:=aa J.aX hL jS cK.Fields) ati;have hm:=hm.more (y:=aa J.b8 jh kp cK.az) atj;refine bR wn (bL Tryz.underlying25 Tryz.sizeOf136 rfl (I.g rfl) (I.g rfl) akU avK) I rfl rfl fun a I=>?_
       refine bh 1 [0,0] [(0,.q ad af aj),(3,.i ef),(20,.agg #[ak cK.Name,ak cK.b0,.q hL jS cK.Fields,.q jh kp cK.az])] [bM ad,bP ad+(ef).toNat* 4] (aD ars aE) I fun a I=>cZ (cs:=[ak [],ak [],.slice none 0 0,.slice none 0 0]) wn (fc Tryz.zeroValue136 rfl rfl) I hm rfl rfl fun a dO w _ I hm=>da (vs:=[ak cK.Name,ak cK.b0,.q hL jS cK.Fields,.q jh kp cK.az]) 0 hm rfl wn rfl Tryz.sizeOf136 rfl rfl rfl rfl (I.g rfl) (I.g rfl) rfl fun w hm=>wpList_nil <| ej _ _ ?_
       refine wp_seq_k fun K gb=>wp_seq_k fun K fH=>a7 <| bh 2 [0,0] [(0,.q ad af aj),(3,.i ef),(4,.U dO),(22,ak cK.Name)] [dO,0] (aD (a' (hm.e 0 rfl)) aE) I fun a I=>?_;obtain ⟨Mn,ay6,h⟩:=J.aQ h;have hc:=hm;refine bU (vs:=[ak cK.Name]) wn rfl Tryz.call146 ⟨(I.g rfl),trivial⟩ (zF ((hc.into 0).pick trivial) ay6) I rfl rfl ?_;rintro _ w ⟨rfl,ai⟩;refine ⟨_,rfl,fun a I=>?_⟩;have hm:=hc.back 0 ai;clear ai hc
       refine aM 2 [] [(0,.q ad af aj),(3,.i ef),(4,.U dO),(25,.bool (!Mn))] I fun a I=>?_;rcases Bool.eq_false_or_eq_true (!Mn) with Gi | Gi
       · have h:=J.dz Gi h;have I:=I.cd 25 rfl Gi;refine aM 10 [1,1,1,1,1,1,1,1,1,1] [(0,.q ad af aj),(3,.i ef),(4,.U dO),(35,.bool true)] I fun a I=>wpList_nil (fH _ _ ?_);refine eZ (I.g rfl) rfl <| aG [] [(2,.i 1)] I fun a I=>wp_ret ?_;obtain rfl:=aH h;obtain rfl:=aH qc;obtain rfl:=aH qb;refine ao (ba (ao (ao (ao (ba (ao (ao ?_)))))));refine bq Tryz.results135 I rfl ?_;exact ⟨rfl,hm.a1 [] []⟩
       have h:=J.dy Gi h;have I:=I.cd 25 rfl Gi;refine bh 4 [1,1,0,1,1,1] [(0,.q ad af aj),(3,.i ef),(4,.U dO),(25,.bool false),(29,.bool (!decide (cK.b0= [])))] [dO,1] (aD (a' (hm.e 0 rfl)) aE) I fun a I=>?_;rcases Bool.eq_false_or_eq_true (!decide (cK.b0= [])) with Gj | Gj
       · have h:=J.dz Gj h;have I:=I.cd 29 rfl Gj;refine bh 2 [1,1,0,1] [(0,.q ad af aj),(3,.i ef),(4,.U dO),(25,.bool false),(29,.bool true),(31,ak cK.b0)] [dO,1] (aD (a' (hm.e 0 rfl)) aE) I fun a I=>?_;obtain ⟨WX,ay7,h⟩:=J.aQ h;have hc:=hm;refine bU (vs:=[ak cK.b0]) (db I rfl rfl rfl rfl) rfl Tryz.call146 ⟨(I.g rfl),trivial⟩ (zF ((hc.into 0).pick trivial) ay7) I rfl rfl ?_;rintro _ w ⟨rfl,ai⟩;refine ⟨_,rfl,fun a I=>?_⟩;have hm:=hc.back 0 ai;clear ai hc
         refine aM 3 [1,1,1,1] [(0,.q ad af aj),(3,.i ef),(4,.U dO),(35,.bool (!WX))] I fun a I=>wpList_nil (fH _ _ ?_);refine bn (I.g rfl) h (fun aoP h=>?_) (fun aoP h=>?_)
         · refine aG [] [(2,.i 1)] I fun a I=>wp_ret ?_;obtain rfl:=aH h;obtain rfl:=aH qc;obtain rfl:=aH qb;refine ao (ba (ao (ao (ao (ba (ao (ao ?_)))))));refine bq Tryz.results135 I rfl ?_;exact ⟨rfl,hm.a1 [] []⟩
         refine wp_skip <| gb _ _ <| wp_seq_k fun K gd=>wp_seq_k fun K gF=>rg [0,2,0,0,0,3,0,0,0] [(0,.q ad af aj),(3,.i ef),(4,.U dO),(45,.bool ((decide (6 <(cK.Fields.length:Int))) || (decide (8 <(cK.az.length:Int)))))] [dO,3,dO,2] (aD (a' (hm.e 0 rfl)) aE) I fun a I=>gF _ _ <| bn (I.g rfl) h (fun aoQ h=>?_) (fun aoQ h=>?_)
         · refine aG [] [(2,.i 2)] I fun a I=>wp_ret ?_;obtain rfl:=aH h;obtain rfl:=aH qc;obtain rfl:=aH qb;refine ao (ba (ao (ao (ao (ba (ao (ao ?_)))))));refine bq Tryz.results135 I rfl ?_;exact ⟨rfl,hm.a1 [] []⟩
         refine wp_skip <| gd _ _ <| wp_seq_k fun K gR=>aG [] [(0,.q ad af aj),(3,.i ef),(4,.U dO),(5,.i 0)] I fun a I=>?_;obtain ⟨Vj,h,Lb⟩:=J.fl h
         refine cp (fun a w=>Fr ⟨85,[]⟩ [(0,.q ad af aj),(3,.i ef),(4,.U dO)] a/\aw W M0 X w [au.bs dO 136 [ak cK.Name,ak cK.b0,.q hL jS cK.Fields,.q jh kp cK.az]] [aa J.b8 jh kp cK.az,aa J.aX hL jS cK.Fields,aa J.bd ad af aj]/\Vj=(.go ())) (fun K iK=>?_) ?_
         · refine cN (fun (dg:Nat) a w=>∃ (j3:Int),Fr ⟨85,[]⟩ [(0,.q ad af aj),(3,.i ef),(4,.U dO),(5,.i j3)] a/\aw W M0 X w [au.bs dO 136 [ak cK.Name,ak cK.b0,.q hL jS cK.Fields,.q jh kp cK.az]] [aa J.b8 jh kp cK.az,aa J.aX hL jS cK.Fields,aa J.bd ad af aj]/\J.wz F cK dg j3=some Vj) F ⟨0,I.cut,hm,h⟩ ?_ ?_
           · rintro a w ⟨j3,I,hm,h⟩;exact absurd h (by simp [J.wz])
           rintro dg a w ⟨j3,I,hm,h⟩ K jn;rw [J.wz] at h;refine wp_seq_k fun K iA=>wp_seq_k fun K iB=>rg [0,2] [(0,.q ad af aj),(3,.i ef),(4,.U dO),(5,.i j3),(50,.bool (decide (j3 <(cK.Fields.length:Int))))] [dO,2] (aD (a' (hm.e 0 rfl)) aE) I fun a I=>iB _ _ <| bn (I.g rfl) h (fun aoT h=>?_) (fun aoT h=>?_)
           · refine wp_skip <| iA _ _ <| wp_seq_k fun K iC=>wp_block <| wp_seq_k fun K kQ=>wp_seq_k fun K kr=>a7 <| bh 3 [0,2] [(0,.q ad af aj),(3,.i ef),(4,.U dO),(5,.i j3),(54,.q hL jS cK.Fields),(55,.i j3)] [dO,2] (aD (a' (hm.e 0 rfl)) aE) I fun a I=>?_;obtain ⟨Nq,aBJ,h⟩:=J.aQ h;obtain ⟨akX,avN,_,rfl,arv⟩:=b3 _ (hm.d 1 rfl) aBJ;refine bR wn (bL Tryz.underlying106 Tryz.sizeOf105 rfl (I.g rfl) (I.g rfl) akX avN) I rfl rfl fun a I=>?_
             refine bh 2 [0,0] [(0,.q ad af aj),(3,.i ef),(4,.U dO),(5,.i j3),(58,ak Nq.Name)] [bM hL,bP hL+(j3).toNat* 3 + 0] (aD arv aE) I fun a I=>?_;obtain ⟨WZ,ay',h⟩:=J.aQ h;have hc:=hm;refine bU (vs:=[ak Nq.Name]) wn rfl Tryz.call146 ⟨(I.g rfl),trivial⟩ (zF ((hc.into 0).pick trivial) ay') I rfl rfl ?_;rintro _ w ⟨rfl,ai⟩;refine ⟨_,rfl,fun a I=>?_⟩;have hm:=hc.back 0 ai;clear ai hc
             refine aM 1 [] [(0,.q ad af aj),(3,.i ef),(4,.U dO),(5,.i j3),(60,.bool (!WZ))] I fun a I=>wpList_nil (kr _ _ ?_);refine bn (I.g rfl) h (fun aoV h=>?_) (fun aoV h=>?_)
             · refine aG [] [(2,.i 1)] I fun a I=>wp_ret ?_;obtain rfl:=aH h;obtain rfl:=aH Lb;obtain rfl:=aH qc;obtain rfl:=aH qb;refine ao (ba (ao (ao (ba (ao (ao (ba (ao (ao (ao (ba (ao (ao ?_)))))))))))));refine bq Tryz.results135 I rfl ?_;exact ⟨rfl,hm.a1 [] []⟩
             refine wp_skip <| kQ _ _ <| wp_seq_k fun K kR=>a7 <| bh 3 [0,2] [(0,.q ad af aj),(3,.i ef),(4,.U dO),(5,.i j3),(62,.q hL jS cK.Fields),(63,.i j3)] [dO,2] (aD (a' (hm.e 0 rfl)) aE) I fun a I=>?_;obtain ⟨Bd,aBK,h⟩:=J.aQ h;obtain ⟨akY,avO,_,rfl,arw⟩:=b3 _ (hm.d 1 rfl) aBK;refine bR wn (bL Tryz.underlying106 Tryz.sizeOf105 rfl (I.g rfl) (I.g rfl) akY avO) I rfl rfl fun a I=>?_
             refine bh 2 [0,1] [(0,.q ad af aj),(3,.i ef),(4,.U dO),(5,.i j3),(66,.agg #[.i Bd.Kind.Kind,ak Bd.Kind.aR])] [bM hL,bP hL+(j3).toNat* 3 + 1] (aD arw aE) I fun a I=>?_;obtain ⟨W0,aza,h⟩:=J.aQ h;have hc:=hm;refine bU (vs:=[.agg #[.i Bd.Kind.Kind,ak Bd.Kind.aR]]) wn rfl Tryz.call147 ⟨(I.g rfl),trivial⟩ (Ky ((hc.into 0).pick trivial) aza) I rfl rfl ?_;rintro _ w ⟨rfl,ai⟩;refine ⟨_,rfl,fun a I=>?_⟩;have hm:=hc.back 0 ai;clear ai hc
             refine aM 1 [] [(0,.q ad af aj),(3,.i ef),(4,.U dO),(5,.i j3),(68,.bool (!W0))] I fun a I=>wpList_nil (kR _ _ ?_);refine bn (I.g rfl) h (fun aoW h=>?_) (fun aoW h=>?_)
             · refine aG [] [(2,.i 7)] I fun a I=>wp_ret ?_;obtain rfl:=aH h;obtain rfl:=aH Lb;obtain rfl:=aH qc;obtain rfl:=aH qb;refine ba (ao (ao (ba (ao (ao (ba (ao (ao (ao (ba (ao (ao ?_))))))))))));refine bq Tryz.results135 I rfl ?_;exact ⟨rfl,hm.a1 [] []⟩
             refine wp_skip <| iC _ _ <| cn [] [(0,.q ad af aj),(3,.i ef),(4,.U dO),(5,.i (J.av (j3+ 1)))] I fun a I=>?_;exact jn _ _ ⟨J.av (j3+ 1),I.cut,hm,h⟩
           refine wp_exit <| bD (bD (cD ?_));exact iK _ _ ⟨I.cut,hm,(os h)⟩
         rintro a w ⟨I,hm,bf⟩;subst Vj;have h:=Lb;clear Lb;dsimp only [J.fa] at h;refine gR _ _ <| aG [] [(0,.q ad af aj),(3,.i ef),(4,.U dO),(6,.i 0)] I fun a I=>?_;obtain ⟨Vl,h,SW⟩:=J.fl h
         refine cp (fun a w=>Fr ⟨85,[]⟩ [(0,.q ad af aj),(3,.i ef)] a/\aw W M0 X w [au.bs dO 136 [ak cK.Name,ak cK.b0,.q hL jS cK.Fields,.q jh kp cK.az]] [aa J.b8 jh kp cK.az,aa J.aX hL jS cK.Fields,aa J.bd ad af aj]/\Vl=(.go ())) (fun K ls=>?_) ?_
         · refine cN (fun (eQ:Nat) a w=>∃ (lW:Int),Fr ⟨85,[]⟩ [(0,.q ad af aj),(3,.i ef),(4,.U dO),(6,.i lW)] a/\aw W M0 X w [au.bs dO 136 [ak cK.Name,ak cK.b0,.q hL jS cK.Fields,.q jh kp cK.az]] [aa J.b8 jh kp cK.az,aa J.aX hL jS cK.Fields,aa J.bd ad af aj]/\J.wA F cK eQ lW=some Vl) F ⟨0,I.cut,hm,h⟩ ?_ ?_
           · rintro a w ⟨lW,I,hm,h⟩;exact absurd h (by simp [J.wA])
           rintro eQ a w ⟨lW,I,hm,h⟩ K ov;rw [J.wA] at h;refine wp_seq_k fun K pn=>wp_seq_k fun K mZ=>rg [0,3] [(0,.q ad af aj),(3,.i ef),(4,.U dO),(6,.i lW),(73,.bool (decide (lW <(cK.az.length:Int))))] [dO,3] (aD (a' (hm.e 0 rfl)) aE) I fun a I=>mZ _ _ <| bn (I.g rfl) h (fun aoY h=>?_) (fun aoY h=>?_)
           · refine wp_skip <| pn _ _ <| wp_seq_k fun K po=>wp_block <| wp_seq_k fun K m0=>a7 <| bh 3 [0,3] [(0,.q ad af aj),(3,.i ef),(4,.U dO),(6,.i lW),(77,.q jh kp cK.az),(78,.i lW)] [dO,3] (aD (a' (hm.e 0 rfl)) aE) I fun a I=>?_;obtain ⟨kj,aBN,h⟩:=J.aQ h;obtain ⟨ak1,avQ,_,⟨O1,PP,O2,PQ,rfl,ato,atp⟩,ary⟩:=b3 _ (hm.d 0 rfl) aBN;have hm:=hm.more (y:=aa J.dB O1 PP kj.bA) ato;have hm:=hm.more (y:=aa J.eG O2 PQ kj.bp) atp
             refine bR wn (bL Tryz.underlying134 Tryz.sizeOf133 rfl (I.g rfl) (I.g rfl) ak1 avQ) I rfl rfl fun a I=>bh 1 [0,0] [(0,.q ad af aj),(3,.i ef),(4,.U dO),(6,.i lW),(80,.agg #[ak kj.Name,.bool kj.Static,.q O1 PP kj.bA,.i kj.Returns.Kind,ak kj.Returns.aR,.i kj.cT,.i kj.cS,ak kj.Code,.q O2 PQ kj.bp])] [bM jh,bP jh+(lW).toNat* 9] (aD ary aE) I fun a I=>?_;obtain ⟨AQ,azb,h⟩:=J.aQ h;have hc:=hm
             refine bU (vs:=[.agg #[ak kj.Name,.bool kj.Static,.q O1 PP kj.bA,.i kj.Returns.Kind,ak kj.Returns.aR,.i kj.cT,.i kj.cS,ak kj.Code,.q O2 PQ kj.bp]]) wn rfl Tryz.call148 ⟨(I.g rfl),trivial⟩ (aad ((hc.into 0).pick ⟨⟨1,rfl⟩,⟨0,rfl⟩,trivial⟩) azb) I rfl rfl ?_;rintro _ w ⟨rfl,ai⟩;refine ⟨_,rfl,fun a I=>?_⟩;have hm:=hc.back 0 ai;clear ai hc;refine aM 1 [] [(0,.q ad af aj),(3,.i ef),(4,.U dO),(6,.i lW),(7,.i AQ)] I fun a I=>wpList_nil (m0 _ _ ?_)
             refine aG [] [(0,.q ad af aj),(3,.i ef),(4,.U dO),(6,.i lW),(7,.i AQ),(83,.bool (!decide (AQ= 0)))] I fun a I=>bn (I.g rfl) h (fun aoZ h=>?_) (fun aoZ h=>?_)
             · refine aG [] [(2,.i AQ)] I fun a I=>wp_ret ?_;obtain rfl:=aH h;obtain rfl:=aH SW;obtain rfl:=aH qc;obtain rfl:=aH qb;refine ba (ao (ao (ba (ao (ba (ao (ao (ao (ba (ao (ao ?_)))))))))));refine bq Tryz.results135 I rfl ?_;exact ⟨rfl,hm.a1 [] []⟩
             refine wp_skip <| po _ _ <| cn [] [(0,.q ad af aj),(3,.i ef),(4,.U dO),(6,.i (J.av (lW+ 1)))] I fun a I=>?_;exact ov _ _ ⟨J.av (lW+ 1),I.cut,hm.eS [2,3,4],h⟩
           refine wp_exit <| bD (bD (cD ?_));exact ls _ _ ⟨I.cut,hm,(os h)⟩
         rintro a w ⟨I,hm,bf⟩;subst Vl;have h:=SW;clear SW;dsimp only [J.fa] at h;exact ew _ _ ⟨I.cut,hm.a1 [] [2],(os h)⟩
       have h:=J.dy Gj h;have I:=I.cd 29 rfl Gj;refine aM 6 [1,1,1,1,1,1,1] [(0,.q ad af aj),(3,.i ef),(4,.U dO),(35,.bool false)] I fun a I=>wpList_nil (fH _ _ ?_);refine jD (I.g rfl) rfl <| wp_skip <| gb _ _ <| wp_seq_k fun K zQ=>wp_seq_k fun K nG=>rg [0,2,0,0,0,3,0,0,0] [(0,.q ad af aj),(3,.i ef),(4,.U dO),(45,.bool ((decide (6 <(cK.Fields.length:Int))) || (decide (8 <(cK.az.length:Int)))))] [dO,3,dO,2] (aD (a' (hm.e 0 rfl)) aE) I fun a I=>nG _ _ <| bn (I.g rfl) h (fun ao0 h=>?_) (fun ao0 h=>?_)
       · refine aG [] [(2,.i 2)] I fun a I=>wp_ret ?_;obtain rfl:=aH h;obtain rfl:=aH qc;obtain rfl:=aH qb;refine ao (ba (ao (ao (ao (ba (ao (ao ?_)))))));refine bq Tryz.results135 I rfl ?_;exact ⟨rfl,hm.a1 [] []⟩
       refine wp_skip <| zQ _ _ <| wp_seq_k fun K rh=>aG [] [(0,.q ad af aj),(3,.i ef),(4,.U dO),(5,.i 0)] I fun a I=>?_;obtain ⟨Vn,h,Lc⟩:=J.fl h
       refine cp (fun a w=>Fr ⟨85,[]⟩ [(0,.q ad af aj),(3,.i ef),(4,.U dO)] a/\aw W M0 X w [au.bs dO 136 [ak cK.Name,ak cK.b0,.q hL jS cK.Fields,.q jh kp cK.az]] [aa J.b8 jh kp cK.az,aa J.aX hL jS cK.Fields,aa J.bd ad af aj]/\Vn=(.go ())) (fun K pr=>?_) ?_
       · refine cN (fun (gk:Nat) a w=>∃ (j4:Int),Fr ⟨85,[]⟩ [(0,.q ad af aj),(3,.i ef),(4,.U dO),(5,.i j4)] a/\aw W M0 X w [au.bs dO 136 [ak cK.Name,ak cK.b0,.q hL jS cK.Fields,.q jh kp cK.az]] [aa J.b8 jh kp cK.az,aa J.aX hL jS cK.Fields,aa J.bd ad af aj]/\J.wB F cK gk j4=some Vn) F ⟨0,I.cut,hm,h⟩ ?_ ?_
         · rintro a w ⟨j4,I,hm,h⟩;exact absurd h (by simp [J.wB])
         rintro gk a w ⟨j4,I,hm,h⟩ K nH;rw [J.wB] at h;refine wp_seq_k fun K sF=>wp_seq_k fun K uo=>rg [0,2] [(0,.q ad af aj),(3,.i ef),(4,.U dO),(5,.i j4),(50,.bool (decide (j4 <(cK.Fields.length:Int))))] [dO,2] (aD (a' (hm.e 0 rfl)) aE) I fun a I=>uo _ _ <| bn (I.g rfl) h (fun ao1 h=>?_) (fun ao1 h=>?_)
         · refine wp_skip <| sF _ _ <| wp_seq_k fun K uq=>wp_block <| wp_seq_k fun K p9=>wp_seq_k fun K ur=>a7 <| bh 3 [0,2] [(0,.q ad af aj),(3,.i ef),(4,.U dO),(5,.i j4),(54,.q hL jS cK.Fields),(55,.i j4)] [dO,2] (aD (a' (hm.e 0 rfl)) aE) I fun a I=>?_;obtain ⟨Ns,aBP,h⟩:=J.aQ h;obtain ⟨ak3,avS,_,rfl,arz⟩:=b3 _ (hm.d 1 rfl) aBP;refine bR wn (bL Tryz.underlying106 Tryz.sizeOf105 rfl (I.g rfl) (I.g rfl) ak3 avS) I rfl rfl fun a I=>?_
           refine bh 2 [0,0] [(0,.q ad af aj),(3,.i ef),(4,.U dO),(5,.i j4),(58,ak Ns.Name)] [bM hL,bP hL+(j4).toNat* 3 + 0] (aD arz aE) I fun a I=>?_;obtain ⟨W2,azd,h⟩:=J.aQ h;have hc:=hm;refine bU (vs:=[ak Ns.Name]) wn rfl Tryz.call146 ⟨(I.g rfl),trivial⟩ (zF ((hc.into 0).pick trivial) azd) I rfl rfl ?_;rintro _ w ⟨rfl,ai⟩;refine ⟨_,rfl,fun a I=>?_⟩;have hm:=hc.back 0 ai;clear ai hc
           refine aM 1 [] [(0,.q ad af aj),(3,.i ef),(4,.U dO),(5,.i j4),(60,.bool (!W2))] I fun a I=>wpList_nil (ur _ _ ?_);refine bn (I.g rfl) h (fun ao2 h=>?_) (fun ao2 h=>?_)
           · refine aG [] [(2,.i 1)] I fun a I=>wp_ret ?_;obtain rfl:=aH h;obtain rfl:=aH Lc;obtain rfl:=aH qc;obtain rfl:=aH qb;refine ao (ba (ao (ao (ba (ao (ao (ba (ao (ao (ao (ba (ao (ao ?_)))))))))))));refine bq Tryz.results135 I rfl ?_;exact ⟨rfl,hm.a1 [] []⟩
           refine wp_skip <| p9 _ _ <| wp_seq_k fun K uu=>a7 <| bh 3 [0,2] [(0,.q ad af aj),(3,.i ef),(4,.U dO),(5,.i j4),(62,.q hL jS cK.Fields),(63,.i j4)] [dO,2] (aD (a' (hm.e 0 rfl)) aE) I fun a I=>?_;obtain ⟨Bf,aBQ,h⟩:=J.aQ h;obtain ⟨ak4,avT,_,rfl,arA⟩:=b3 _ (hm.d 1 rfl) aBQ;refine bR wn (bL Tryz.underlying106 Tryz.sizeOf105 rfl (I.g rfl) (I.g rfl) ak4 avT) I rfl rfl fun a I=>?_
           refine bh 2 [0,1] [(0,.q ad af aj),(3,.i ef),(4,.U dO),(5,.i j4),(66,.agg #[.i Bf.Kind.Kind,ak Bf.Kind.aR])] [bM hL,bP hL+(j4).toNat* 3 + 1] (aD arA aE) I fun a I=>?_;obtain ⟨W3,aze,h⟩:=J.aQ h;have hc:=hm;refine bU (vs:=[.agg #[.i Bf.Kind.Kind,ak Bf.Kind.aR]]) wn rfl Tryz.call147 ⟨(I.g rfl),trivial⟩ (Ky ((hc.into 0).pick trivial) aze) I rfl rfl ?_;rintro _ w ⟨rfl,ai⟩;refine ⟨_,rfl,fun a I=>?_⟩;have hm:=hc.back 0 ai;clear ai hc
           refine aM 1 [] [(0,.q ad af aj),(3,.i ef),(4,.U dO),(5,.i j4),(68,.bool (!W3))] I fun a I=>wpList_nil (uu _ _ ?_);refine bn (I.g rfl) h (fun ao3 h=>?_) (fun ao3 h=>?_)
           · refine aG [] [(2,.i 7)] I fun a I=>wp_ret ?_;obtain rfl:=aH h;obtain rfl:=aH Lc;obtain rfl:=aH qc;obtain rfl:=aH qb;refine ba (ao (ao (ba (ao (ao (ba (ao (ao (ao (ba (ao (ao ?_))))))))))));refine bq Tryz.results135 I rfl ?_;exact ⟨rfl,hm.a1 [] []⟩
           refine wp_skip <| uq _ _ <| cn [] [(0,.q ad af aj),(3,.i ef),(4,.U dO),(5,.i (J.av (j4+ 1)))] I fun a I=>?_;exact nH _ _ ⟨J.av (j4+ 1),I.cut,hm,h⟩
         refine wp_exit <| bD (bD (cD ?_));exact pr _ _ ⟨I.cut,hm,(os h)⟩
       rintro a w ⟨I,hm,bf⟩;subst Vn;have h:=Lc;clear Lc;dsimp only [J.fa] at h;refine rh _ _ <| aG [] [(0,.q ad af aj),(3,.i ef),(4,.U dO),(6,.i 0)] I fun a I=>?_;obtain ⟨Vp,h,SZ⟩:=J.fl h
       refine cp (fun a w=>Fr ⟨85,[]⟩ [(0,.q ad af aj),(3,.i ef)] a/\aw W M0 X w [au.bs dO 136 [ak cK.Name,ak cK.b0,.q hL jS cK.Fields,.q jh kp cK.az]] [aa J.b8 jh kp cK.az,aa J.aX hL jS cK.Fields,aa J.bd ad af aj]/\Vp=(.go ())) (fun K xT=>?_) ?_
       · refine cN (fun (jo:Nat) a w=>∃ (lX:Int),Fr ⟨85,[]⟩ [(0,.q ad af aj),(3,.i ef),(4,.U dO),(6,.i lX)] a/\aw W M0 X w [au.bs dO 136 [ak cK.Name,ak cK.b0,.q hL jS cK.Fields,.q jh kp cK.az]] [aa J.b8 jh kp cK.az,aa J.aX hL jS cK.Fields,aa J.bd ad af aj]/\J.wC F cK jo lX=some Vp) F ⟨0,I.cut,hm,h⟩ ?_ ?_
         · rintro a w ⟨lX,I,hm,h⟩;exact absurd h (by simp [J.wC])
         rintro jo a w ⟨lX,I,hm,h⟩ K zR;rw [J.wC] at h;refine wp_seq_k fun K uv=>wp_seq_k fun K amE=>rg [0,3] [(0,.q ad af aj),(3,.i ef),(4,.U dO),(6,.i lX),(73,.bool (decide (lX <(cK.az.length:Int))))] [dO,3] (aD (a' (hm.e 0 rfl)) aE) I fun a I=>amE _ _ <| bn (I.g rfl) h (fun ao7 h=>?_) (fun ao7 h=>?_)
         · refine wp_skip <| uv _ _ <| wp_seq_k fun K zS=>wp_block <| wp_seq_k fun K xU=>a7 <| bh 3 [0,3] [(0,.q ad af aj),(3,.i ef),(4,.U dO),(6,.i lX),(77,.q jh kp cK.az),(78,.i lX)] [dO,3] (aD (a' (hm.e 0 rfl)) aE) I fun a I=>?_;obtain ⟨kl,aBR,h⟩:=J.aQ h;obtain ⟨ak6,avV,_,⟨O3,PR,O4,PS,rfl,ats,att⟩,arC⟩:=b3 _ (hm.d 0 rfl) aBR;have hm:=hm.more (y:=aa J.dB O3 PR kl.bA) ats;have hm:=hm.more (y:=aa J.eG O4 PS kl.bp) att
           refine bR wn (bL Tryz.underlying134 Tryz.sizeOf133 rfl (I.g rfl) (I.g rfl) ak6 avV) I rfl rfl fun a I=>bh 1 [0,0] [(0,.q ad af aj),(3,.i ef),(4,.U dO),(6,.i lX),(80,.agg #[ak kl.Name,.bool kl.Static,.q O3 PR kl.bA,.i kl.Returns.Kind,ak kl.Returns.aR,.i kl.cT,.i kl.cS,ak kl.Code,.q O4 PS kl.bp])] [bM jh,bP jh+(lX).toNat* 9] (aD arC aE) I fun a I=>?_;obtain ⟨AR,azg,h⟩:=J.aQ h;have hc:=hm
           refine bU (vs:=[.agg #[ak kl.Name,.bool kl.Static,.q O3 PR kl.bA,.i kl.Returns.Kind,ak kl.Returns.aR,.i kl.cT,.i kl.cS,ak kl.Code,.q O4 PS kl.bp]]) wn rfl Tryz.call148 ⟨(I.g rfl),trivial⟩ (aad ((hc.into 0).pick ⟨⟨1,rfl⟩,⟨0,rfl⟩,trivial⟩) azg) I rfl rfl ?_;rintro _ w ⟨rfl,ai⟩;refine ⟨_,rfl,fun a I=>?_⟩;have hm:=hc.back 0 ai;clear ai hc;refine aM 1 [] [(0,.q ad af aj),(3,.i ef),(4,.U dO),(6,.i lX),(7,.i AR)] I fun a I=>wpList_nil (xU _ _ ?_)
           refine aG [] [(0,.q ad af aj),(3,.i ef),(4,.U dO),(6,.i lX),(7,.i AR),(83,.bool (!decide (AR= 0)))] I fun a I=>bn (I.g rfl) h (fun ao8 h=>?_) (fun ao8 h=>?_)
           · refine aG [] [(2,.i AR)] I fun a I=>wp_ret ?_;obtain rfl:=aH h;obtain rfl:=aH SZ;obtain rfl:=aH qc;obtain rfl:=aH qb;refine ba (ao (ao (ba (ao (ba (ao (ao (ao (ba (ao (ao ?_)))))))))));refine bq Tryz.results135 I rfl ?_;exact ⟨rfl,hm.a1 [] []⟩
           refine wp_skip <| zS _ _ <| cn [] [(0,.q ad af aj),(3,.i ef),(4,.U dO),(6,.i (J.av (lX+ 1)))] I fun a I=>?_;exact zR _ _ ⟨J.av (lX+ 1),I.cut,hm.eS [2,3,4],h⟩
         refine wp_exit <| bD (bD (cD ?_));exact xT _ _ ⟨I.cut,hm,(os h)⟩
       rintro a w ⟨I,hm,bf⟩;subst Vp;have h:=SZ;clear SZ;dsimp only [J.fa] at h;exact ew _ _ ⟨I.cut,hm.a1 [] [2],(os h)⟩
     rintro a w ⟨I,hm,bf⟩;subst adg;have h:=qc;clear qc;dsimp only [J.fa] at h;refine dN _ _ <| cn [] [(0,.q ad af aj),(3,.i (J.av (ef+ 1)))] I fun a I=>?_;exact c6 _ _ ⟨J.av (ef+ 1),I.cut,hm,h⟩
   refine wp_exit <| bD (bD (cD ?_));exact dH _ _ ⟨I.cut,hm,(os h)⟩
 rintro a w ⟨I,hm,bf⟩;subst UR;have h:=qb;clear qb;dsimp only [J.ep] at h;refine cG _ _ <| aG [] [(2,.i 0)] I fun a I=>wp_ret ?_;obtain rfl:=aH h;refine bq Tryz.results135 I rfl ?_;exact ⟨rfl,hm.a1 [] []⟩
end Go.Proofs.YtpkhpagplommoaaGreat
namespace J
def o7 (a_:List Kind) (b_:List Kind):Nat->Int->Option (Way (Bool) (Unit))
 | 0,_=>none
 | bz+ 1,ca=>
   cond (decide (ca <(a_.length:Int))) ((idx a_ ca).bind fun e5=>
   (idx b_ ca).bind fun gB=>
   cond (!decide (e5=gB)) (some (.out false)) (o7 a_ b_ bz (av (ca+ 1)))) (some (.go ()))
def tG (F:Nat) (a_:List Kind) (b_:List Kind):Option (Bool):=
 cond (!decide ((a_.length:Int)=(b_.length:Int))) (some false) (dD (α:=Unit) (o7 a_ b_ F 0) fun (_:Unit)=>
 some true)
def w3 (a_:List Field) (b_:List Field):Nat->Int->Option (Way (Bool) (Unit))
 | 0,_=>none
 | bz+ 1,ca=>
   cond (decide (ca <(a_.length:Int))) ((idx a_ ca).bind fun e5=>
   (idx b_ ca).bind fun gB=>
   cond (!decide (e5=gB)) (some (.out false)) (w3 a_ b_ bz (av (ca+ 1)))) (some (.go ()))
def BM (F:Nat) (a_:List Field) (b_:List Field):Option (Bool):=
 cond (!decide ((a_.length:Int)=(b_.length:Int))) (some false) (dD (α:=Unit) (w3 a_ b_ F 0) fun (_:Unit)=>
 some true)
def w2 (dv:Method) (dL:Method):Nat->Int->Option (Way (Bool) (Unit))
 | 0,_=>none
 | eQ+ 1,k3=>
   cond (decide (k3 <(dv.bp.length:Int))) ((idx dv.bp k3).bind fun r0=>
   (idx dL.bp k3).bind fun A8=>
   cond (!decide (r0=A8)) (some (.out false)) (w2 dv dL eQ (av (k3+ 1)))) (some (.go ()))
def w1 (F:Nat) (eh:aR) (eM:aR):Nat->Int->Option (Way (Bool) (Unit))
 | 0,_=>none
 | dg+ 1,gM=>
   cond (decide (gM <(eh.az.length:Int))) (et (α:=Unit) ((idx eh.az gM).bind fun dv=>
   (idx eM.az gM).bind fun dL=>
   cond ((!decide (dv.Name=dL.Name)) || (!(dv.Static == dL.Static))) (some (.out false)) ((tG F dv.bA dL.bA).bind fun L7=>
   cond (!L7) (some (.out false)) (cond (((((!decide ((⟨dv.Returns.Kind,dv.Returns.aR⟩:Kind)=(⟨dL.Returns.Kind,dL.Returns.aR⟩:Kind))) || (!decide (dv.cT=dL.cT))) || (!decide (dv.cS=dL.cS))) || (!decide (dv.Code=dL.Code))) || (!decide ((dv.bp.length:Int)=(dL.bp.length:Int)))) (some (.out false)) (et (α:=Unit) (w2 dv dL F 0) fun (_:Unit)=>
   some (.go ()))))) fun (_:Unit)=>
   w1 F eh eM dg (av (gM+ 1))) (some (.go ()))
def w0 (F:Nat) (a_:List aR) (b_:List aR):Nat->Int->Option (Way (Bool) (Unit))
 | 0,_=>none
 | bz+ 1,fh=>
   cond (decide (fh <(a_.length:Int))) (et (α:=Unit) ((idx a_ fh).bind fun eh=>
   (idx b_ fh).bind fun eM=>
   cond ((!decide (eh.Name=eM.Name)) || (!decide (eh.b0=eM.b0))) (some (.out false)) ((BM F eh.Fields eM.Fields).bind fun Wu=>
   cond ((!Wu) || (!decide ((eh.az.length:Int)=(eM.az.length:Int)))) (some (.out false)) (et (α:=Unit) (w1 F eh eM F 0) fun (_:Unit)=>
   some (.go ())))) fun (_:Unit)=>
   w0 F a_ b_ bz (av (fh+ 1))) (some (.go ()))
def BL (F:Nat) (a_:List aR) (b_:List aR):Option (Bool):=
 cond (!decide ((a_.length:Int)=(b_.length:Int))) (some false) (dD (α:=Unit) (w0 F a_ b_ F 0) fun (_:Unit)=>
 some true)
def w4 (a_:bC) (b_:bC):Nat->Int->Option (Way (Bool) (Unit))
 | 0,_=>none
 | bz+ 1,k5=>
   cond (decide (k5 <(a_.aK.length:Int))) ((idx a_.aK k5).bind fun MU=>
   (idx b_.aK k5).bind fun vO=>
   cond (!decide (MU=vO)) (some (.out false)) (w4 a_ b_ bz (av (k5+ 1)))) (some (.go ()))
def w5 (F:Nat) (a_:bC) (b_:bC):Nat->Int->Option (Way (Bool) (Unit))
 | 0,_=>none
 | dg+ 1,kc=>
   cond (decide (kc <(a_.Fields.length:Int))) ((idx a_.Fields kc).bind fun A'=>
   (idx b_.Fields kc).bind fun Dp=>
   (BM F A' Dp).bind fun WE=>
   cond (!WE) (some (.out false)) (w5 F a_ b_ dg (av (kc+ 1)))) (some (.go ()))
def w7 (a_:bC) (b_:bC) (fM:Int):Nat->Int->Option (Way (Bool) (Unit))
 | 0,_=>none
 | gk+ 1,jL=>
   (idx a_.Names fM).bind fun M8=>
   cond (decide (jL <(M8.length:Int))) ((idx a_.Names fM).bind fun M9=>
   (idx M9 jL).bind fun IA=>
   (idx b_.Names fM).bind fun Nb=>
   (idx Nb jL).bind fun XQ=>
   cond (!decide (IA=XQ)) (some (.out false)) (w7 a_ b_ fM gk (av (jL+ 1)))) (some (.go ()))
def w6 (F:Nat) (a_:bC) (b_:bC):Nat->Int->Option (Way (Bool) (Unit))
 | 0,_=>none
 | eQ+ 1,fM=>
   cond (decide (fM <(a_.Names.length:Int))) (et (α:=Unit) ((idx a_.Names fM).bind fun Bb=>
   (idx b_.Names fM).bind fun Dq=>
   cond (!decide ((Bb.length:Int)=(Dq.length:Int))) (some (.out false)) (et (α:=Unit) (w7 a_ b_ fM F 0) fun (_:Unit)=>
   some (.go ()))) fun (_:Unit)=>
   w6 F a_ b_ eQ (av (fM+ 1))) (some (.go ()))
def w9 (a_:bC) (b_:bC) (fN:Int):Nat->Int->Option (Way (Bool) (Unit))
 | 0,_=>none
 | kU+ 1,jN=>
   (idx a_.aL fN).bind fun NA=>
   cond (decide (jN <(NA.length:Int))) ((idx a_.aL fN).bind fun NB=>
   (idx NB jN).bind fun vV=>
   (idx b_.aL fN).bind fun NC=>
   (idx NC jN).bind fun IG=>
   cond (!decide (vV=IG)) (some (.out false)) (w9 a_ b_ fN kU (av (jN+ 1)))) (some (.go ()))
def w8 (F:Nat) (a_:bC) (b_:bC):Nat->Int->Option (Way (Bool) (Unit))
 | 0,_=>none
 | jo+ 1,fN=>
   cond (decide (fN <(a_.aL.length:Int))) (et (α:=Unit) ((idx a_.aL fN).bind fun Bh=>
   (idx b_.aL fN).bind fun Dw=>
   cond (!decide ((Bh.length:Int)=(Dw.length:Int))) (some (.out false)) (et (α:=Unit) (w9 a_ b_ fN F 0) fun (_:Unit)=>
   some (.go ()))) fun (_:Unit)=>
   w8 F a_ b_ jo (av (fN+ 1))) (some (.go ()))
def BN (F:Nat) (a_:bC) (b_:bC):Option (Bool):=
 (BL F a_.aO b_.aO).bind fun yJ=>
 cond (((((!yJ) || (!decide ((b_.aK.length:Int)=(a_.aK.length:Int)))) || (!decide ((a_.Fields.length:Int)=(b_.Fields.length:Int)))) || (!decide ((a_.Names.length:Int)=(b_.Names.length:Int)))) || (!decide ((a_.aL.length:Int)=(b_.aL.length:Int)))) (some false) (dD (α:=Unit) (w4 a_ b_ F 0) fun (_:Unit)=>
 dD (α:=Unit) (w5 F a_ b_ F 0) fun (_:Unit)=>
 dD (α:=Unit) (w6 F a_ b_ F 0) fun (_:Unit)=>
 dD (α:=Unit) (w8 F a_ b_ F 0) fun (_:Unit)=>
 some true)
def wX (aj:List aR) (nl:List UInt8):Nat->Int->Option (Way (Int) (Unit))
 | 0,_=>none
 | bz+ 1,lY=>
   cond (decide (lY <(aj.length:Int))) ((idx aj lY).bind fun IH=>
   cond (decide (IH.Name=nl)) (some (.out lY)) (wX aj nl bz (av (lY+ 1)))) (some (.go ()))
def o5 (F:Nat) (aj:List aR) (nl:List UInt8):Option (Int):=
 dD (α:=Unit) (wX aj nl F 0) fun (_:Unit)=>
 some (-1)
def xc (F:Nat) (aj:List aR):Nat->Int->(List Int)->Option (Way (List Int) (List Int))
 | 0,_,_=>none
 | bz+ 1,jJ,m9=>
   cond (decide (0 <=jJ)) (cond (decide ((aj.length:Int) <(m9.length:Int))) (some (.out [])) ((eO 8 [jJ] m9).bind fun yo=>
   (idx aj jJ).bind fun A9=>
   (o5 F aj A9.b0).bind fun L_=>
   xc F aj bz L_ yo)) (some (.go m9))
def xb (F:Nat) (aj:List aR) (bx:Int):Option (List Int):=
 dD (α:=List Int) (xc F aj F bx []) fun (AB:List Int)=>
 some AB
def tJ (F:Nat) (kinds_:List Kind) (aj:List aR):Nat->Int->Option (Way (Bool) (Unit))
 | 0,_=>none
 | bz+ 1,jc=>
   cond (decide (jc <(kinds_.length:Int))) ((idx kinds_ jc).bind fun NG=>
   cond (!decide (NG.aR= [])) ((idx kinds_ jc).bind fun MV=>
   (o5 F aj MV.aR).bind fun Wq=>
   cond (decide (Wq < 0)) (some (.out false)) (tJ F kinds_ aj bz (av (jc+ 1)))) (tJ F kinds_ aj bz (av (jc+ 1)))) (some (.go ()))
def zm (F:Nat) (aj:List aR) (kinds_:List Kind):Option (Bool):=
 dD (α:=Unit) (tJ F kinds_ aj F 0) fun (_:Unit)=>
 some true
def qY (aj:List aR) (dc:List Int):Nat->(List Field)->Int->Option (List Field)
 | 0,_,_=>none
 | bz+ 1,lQ,lU=>
   cond (decide (lU <(dc.length:Int))) ((idx dc lU).bind fun M5=>
   (idx aj M5).bind fun Iy=>
   (eO 40 lQ Iy.Fields).bind fun Hz=>
   qY aj dc bz Hz (av (lU+ 1))) (some lQ)
def zj (F:Nat) (aj:List aR) (bx:Int):Option (List Field):=
 (xb F aj bx).bind fun dc=>
 Option.bind (α:=List Field) (qY aj dc F [] 0) fun (uY:List Field)=>
 some uY
def tH (fp:List (List UInt8)) (h6:Method):Nat->Int->Option (Int)
 | 0,_=>none
 | eQ+ 1,kf=>
   cond (decide (kf <(fp.length:Int))) ((idx fp kf).bind fun XU=>
   cond (!decide (XU=h6.Name)) (tH fp h6 eQ (av (kf+ 1))) (some kf)) (some kf)
def w' (F:Nat) (aj:List aR) (dc:List Int) (e3:Int):Nat->(List Target)->(List (List UInt8))->Int->Option ((List Target) × (List (List UInt8)))
 | 0,_,_,_=>none
 | dg+ 1,gH,fp,fO=>
   (idx dc e3).bind fun Ny=>
   (idx aj Ny).bind fun pV=>
   cond (decide (fO <(pV.az.length:Int))) (Option.bind (α:=(List Target) × (List (List UInt8))) ((idx dc e3).bind fun Nz=>
   (idx aj Nz).bind fun r4=>
   (idx r4.az fO).bind fun h6=>
   Option.bind (α:=Int) (tH fp h6 F 0) fun (nY:Int)=>
   Option.bind (α:=(List Target) × (List (List UInt8))) (cond (decide (nY=(fp.length:Int))) ((eO 16 fp [h6.Name]).bind fun HE=>
   (eO 16 gH [(⟨0,0⟩:Target)]).bind fun LI=>
   some (LI,HE)) (some (gH,fp))) fun ((pL,qw):(List Target) × (List (List UInt8)))=>
   (idx dc e3).bind fun Bg=>
   (idx pL nY).bind fun XV=>
   (some (pL.set (nY).toNat (⟨Bg,fO⟩:Target))).bind fun LJ=>
   some (LJ,qw)) fun ((sX,sY):(List Target) × (List (List UInt8)))=>
   w' F aj dc e3 dg sX sY (av (fO+ 1))) (some (gH,fp))
def w_ (F:Nat) (aj:List aR) (dc:List Int):Nat->(List Target)->(List (List UInt8))->Int->Option ((List Target) × (List (List UInt8)))
 | 0,_,_,_=>none
 | bz+ 1,oD,oE,e3=>
   cond (decide (e3 <(dc.length:Int))) (Option.bind (α:=(List Target) × (List (List UInt8))) (Option.bind (α:=(List Target) × (List (List UInt8))) (w' F aj dc e3 F oD oE 0) fun ((vb,vd):(List Target) × (List (List UInt8)))=>
   some (vb,vd)) fun ((sV,sW):(List Target) × (List (List UInt8)))=>
   w_ F aj dc bz sV sW (av (e3+ 1))) (some (oD,oE))
def Ez (F:Nat) (aj:List aR) (bx:Int):Option ((List (List UInt8)) × (List Target)):=
 (xb F aj bx).bind fun dc=>
 Option.bind (α:=(List Target) × (List (List UInt8))) (w_ F aj dc F [] [] 0) fun ((u4,u5):(List Target) × (List (List UInt8)))=>
 some (u5,u4)
end J
