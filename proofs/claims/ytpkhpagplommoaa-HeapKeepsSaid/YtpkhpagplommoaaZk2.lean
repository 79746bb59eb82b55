/- Part 2 of the proof that is ended in the last text: small logic, what the functions compute, walks, plain laws. -/
import Derived.Test.YtpkhpagplommoaaZk1
import Derived.Test.YtpkhpagplommoaaChecked
import Derived.KernelRfl
namespace Cin
open Go
def fb:Gg.eJ Kind where
 size:=2
 rd _ _ cs d:=cs= [.int .i64 d.Kind,Gg.au d.aG]
 len h:=by subst h;rfl
 one h v U:=by subst h;simp only [List.mem_cons,List.not_mem_nil,or_false] at U;rcases U with rfl | rfl <;> rfl
 law _ h:=h
def fI:Gg.eJ Handler where
 size:=4
 rd _ _ cs d:=cs= [.int .i64 d.From,.int .i64 d.To,.int .i64 d.db,Gg.au d.aG]
 len h:=by subst h;rfl
 one h v U:=by subst h;simp only [List.mem_cons,List.not_mem_nil,or_false] at U;rcases U with rfl | rfl | rfl | rfl <;> rfl
 law _ h:=h
def dt:Gg.eJ Method where
 size:=9
 rd F w cs d:=∃ fJ dL fK dU,cs= [Gg.au d.Name,.bool d.Static,.slice fJ d.bA.length dL,.int .i64 d.Returns.Kind,Gg.au d.Returns.aG,.int .i64 d.c9,.int .i64 d.c8,Gg.au d.Code,.slice fK d.bi.length dU]/\(Gg.aU Cin.fb).rd F w [.slice fJ d.bA.length dL] d.bA/\(Gg.aU Cin.fI).rd F w [.slice fK d.bi.length dU] d.bi
 len h:=by obtain ⟨fJ,dL,fK,dU,bk,_⟩:=h;subst bk;rfl
 one h v U:=by obtain ⟨fJ,dL,fK,dU,bk,_⟩:=h;subst bk;simp only [List.mem_cons,List.not_mem_nil,or_false] at U;rcases U with rfl | rfl | rfl | rfl | rfl | rfl | rfl | rfl | rfl <;> rfl
 law bu h:=by obtain ⟨fJ,dL,fK,dU,bk,aq,aC⟩:=h;exact ⟨fJ,dL,fK,dU,bk,(Gg.aU Cin.fb).law bu aq,(Gg.aU Cin.fI).law bu aC⟩
def bJ:Gg.eJ Field where
 size:=3
 rd _ _ cs d:=cs= [Gg.au d.Name,.int .i64 d.Kind.Kind,Gg.au d.Kind.aG]
 len h:=by subst h;rfl
 one h v U:=by subst h;simp only [List.mem_cons,List.not_mem_nil,or_false] at U;rcases U with rfl | rfl | rfl <;> rfl
 law _ h:=h
def bL:Gg.eJ aG where
 size:=4
 rd F w cs d:=∃ fJ dL fK dU,cs= [Gg.au d.Name,Gg.au d.bY,.slice fJ d.Fields.length dL,.slice fK d.aE.length dU]/\(Gg.aU Cin.bJ).rd F w [.slice fJ d.Fields.length dL] d.Fields/\(Gg.aU Cin.dt).rd F w [.slice fK d.aE.length dU] d.aE
 len h:=by obtain ⟨fJ,dL,fK,dU,bk,_⟩:=h;subst bk;rfl
 one h v U:=by obtain ⟨fJ,dL,fK,dU,bk,_⟩:=h;subst bk;simp only [List.mem_cons,List.not_mem_nil,or_false] at U;rcases U with rfl | rfl | rfl | rfl <;> rfl
 law bu h:=by obtain ⟨fJ,dL,fK,dU,bk,aq,aC⟩:=h;exact ⟨fJ,dL,fK,dU,bk,(Gg.aU Cin.bJ).law bu aq,(Gg.aU Cin.dt).law bu aC⟩
def cz:Gg.eJ Target where
 size:=2
 rd _ _ cs d:=cs= [.int .i64 d.aG,.int .i64 d.Method]
 len h:=by subst h;rfl
 one h v U:=by subst h;simp only [List.mem_cons,List.not_mem_nil,or_false] at U;rcases U with rfl | rfl <;> rfl
 law _ h:=h
def akl:Gg.eJ bb where
 size:=5
 rd F w cs d:=∃ fJ dL fK dU oY gj r7 ja r9 kU,cs= [.slice fJ d.aK.length dL,.slice fK d.aI.length dU,.slice oY d.Fields.length gj,.slice r7 d.Names.length ja,.slice r9 d.aH.length kU]/\(Gg.aU Cin.bL).rd F w [.slice fJ d.aK.length dL] d.aK/\(Gg.aU (Gg.ax .i64)).rd F w [.slice fK d.aI.length dU] d.aI/\(Gg.aU (Gg.aU Cin.bJ)).rd F w [.slice oY d.Fields.length gj] d.Fields/\(Gg.aU (Gg.aU Gg.bZ)).rd F w [.slice r7 d.Names.length ja] d.Names/\(Gg.aU (Gg.aU Cin.cz)).rd F w [.slice r9 d.aH.length kU] d.aH
 len h:=by obtain ⟨fJ,dL,fK,dU,oY,gj,r7,ja,r9,kU,bk,_⟩:=h;subst bk;rfl
 one h v U:=by obtain ⟨fJ,dL,fK,dU,oY,gj,r7,ja,r9,kU,bk,_⟩:=h;subst bk;simp only [List.mem_cons,List.not_mem_nil,or_false] at U;rcases U with rfl | rfl | rfl | rfl | rfl <;> rfl
 law bu h:=by obtain ⟨fJ,dL,fK,dU,oY,gj,r7,ja,r9,kU,bk,aq,aC,bw,dz,jx⟩:=h;exact ⟨fJ,dL,fK,dU,oY,gj,r7,ja,r9,kU,bk,(Gg.aU Cin.bL).law bu aq,(Gg.aU (Gg.ax .i64)).law bu aC,(Gg.aU (Gg.aU Cin.bJ)).law bu bw,(Gg.aU (Gg.aU Gg.bZ)).law bu dz,(Gg.aU (Gg.aU Cin.cz)).law bu jx⟩
def akk:Gg.eJ bd where
 size:=7
 rd F w cs d:=∃ fJ dL fK dU,cs= [.slice fJ d.Words.length dL,.int .i64 d.ai,.int .i64 d.ak,.int .i64 d.aB,.int .i64 d.aA,.slice fK d.al.length dU,.int .i64 d.Next]/\(Gg.aU (Gg.ax .i64)).rd F w [.slice fJ d.Words.length dL] d.Words/\(Gg.aU (Gg.ax .i64)).rd F w [.slice fK d.al.length dU] d.al
 len h:=by obtain ⟨fJ,dL,fK,dU,bk,_⟩:=h;subst bk;rfl
 one h v U:=by obtain ⟨fJ,dL,fK,dU,bk,_⟩:=h;subst bk;simp only [List.mem_cons,List.not_mem_nil,or_false] at U;rcases U with rfl | rfl | rfl | rfl | rfl | rfl | rfl <;> rfl
 law bu h:=by obtain ⟨fJ,dL,fK,dU,bk,aq,aC⟩:=h;exact ⟨fJ,dL,fK,dU,bk,(Gg.aU (Gg.ax .i64)).law bu aq,(Gg.aU (Gg.ax .i64)).law bu aC⟩
def akm:Gg.eJ qj where
 size:=6
 rd _ _ cs d:=cs= [.int .i64 d.db,.int .i64 d.N,.int .i64 d.Value,.int .i64 d.Tag,.int .i64 d.Length,.bool d.ak]
 len h:=by subst h;rfl
 one h v U:=by subst h;simp only [List.mem_cons,List.not_mem_nil,or_false] at U;rcases U with rfl | rfl | rfl | rfl | rfl | rfl <;> rfl
 law _ h:=h
end Cin
namespace Go.Value
abbrev J (g:Nat):Value:=.pointer (some ⟨g,0,none⟩)
abbrev i (n:Int):Value:=.int .i64 n
end Go.Value
namespace Go.Proofs.Ytpkhpagplommoaa
open Go Go.RowKit
abbrev aa {α:Type} (T:Gg.eJ α) (A:Option Addr) (c:Nat) (l:List α):Gg.ap:=Gg.ap.of (Gg.aU T) [.slice A l.length c] l
def u7:Gg.mf:=⟨[(3,.i .i64),(4,.b),(5,.i .u8),(9,.s),(22,.aa),(25,.i .i64),(31,.aa),(32,.aa),(33,.aa),(34,.aa),(79,.aa),(80,.aa),(81,.aa),(84,.aa),(86,.aa),(89,.aa),(92,.aa),(140,.aa),(141,.aa)],[(24,0,0),(24,1,1),(24,2,2),(24,3,3),(24,4,4),(24,5,5),(24,6,6),(36,0,0),(36,1,1),(36,2,2),(36,3,3),(36,4,4),(38,0,0),(38,1,1),(38,2,2),(38,3,3),(38,4,4),(38,5,5),(57,0,0),(60,0,0),(60,1,7),(60,2,12),(60,3,13),(60,4,14),(77,0,0),(77,1,1),(77,2,2),(88,0,0),(88,1,1),(91,0,0),(91,1,1),(91,2,2),(91,3,3),(91,4,5),(91,5,6),(91,6,7),(91,7,8),(94,0,0),(94,1,1),(94,2,2),(94,3,3),(96,0,0),(96,1,1),(107,0,0),(107,1,1),(107,2,2),(107,3,3)],[(3,none),(4,none),(5,none),(9,none),(22,none),(24,some 7),(31,none),(32,none),(33,none),(34,none),(36,some 5),(53,none),(57,some 5),(58,none),(73,none),(75,none),(78,none),(80,none),(81,none),(84,none),(86,none),(88,some 2),(89,none),(91,some 9),(92,none),(94,some 4),(96,some 3),(107,some 4),(116,some 2)]⟩
theorem d_:Gg.o3 Try.prog u7:=⟨⟨Try.underlying3,Try.underlying4,Try.underlying5,Try.underlying9,⟨_,Try.underlying22⟩,Try.underlying25,⟨_,Try.underlying31⟩,⟨_,Try.underlying32⟩,⟨_,Try.underlying33⟩,⟨_,Try.underlying34⟩,⟨_,Try.underlying79⟩,⟨_,Try.underlying80⟩,⟨_,Try.underlying81⟩,⟨_,Try.underlying84⟩,⟨_,Try.underlying86⟩,⟨_,Try.underlying89⟩,⟨_,Try.underlying92⟩,⟨_,Try.underlying140⟩,⟨_,Try.underlying141⟩,trivial⟩,⟨Gg.eC Try.underlying24 rfl rfl Try.sizeOf22 rfl,Gg.eC Try.underlying24 rfl rfl Try.sizeOf3 rfl,Gg.eC Try.underlying24 rfl rfl Try.sizeOf3 rfl,Gg.eC Try.underlying24 rfl rfl Try.sizeOf3 rfl,Gg.eC Try.underlying24 rfl rfl Try.sizeOf3 rfl,Gg.eC Try.underlying24 rfl rfl Try.sizeOf22 rfl,Gg.eC Try.underlying24 rfl rfl Try.sizeOf3 rfl,Gg.eC Try.underlying36 rfl rfl Try.sizeOf31 rfl,Gg.eC Try.underlying36 rfl rfl Try.sizeOf22 rfl,Gg.eC Try.underlying36 rfl rfl Try.sizeOf32 rfl,Gg.eC Try.underlying36 rfl rfl Try.sizeOf33 rfl,Gg.eC Try.underlying36 rfl rfl Try.sizeOf34 rfl,Gg.eC Try.underlying38 rfl rfl Try.sizeOf3 rfl,Gg.eC Try.underlying38 rfl rfl Try.sizeOf3 rfl,Gg.eC Try.underlying38 rfl rfl Try.sizeOf3 rfl,Gg.eC Try.underlying38 rfl rfl Try.sizeOf3 rfl,Gg.eC Try.underlying38 rfl rfl Try.sizeOf3 rfl,Gg.eC Try.underlying38 rfl rfl Try.sizeOf4 rfl,Gg.eC Try.underlying57 rfl rfl Try.sizeOf36 rfl,Gg.eC Try.underlying60 rfl rfl Try.sizeOf24 rfl,Gg.eC Try.underlying60 rfl rfl Try.sizeOf57 rfl,Gg.eC Try.underlying60 rfl rfl Try.sizeOf22 rfl,Gg.eC Try.underlying60 rfl rfl Try.sizeOf22 rfl,Gg.eC Try.underlying60 rfl rfl Try.sizeOf58 rfl,Gg.eC Try.underlying77 rfl rfl Try.sizeOf31 rfl,Gg.eC Try.underlying77 rfl rfl Try.sizeOf75 rfl,Gg.eC Try.underlying77 rfl rfl Try.sizeOf22 rfl,Gg.eC Try.underlying88 rfl rfl Try.sizeOf3 rfl,Gg.eC Try.underlying88 rfl rfl Try.sizeOf9 rfl,Gg.eC Try.underlying91 rfl rfl Try.sizeOf9 rfl,Gg.eC Try.underlying91 rfl rfl Try.sizeOf4 rfl,Gg.eC Try.underlying91 rfl rfl Try.sizeOf86 rfl,Gg.eC Try.underlying91 rfl rfl Try.sizeOf88 rfl,Gg.eC Try.underlying91 rfl rfl Try.sizeOf3 rfl,Gg.eC Try.underlying91 rfl rfl Try.sizeOf3 rfl,Gg.eC Try.underlying91 rfl rfl Try.sizeOf9 rfl,Gg.eC Try.underlying91 rfl rfl Try.sizeOf89 rfl,Gg.eC Try.underlying94 rfl rfl Try.sizeOf9 rfl,Gg.eC Try.underlying94 rfl rfl Try.sizeOf9 rfl,Gg.eC Try.underlying94 rfl rfl Try.sizeOf84 rfl,Gg.eC Try.underlying94 rfl rfl Try.sizeOf92 rfl,Gg.eC Try.underlying96 rfl rfl Try.sizeOf9 rfl,Gg.eC Try.underlying96 rfl rfl Try.sizeOf88 rfl,Gg.eC Try.underlying107 rfl rfl Try.sizeOf3 rfl,Gg.eC Try.underlying107 rfl rfl Try.sizeOf3 rfl,Gg.eC Try.underlying107 rfl rfl Try.sizeOf3 rfl,Gg.eC Try.underlying107 rfl rfl Try.sizeOf9 rfl,trivial⟩,⟨Try.isAgg3,Try.isAgg4,Try.isAgg5,Try.isAgg9,Try.isAgg22,⟨Try.isAgg24,Try.sizeOf24⟩,Try.isAgg31,Try.isAgg32,Try.isAgg33,Try.isAgg34,⟨Try.isAgg36,Try.sizeOf36⟩,Try.isAgg53,⟨Try.isAgg57,Try.sizeOf57⟩,Try.isAgg58,Try.isAgg73,Try.isAgg75,Try.isAgg78,Try.isAgg80,Try.isAgg81,Try.isAgg84,Try.isAgg86,⟨Try.isAgg88,Try.sizeOf88⟩,Try.isAgg89,⟨Try.isAgg91,Try.sizeOf91⟩,Try.isAgg92,⟨Try.isAgg94,Try.sizeOf94⟩,⟨Try.isAgg96,Try.sizeOf96⟩,⟨Try.isAgg107,Try.sizeOf107⟩,⟨Try.isAgg116,Try.sizeOf116⟩,trivial⟩⟩
theorem ts:(Try.prog.info? 3).map (fun i=>(i.zero,i.size,i.bytes))=some (some (.int .i64 0),1,8):=by kernel_rfl
theorem vK:(Try.prog.info? 9).map (fun i=>(i.zero,i.size,i.bytes))=some (some (Gg.au []),1,16):=by kernel_rfl
theorem agM:(Try.prog.info? 80).map (fun i=>(i.zero,i.size,i.bytes))=some (some (.slice none 0 0),1,24):=by kernel_rfl
theorem agN:(Try.prog.info? 81).map (fun i=>(i.zero,i.size,i.bytes))=some (some (.slice none 0 0),1,24):=by kernel_rfl
theorem agO:(Try.prog.info? 84).map (fun i=>(i.zero,i.size,i.bytes))=some (some (.slice none 0 0),1,24):=by kernel_rfl
theorem agP:(Try.prog.info? 88).map (fun i=>(i.zero,i.size,i.bytes))=some (some (.agg #[.int .i64 0,Gg.au []]),2,24):=by kernel_rfl
theorem agQ:(Try.prog.info? 91).map (fun i=>(i.zero,i.size,i.bytes))=some (some (.agg #[Gg.au [],.bool false,.slice none 0 0,.int .i64 0,Gg.au [],.int .i64 0,.int .i64 0,Gg.au [],.slice none 0 0]),9,128):=by kernel_rfl
theorem agR:(Try.prog.info? 94).map (fun i=>(i.zero,i.size,i.bytes))=some (some (.agg #[Gg.au [],Gg.au [],.slice none 0 0,.slice none 0 0]),4,80):=by kernel_rfl
theorem QX:(Try.prog.info? 96).map (fun i=>(i.zero,i.size,i.bytes))=some (some (.agg #[Gg.au [],.int .i64 0,Gg.au []]),3,40):=by kernel_rfl
theorem agL:(Try.prog.info? 107).map (fun i=>(i.zero,i.size,i.bytes))=some (some (.agg #[.int .i64 0,.int .i64 0,.int .i64 0,Gg.au []]),4,40):=by kernel_rfl
theorem Kh:(Try.prog.info? 116).map (fun i=>(i.zero,i.size,i.bytes))=some (some (.agg #[.int .i64 0,.int .i64 0]),2,16):=by kernel_rfl
theorem rE:∀ w,(Gg.placesOf Try.prog 24).run Try.prog w= .ok #[(0,1),(1,1),(2,1),(3,1),(4,1),(5,1),(6,1)] w:=fun w=>by kernel_rfl
theorem rF:∀ w,(Gg.placesOf Try.prog 36).run Try.prog w= .ok #[(0,1),(1,1),(2,1),(3,1),(4,1)] w:=fun w=>by kernel_rfl
theorem ait:∀ w,(Gg.placesOf Try.prog 57).run Try.prog w= .ok #[(0,5)] w:=fun w=>by kernel_rfl
theorem aiu:∀ w,(Gg.placesOf Try.prog 60).run Try.prog w= .ok #[(0,7),(7,5),(12,1),(13,1),(14,1)] w:=fun w=>by kernel_rfl
theorem aiv:∀ w,(Gg.placesOf Try.prog 77).run Try.prog w= .ok #[(0,1),(1,1),(2,1)] w:=fun w=>by kernel_rfl
theorem RS:∀ w,(Gg.placesOf Try.prog 88).run Try.prog w= .ok #[(0,1),(1,1)] w:=fun w=>by kernel_rfl
theorem aiw:∀ w,(Gg.placesOf Try.prog 91).run Try.prog w= .ok #[(0,1),(1,1),(2,1),(3,2),(5,1),(6,1),(7,1),(8,1)] w:=fun w=>by kernel_rfl
theorem RT:∀ w,(Gg.placesOf Try.prog 94).run Try.prog w= .ok #[(0,1),(1,1),(2,1),(3,1)] w:=fun w=>by kernel_rfl
theorem aix:∀ w,(Gg.placesOf Try.prog 96).run Try.prog w= .ok #[(0,1),(1,2)] w:=fun w=>by kernel_rfl
theorem ais:∀ w,(Gg.placesOf Try.prog 116).run Try.prog w= .ok #[(0,1),(1,1)] w:=fun w=>by kernel_rfl
theorem VF {o:Oper} {a:Act} {w:World} {dH:TypeId} {x y:Operand} {X Y:Cin.Kind} (bc:o.op= .binOp .eql 88 x y dH) (af:a.eval x= .agg #[.int .i64 X.Kind,Gg.au X.aG]) (hy:a.eval y= .agg #[.int .i64 Y.Kind,Gg.au Y.aG]):Gg.b5 Try.prog o a w (.bool (decide (X=Y))) w:=by
 have bG:decide (X=Y)=decide (X.Kind=Y.Kind/\X.aG=Y.aG/\True):=by rcases X with ⟨_,_⟩;rcases Y with ⟨_,_⟩;simp
 rw [bG]
 exact Gg.amc Try.underlying88 (by kernel_rfl) (by kernel_rfl) (Gg.z1 rfl Try.underlying3 Try.isAgg3 rfl rfl (Gg.DR rfl Try.underlying9 Try.isAgg9 rfl rfl (by simp [Gg.z2]))) bc af hy
theorem PL {o:Oper} {a:Act} {w:World} {dH:TypeId} {x y:Operand} {X Y:Cin.Kind} (bc:o.op= .binOp .neq 88 x y dH) (af:a.eval x= .agg #[.int .i64 X.Kind,Gg.au X.aG]) (hy:a.eval y= .agg #[.int .i64 Y.Kind,Gg.au Y.aG]):Gg.b5 Try.prog o a w (.bool (!decide (X=Y))) w:=by
 have bG:decide (X=Y)=decide (X.Kind=Y.Kind/\X.aG=Y.aG/\True):=by rcases X with ⟨_,_⟩;rcases Y with ⟨_,_⟩;simp
 rw [bG]
 exact Gg.Na Try.underlying88 (by kernel_rfl) (by kernel_rfl) (Gg.z1 rfl Try.underlying3 Try.isAgg3 rfl rfl (Gg.DR rfl Try.underlying9 Try.isAgg9 rfl rfl (by simp [Gg.z2]))) bc af hy
theorem VG {o:Oper} {a:Act} {w:World} {dH:TypeId} {x y:Operand} {X Y:Cin.Field} (bc:o.op= .binOp .neq 96 x y dH) (af:a.eval x= .agg #[Gg.au X.Name,.int .i64 X.Kind.Kind,Gg.au X.Kind.aG]) (hy:a.eval y= .agg #[Gg.au Y.Name,.int .i64 Y.Kind.Kind,Gg.au Y.Kind.aG]):Gg.b5 Try.prog o a w (.bool (!decide (X=Y))) w:=by
 have bG:decide (X=Y)=decide (X.Name=Y.Name/\(X.Kind.Kind=Y.Kind.Kind/\X.Kind.aG=Y.Kind.aG/\True)/\True):=by rcases X with ⟨_,⟨_,_⟩⟩;rcases Y with ⟨_,⟨_,_⟩⟩;simp
 rw [bG]
 exact Gg.Na Try.underlying96 (by kernel_rfl) (by kernel_rfl) (Gg.DR rfl Try.underlying9 Try.isAgg9 rfl rfl (Gg.Vx (us:=[.int .i64 X.Kind.Kind,Gg.au X.Kind.aG]) (vs:=[.int .i64 Y.Kind.Kind,Gg.au Y.Kind.aG]) (q:=X.Kind.Kind=Y.Kind.Kind/\X.Kind.aG=Y.Kind.aG/\True) rfl Try.isAgg88 Try.sizeOf88 rfl rfl (Gg.VI Try.underlying88 (by kernel_rfl) (Gg.z1 rfl Try.underlying3 Try.isAgg3 rfl rfl (Gg.DR rfl Try.underlying9 Try.isAgg9 rfl rfl (by simp [Gg.z2])))) (by simp [Gg.z2]))) bc af hy
theorem VH {o:Oper} {a:Act} {w:World} {dH:TypeId} {x y:Operand} {X Y:Cin.Target} (bc:o.op= .binOp .neq 116 x y dH) (af:a.eval x= .agg #[.int .i64 X.aG,.int .i64 X.Method]) (hy:a.eval y= .agg #[.int .i64 Y.aG,.int .i64 Y.Method]):Gg.b5 Try.prog o a w (.bool (!decide (X=Y))) w:=by
 have bG:decide (X=Y)=decide (X.aG=Y.aG/\X.Method=Y.Method/\True):=by rcases X with ⟨_,_⟩;rcases Y with ⟨_,_⟩;simp
 rw [bG]
 exact Gg.Na Try.underlying116 (by kernel_rfl) (by kernel_rfl) (Gg.z1 rfl Try.underlying3 Try.isAgg3 rfl rfl (Gg.z1 rfl Try.underlying3 Try.isAgg3 rfl rfl (by simp [Gg.z2]))) bc af hy
section
open Gg
variable {n:gE} {b7:List (Nat × Value)} {w:World} {a:Act}
theorem aN (k:Nat) (aY:List Nat) {ops:Array Oper} {Q:Exit->Act->World->Prop} {rest:List Oper} (fr':List (Nat × Value)) (I:Fr n b7 a)
 (next:∀ bQ,Fr n fr' bQ->wpList Try.prog ops Q (rest.drop k) bQ w) (he:nT u7 ops n [] (rest.take k) aY b7 (fr'.map (·.1))=some (fr',dup []):=by kernel_rfl):wpList Try.prog ops Q rest a w:=g7 k _ aY d_ aS I he next
theorem bj (k:Nat) (aY:List Nat) {ops:Array Oper} {Q:Exit->Act->World->Prop} {rest:List Oper} {M:List (Nat × Nat × List Value)} (fr':List (Nat × Value)) (L:List Nat) (fP:jX w M) (I:Fr n b7 a)
 (next:∀ bQ,Fr n fr' bQ->wpList Try.prog ops Q (rest.drop k) bQ w) (he:nT u7 ops n M (rest.take k) aY b7 (fr'.map (·.1))=some (fr',dup L):=by kernel_rfl):wpList Try.prog ops Q rest a w:=g7 k _ aY d_ fP I he next
theorem fH (k:Nat) (aY:List Nat) {ops:Array Oper} {C:World->Prop} {nG:Act->Prop} {rest:List Oper} {M:List (Nat × Nat × List Value)} (fr':List (Nat × Value)) (L:List Nat) (fP:∀ w,C w->jX w M) (I:Fr n b7 a)
 (next:∀ bQ,Fr n fr' bQ->wpQuiet Try.prog ops C nG (rest.drop k) bQ) (he:nT u7 ops n M (rest.take k) aY b7 (fr'.map (·.1))=some (fr',dup L):=by kernel_rfl):wpQuiet Try.prog ops C nG rest a:=aiK k _ aY d_ fP I he next
theorem rg (aY:List Nat) {id:Nat} {lo:List Oper} {Q:Exit->Act->World->Prop} {M:List (Nat × Nat × List Value)} (fr':List (Nat × Value)) (L:List Nat) (fP:jX w M) (I:Fr n b7 a)
 (next:∀ bQ,Fr n fr' bQ->Q .normal bQ w) (he:nT u7 lo.toArray n M lo aY b7 (fr'.map (·.1))=some (fr',dup L):=by kernel_rfl):(Code.region id lo.toArray false).wp Try.prog Q a w:=by
 refine a5 (g7 lo.length _ aY d_ fP I (by rw [List.take_length];exact he) fun bQ eN=>?_)
 rw [List.drop_length]
 exact next bQ eN
theorem c6 (aY:List Nat) {id:Nat} {lo:List Oper} {Q:Exit->Act->World->Prop} (fr':List (Nat × Value)) (I:Fr n b7 a)
 (next:∀ bQ,Fr n fr' bQ->Q .normal bQ w) (he:nT u7 lo.toArray n [] lo aY b7 (fr'.map (·.1))=some (fr',dup []):=by kernel_rfl):(Code.region id lo.toArray false).wp Try.prog Q a w:=rg aY fr' [] aS I next he
theorem aP (aY:List Nat) {id:Nat} {lo:List Oper} {c:Code} {Q:Exit->Act->World->Prop} (fr':List (Nat × Value)) (I:Fr n b7 a)
 (next:∀ bQ,Fr n fr' bQ->c.wp Try.prog Q bQ w) (he:nT u7 lo.toArray n [] lo aY b7 (fr'.map (·.1))=some (fr',dup []):=by kernel_rfl):(Code.seq (.region id lo.toArray false) c).wp Try.prog Q a w:=wp_seq_k fun _ g2=>rg aY fr' [] aS I (fun bQ eN=>g2 _ _ (next bQ eN)) he
end
end Go.Proofs.Ytpkhpagplommoaa
namespace Go.Proofs.Ytpkhpagplommoaa
open Go Go.RowKit
theorem jc:Try.prog.cellsOf 3 = 1 :=by kernel_rfl
theorem Pr:Try.prog.cellsOf 4 = 1 :=by kernel_rfl
theorem sM:Try.prog.cellsOf 9 = 1 :=by kernel_rfl
theorem HE:Try.prog.cellsOf 22 = 1 :=by kernel_rfl
theorem U9:Try.prog.cellsOf 24 = 7 :=by kernel_rfl
theorem U_:Try.prog.cellsOf 31 = 1 :=by kernel_rfl
theorem U':Try.prog.cellsOf 32 = 1 :=by kernel_rfl
theorem Va:Try.prog.cellsOf 33 = 1 :=by kernel_rfl
theorem Vb:Try.prog.cellsOf 34 = 1 :=by kernel_rfl
theorem Vc:Try.prog.cellsOf 36 = 5 :=by kernel_rfl
theorem Vd:Try.prog.cellsOf 38 = 6 :=by kernel_rfl
theorem Vf:Try.prog.cellsOf 80 = 1 :=by kernel_rfl
theorem Vg:Try.prog.cellsOf 81 = 1 :=by kernel_rfl
theorem Ps:Try.prog.cellsOf 84 = 1 :=by kernel_rfl
theorem Vh:Try.prog.cellsOf 86 = 1 :=by kernel_rfl
theorem DO:Try.prog.cellsOf 88 = 2 :=by kernel_rfl
theorem Vi:Try.prog.cellsOf 89 = 1 :=by kernel_rfl
theorem Pt:Try.prog.cellsOf 91 = 9 :=by kernel_rfl
theorem Vj:Try.prog.cellsOf 92 = 1 :=by kernel_rfl
theorem Pu:Try.prog.cellsOf 94 = 4 :=by kernel_rfl
theorem Pv:Try.prog.cellsOf 96 = 3 :=by kernel_rfl
theorem Pn:Try.prog.cellsOf 107 = 4 :=by kernel_rfl
theorem Po:Try.prog.cellsOf 116 = 2 :=by kernel_rfl
theorem TW:Try.prog.bytesOf 3 = 8 :=by kernel_rfl
theorem T1:Try.prog.bytesOf 9 = 16 :=by kernel_rfl
theorem TX:Try.prog.bytesOf 80 = 24 :=by kernel_rfl
theorem TY:Try.prog.bytesOf 81 = 24 :=by kernel_rfl
theorem TZ:Try.prog.bytesOf 84 = 24 :=by kernel_rfl
theorem T0:Try.prog.bytesOf 88 = 24 :=by kernel_rfl
theorem T2:Try.prog.bytesOf 91 = 128 :=by kernel_rfl
theorem T3:Try.prog.bytesOf 94 = 80 :=by kernel_rfl
theorem T4:Try.prog.bytesOf 96 = 40 :=by kernel_rfl
theorem TU:Try.prog.bytesOf 107 = 40 :=by kernel_rfl
theorem TV:Try.prog.bytesOf 116 = 16 :=by kernel_rfl
theorem Rz {l:List Value} (h:l.length= 2):∃ a0 di,l= [a0,di]:=match l,h with | [a0,di],_=>⟨a0,di,rfl⟩
theorem ahI {l:List Value} (h:l.length= 3):∃ a0 di ec,l= [a0,di,ec]:=match l,h with | [a0,di,ec],_=>⟨a0,di,ec,rfl⟩
theorem RA {l:List Value} (h:l.length= 4):∃ a0 di ec a3,l= [a0,di,ec,a3]:=match l,h with | [a0,di,ec,a3],_=>⟨a0,di,ec,a3,rfl⟩
theorem ahJ {l:List Value} (h:l.length= 5):∃ a0 di ec a3 a4,l= [a0,di,ec,a3,a4]:=match l,h with | [a0,di,ec,a3,a4],_=>⟨a0,di,ec,a3,a4,rfl⟩
theorem ahK {l:List Value} (h:l.length= 6):∃ a0 di ec a3 a4 h0,l= [a0,di,ec,a3,a4,h0]:=match l,h with | [a0,di,ec,a3,a4,h0],_=>⟨a0,di,ec,a3,a4,h0,rfl⟩
theorem ahL {l:List Value} (h:l.length= 7):∃ a0 di ec a3 a4 h0 kO,l= [a0,di,ec,a3,a4,h0,kO]:=match l,h with | [a0,di,ec,a3,a4,h0,kO],_=>⟨a0,di,ec,a3,a4,h0,kO,rfl⟩
theorem ahM {l:List Value} (h:l.length= 9):∃ a0 di ec a3 a4 h0 kO uO wU,l= [a0,di,ec,a3,a4,h0,kO,uO,wU]:=match l,h with | [a0,di,ec,a3,a4,h0,kO,uO,wU],_=>⟨a0,di,ec,a3,a4,h0,kO,uO,wU,rfl⟩
section
variable {H:Type} {enc:TypeId × Value->H} {N:Nat}
theorem Mn:Gg.g1 Try.prog enc N 22 (Gg.aU (Gg.ax .i64)) (fun l=>l.length* 8 <=N/\ ∀ et ∈ l,Gg.hr et):=by
 have h:=Gg.oH (enc:=enc) (N:=N) Try.underlying22 jc (by decide) (Gg.jq Try.underlying3)
 rw [TW] at h
 exact h
def NU (N:Nat) (d:Cin.bd):Prop:=(d.Words.length* 8 <=N/\ ∀ et ∈ d.Words,Gg.hr et)/\Gg.hr d.ai/\Gg.hr d.ak/\Gg.hr d.aB/\Gg.hr d.aA/\(d.al.length* 8 <=N/\ ∀ et ∈ d.al,Gg.hr et)/\Gg.hr d.Next
theorem ajf:Gg.g1 Try.prog enc N 24 Cin.akk (NU N):=by
 intro W n cs x h bD hw
 obtain ⟨iV,ag,I⟩:=Gg.lL Try.underlying24 h bD hw
 replace ag:=ag.trans U9
 obtain ⟨a0,di,ec,a3,a4,h0,kO,rfl⟩:=ahL ag
 obtain ⟨uu,bk,gY,hk⟩:=Gg.e5 I 0 rfl rfl rfl HE (r:=[a0]) rfl
 obtain ⟨d0,iy,jj⟩:=(Mn) W _ _ _ bk gY hk
 obtain ⟨r3,uS,gQ⟩:=Gg.ia iy
 obtain rfl:a0=_:=(List.cons.inj gQ).1
 obtain ⟨uv,aq,gd,bV⟩:=Gg.e5 I 1 rfl rfl rfl jc (r:=[di]) rfl
 obtain ⟨d1,h9,hP⟩:=(Gg.jq Try.underlying3) W _ _ _ aq gd bV
 have bn:[di]=_:=h9
 obtain rfl:di=_:=(List.cons.inj bn).1
 obtain ⟨CK,aC,iW,l4⟩:=Gg.e5 I 2 rfl rfl rfl jc (r:=[ec]) rfl
 obtain ⟨d2,jC,jk⟩:=(Gg.jq Try.underlying3) W _ _ _ aC iW l4
 have bI:[ec]=_:=jC
 obtain rfl:ec=_:=(List.cons.inj bI).1
 obtain ⟨CL,bw,oA,ly⟩:=Gg.e5 I 3 rfl rfl rfl jc (r:=[a3]) rfl
 obtain ⟨d3,jp,oh⟩:=(Gg.jq Try.underlying3) W _ _ _ bw oA ly
 have df:[a3]=_:=jp
 obtain rfl:a3=_:=(List.cons.inj df).1
 obtain ⟨M_,dz,v5,wq⟩:=Gg.e5 I 4 rfl rfl rfl jc (r:=[a4]) rfl
 obtain ⟨d4,tS,vM⟩:=(Gg.jq Try.underlying3) W _ _ _ dz v5 wq
 have fu:[a4]=_:=tS
 obtain rfl:a4=_:=(List.cons.inj fu).1
 obtain ⟨Tv,jx,BT,Cm⟩:=Gg.e5 I 5 rfl rfl rfl HE (r:=[h0]) rfl
 obtain ⟨d5,x4,Bv⟩:=(Mn) W _ _ _ jx BT Cm
 obtain ⟨r9,kU,ii⟩:=Gg.ia x4
 obtain rfl:h0=_:=(List.cons.inj ii).1
 obtain ⟨al2,qq,LL,ML⟩:=Gg.e5 I 6 rfl rfl rfl jc (r:=[kO]) rfl
 obtain ⟨d6,Mb,K2⟩:=(Gg.jq Try.underlying3) W _ _ _ qq LL ML
 have u3:[kO]=_:=Mb
 obtain rfl:kO=_:=(List.cons.inj u3).1
 exact ⟨⟨d0,d1,d2,d3,d4,d5,d6⟩,⟨r3,uS,r9,kU,rfl,iy,x4⟩,⟨jj,hP,jk,oh,vM,Bv,K2⟩⟩
def yR (N:Nat) (d:Cin.Kind):Prop:=Gg.hr d.Kind/\d.aG.length<=N
theorem Mm:Gg.g1 Try.prog enc N 88 Cin.fb (yR N):=by
 intro W n cs x h bD hw
 obtain ⟨iV,ag,I⟩:=Gg.lL Try.underlying88 h bD hw
 replace ag:=ag.trans DO
 obtain ⟨a0,di,rfl⟩:=Rz ag
 obtain ⟨uu,bk,gY,hk⟩:=Gg.e5 I 0 rfl rfl rfl jc (r:=[a0]) rfl
 obtain ⟨d0,iy,jj⟩:=(Gg.jq Try.underlying3) W _ _ _ bk gY hk
 have gQ:[a0]=_:=iy
 obtain rfl:a0=_:=(List.cons.inj gQ).1
 obtain ⟨uv,aq,gd,bV⟩:=Gg.e5 I 1 rfl rfl rfl sM (r:=[di]) rfl
 obtain ⟨d1,h9,hP⟩:=(Gg.tW Try.underlying9) W _ _ _ aq gd bV
 have bn:[di]=_:=h9
 obtain rfl:di=_:=(List.cons.inj bn).1
 exact ⟨⟨d0,d1⟩,rfl,⟨jj,hP⟩⟩
def yQ (N:Nat) (d:Cin.Field):Prop:=d.Name.length<=N/\yR N d.Kind
theorem ajd:Gg.g1 Try.prog enc N 96 Cin.bJ (yQ N):=by
 intro W n cs x h bD hw
 obtain ⟨iV,ag,I⟩:=Gg.lL Try.underlying96 h bD hw
 replace ag:=ag.trans Pv
 obtain ⟨a0,di,ec,rfl⟩:=ahI ag
 obtain ⟨uu,bk,gY,hk⟩:=Gg.e5 I 0 rfl rfl rfl sM (r:=[a0]) rfl
 obtain ⟨d0,iy,jj⟩:=(Gg.tW Try.underlying9) W _ _ _ bk gY hk
 have gQ:[a0]=_:=iy
 obtain rfl:a0=_:=(List.cons.inj gQ).1
 obtain ⟨uv,aq,gd,bV⟩:=Gg.e5 I 1 rfl rfl rfl DO (r:=[di,ec]) rfl
 obtain ⟨d1,h9,hP⟩:=Mm W _ _ _ aq gd bV
 have bn:[di,ec]=_:=h9
 simp only [List.cons.injEq,and_true] at bn
 obtain ⟨rfl,rfl⟩:=bn
 exact ⟨⟨d0,d1⟩,rfl,⟨jj,hP⟩⟩
theorem Sf:Gg.g1 Try.prog enc N 84 (Gg.aU Cin.bJ) (fun l=>l.length* 40 <=N/\ ∀ et ∈ l,yQ N et):=by
 have h:=Gg.oH (enc:=enc) (N:=N) Try.underlying84 Pv (by decide) ajd
 rw [T4] at h
 exact h
theorem ajq:Gg.g1 Try.prog enc N 86 (Gg.aU Cin.fb) (fun l=>l.length* 24 <=N/\ ∀ et ∈ l,yR N et):=by
 have h:=Gg.oH (enc:=enc) (N:=N) Try.underlying86 DO (by decide) Mm
 rw [T0] at h
 exact h
def GN (N:Nat) (d:Cin.Handler):Prop:=Gg.hr d.From/\Gg.hr d.To/\Gg.hr d.db/\d.aG.length<=N
theorem aje:Gg.g1 Try.prog enc N 107 Cin.fI (GN N):=by
 intro W n cs x h bD hw
 obtain ⟨iV,ag,I⟩:=Gg.lL Try.underlying107 h bD hw
 replace ag:=ag.trans Pn
 obtain ⟨a0,di,ec,a3,rfl⟩:=RA ag
 obtain ⟨uu,bk,gY,hk⟩:=Gg.e5 I 0 rfl rfl rfl jc (r:=[a0]) rfl
 obtain ⟨d0,iy,jj⟩:=(Gg.jq Try.underlying3) W _ _ _ bk gY hk
 have gQ:[a0]=_:=iy
 obtain rfl:a0=_:=(List.cons.inj gQ).1
 obtain ⟨uv,aq,gd,bV⟩:=Gg.e5 I 1 rfl rfl rfl jc (r:=[di]) rfl
 obtain ⟨d1,h9,hP⟩:=(Gg.jq Try.underlying3) W _ _ _ aq gd bV
 have bn:[di]=_:=h9
 obtain rfl:di=_:=(List.cons.inj bn).1
 obtain ⟨CK,aC,iW,l4⟩:=Gg.e5 I 2 rfl rfl rfl jc (r:=[ec]) rfl
 obtain ⟨d2,jC,jk⟩:=(Gg.jq Try.underlying3) W _ _ _ aC iW l4
 have bI:[ec]=_:=jC
 obtain rfl:ec=_:=(List.cons.inj bI).1
 obtain ⟨CL,bw,oA,ly⟩:=Gg.e5 I 3 rfl rfl rfl sM (r:=[a3]) rfl
 obtain ⟨d3,jp,oh⟩:=(Gg.tW Try.underlying9) W _ _ _ bw oA ly
 have df:[a3]=_:=jp
 obtain rfl:a3=_:=(List.cons.inj df).1
 exact ⟨⟨d0,d1,d2,d3⟩,rfl,⟨jj,hP,jk,oh⟩⟩
theorem ajr:Gg.g1 Try.prog enc N 89 (Gg.aU Cin.fI) (fun l=>l.length* 40 <=N/\ ∀ et ∈ l,GN N et):=by
 have h:=Gg.oH (enc:=enc) (N:=N) Try.underlying89 Pn (by decide) aje
 rw [TU] at h
 exact h
def Dg (N:Nat) (d:Cin.Method):Prop:=d.Name.length<=N/\True/\(d.bA.length* 24 <=N/\ ∀ et ∈ d.bA,yR N et)/\yR N d.Returns/\Gg.hr d.c9/\Gg.hr d.c8/\d.Code.length<=N/\(d.bi.length* 40 <=N/\ ∀ et ∈ d.bi,GN N et)
theorem ajh:Gg.g1 Try.prog enc N 91 Cin.dt (Dg N):=by
 intro W n cs x h bD hw
 obtain ⟨iV,ag,I⟩:=Gg.lL Try.underlying91 h bD hw
 replace ag:=ag.trans Pt
 obtain ⟨a0,di,ec,a3,a4,h0,kO,uO,wU,rfl⟩:=ahM ag
 obtain ⟨uu,bk,gY,hk⟩:=Gg.e5 I 0 rfl rfl rfl sM (r:=[a0]) rfl
 obtain ⟨d0,iy,jj⟩:=(Gg.tW Try.underlying9) W _ _ _ bk gY hk
 have gQ:[a0]=_:=iy
 obtain rfl:a0=_:=(List.cons.inj gQ).1
 obtain ⟨uv,aq,gd,bV⟩:=Gg.e5 I 1 rfl rfl rfl Pr (r:=[di]) rfl
 obtain ⟨d1,h9,hP⟩:=(Gg.Sd Try.underlying4) W _ _ _ aq gd bV
 have bn:[di]=_:=h9
 obtain rfl:di=_:=(List.cons.inj bn).1
 obtain ⟨CK,aC,iW,l4⟩:=Gg.e5 I 2 rfl rfl rfl Vh (r:=[ec]) rfl
 obtain ⟨d2,jC,jk⟩:=(ajq) W _ _ _ aC iW l4
 obtain ⟨fK,dU,bI⟩:=Gg.ia jC
 obtain rfl:ec=_:=(List.cons.inj bI).1
 obtain ⟨CL,bw,oA,ly⟩:=Gg.e5 I 3 rfl rfl rfl DO (r:=[a3,a4]) rfl
 obtain ⟨d3,jp,oh⟩:=Mm W _ _ _ bw oA ly
 have df:[a3,a4]=_:=jp
 simp only [List.cons.injEq,and_true] at df
 obtain ⟨rfl,rfl⟩:=df
 obtain ⟨M_,dz,v5,wq⟩:=Gg.e5 I 4 rfl rfl rfl jc (r:=[h0]) rfl
 obtain ⟨d4,tS,vM⟩:=(Gg.jq Try.underlying3) W _ _ _ dz v5 wq
 have fu:[h0]=_:=tS
 obtain rfl:h0=_:=(List.cons.inj fu).1
 obtain ⟨Tv,jx,BT,Cm⟩:=Gg.e5 I 5 rfl rfl rfl jc (r:=[kO]) rfl
 obtain ⟨d5,x4,Bv⟩:=(Gg.jq Try.underlying3) W _ _ _ jx BT Cm
 have ii:[kO]=_:=x4
 obtain rfl:kO=_:=(List.cons.inj ii).1
 obtain ⟨al2,qq,LL,ML⟩:=Gg.e5 I 6 rfl rfl rfl sM (r:=[uO]) rfl
 obtain ⟨d6,Mb,K2⟩:=(Gg.tW Try.underlying9) W _ _ _ qq LL ML
 have u3:[uO]=_:=Mb
 obtain rfl:uO=_:=(List.cons.inj u3).1
 obtain ⟨aoe,u_,aiq,akr⟩:=Gg.e5 I 7 rfl rfl rfl Vi (r:=[wU]) rfl
 obtain ⟨d7,R5,ag8⟩:=(ajr) W _ _ _ u_ aiq akr
 obtain ⟨TE,T9,Vs⟩:=Gg.ia R5
 obtain rfl:wU=_:=(List.cons.inj Vs).1
 exact ⟨⟨d0,d1,d2,d3,d4,d5,d6,d7⟩,⟨fK,dU,TE,T9,rfl,jC,R5⟩,⟨jj,hP,jk,oh,vM,Bv,K2,ag8⟩⟩
theorem ajs:Gg.g1 Try.prog enc N 92 (Gg.aU Cin.dt) (fun l=>l.length* 128 <=N/\ ∀ et ∈ l,Dg N et):=by
 have h:=Gg.oH (enc:=enc) (N:=N) Try.underlying92 Pt (by decide) ajh
 rw [T2] at h
 exact h
def yP (N:Nat) (d:Cin.aG):Prop:=d.Name.length<=N/\d.bY.length<=N/\(d.Fields.length* 40 <=N/\ ∀ et ∈ d.Fields,yQ N et)/\(d.aE.length* 128 <=N/\ ∀ et ∈ d.aE,Dg N et)
theorem ajc:Gg.g1 Try.prog enc N 94 Cin.bL (yP N):=by
 intro W n cs x h bD hw
 obtain ⟨iV,ag,I⟩:=Gg.lL Try.underlying94 h bD hw
 replace ag:=ag.trans Pu
 obtain ⟨a0,di,ec,a3,rfl⟩:=RA ag
 obtain ⟨uu,bk,gY,hk⟩:=Gg.e5 I 0 rfl rfl rfl sM (r:=[a0]) rfl
 obtain ⟨d0,iy,jj⟩:=(Gg.tW Try.underlying9) W _ _ _ bk gY hk
 have gQ:[a0]=_:=iy
 obtain rfl:a0=_:=(List.cons.inj gQ).1
 obtain ⟨uv,aq,gd,bV⟩:=Gg.e5 I 1 rfl rfl rfl sM (r:=[di]) rfl
 obtain ⟨d1,h9,hP⟩:=(Gg.tW Try.underlying9) W _ _ _ aq gd bV
 have bn:[di]=_:=h9
 obtain rfl:di=_:=(List.cons.inj bn).1
 obtain ⟨CK,aC,iW,l4⟩:=Gg.e5 I 2 rfl rfl rfl Ps (r:=[ec]) rfl
 obtain ⟨d2,jC,jk⟩:=(Sf) W _ _ _ aC iW l4
 obtain ⟨fK,dU,bI⟩:=Gg.ia jC
 obtain rfl:ec=_:=(List.cons.inj bI).1
 obtain ⟨CL,bw,oA,ly⟩:=Gg.e5 I 3 rfl rfl rfl Vj (r:=[a3]) rfl
 obtain ⟨d3,jp,oh⟩:=(ajs) W _ _ _ bw oA ly
 obtain ⟨oY,gj,df⟩:=Gg.ia jp
 obtain rfl:a3=_:=(List.cons.inj df).1
 exact ⟨⟨d0,d1,d2,d3⟩,⟨fK,dU,oY,gj,rfl,jC,jp⟩,⟨jj,hP,jk,oh⟩⟩
theorem ajk:Gg.g1 Try.prog enc N 31 (Gg.aU Cin.bL) (fun l=>l.length* 80 <=N/\ ∀ et ∈ l,yP N et):=by
 have h:=Gg.oH (enc:=enc) (N:=N) Try.underlying31 Pu (by decide) ajc
 rw [T3] at h
 exact h
theorem ajl:Gg.g1 Try.prog enc N 32 (Gg.aU (Gg.aU Cin.bJ)) (fun l=>l.length* 24 <=N/\ ∀ et ∈ l,(et.length* 40 <=N/\ ∀ hn ∈ et,yQ N hn)):=by
 have h:=Gg.oH (enc:=enc) (N:=N) Try.underlying32 Ps (by decide) (Sf)
 rw [TZ] at h
 exact h
theorem ajo:Gg.g1 Try.prog enc N 80 (Gg.aU Gg.bZ) (fun l=>l.length* 16 <=N/\ ∀ et ∈ l,et.length<=N):=by
 have h:=Gg.oH (enc:=enc) (N:=N) Try.underlying80 sM (by decide) (Gg.tW Try.underlying9)
 rw [T1] at h
 exact h
theorem ajm:Gg.g1 Try.prog enc N 33 (Gg.aU (Gg.aU Gg.bZ)) (fun l=>l.length* 24 <=N/\ ∀ et ∈ l,(et.length* 16 <=N/\ ∀ hn ∈ et,hn.length<=N)):=by
 have h:=Gg.oH (enc:=enc) (N:=N) Try.underlying33 Vf (by decide) (ajo)
 rw [TX] at h
 exact h
def Dh (N:Nat) (d:Cin.Target):Prop:=Gg.hr d.aG/\Gg.hr d.Method
theorem aji:Gg.g1 Try.prog enc N 116 Cin.cz (Dh N):=by
 intro W n cs x h bD hw
 obtain ⟨iV,ag,I⟩:=Gg.lL Try.underlying116 h bD hw
 replace ag:=ag.trans Po
 obtain ⟨a0,di,rfl⟩:=Rz ag
 obtain ⟨uu,bk,gY,hk⟩:=Gg.e5 I 0 rfl rfl rfl jc (r:=[a0]) rfl
 obtain ⟨d0,iy,jj⟩:=(Gg.jq Try.underlying3) W _ _ _ bk gY hk
 have gQ:[a0]=_:=iy
 obtain rfl:a0=_:=(List.cons.inj gQ).1
 obtain ⟨uv,aq,gd,bV⟩:=Gg.e5 I 1 rfl rfl rfl jc (r:=[di]) rfl
 obtain ⟨d1,h9,hP⟩:=(Gg.jq Try.underlying3) W _ _ _ aq gd bV
 have bn:[di]=_:=h9
 obtain rfl:di=_:=(List.cons.inj bn).1
 exact ⟨⟨d0,d1⟩,rfl,⟨jj,hP⟩⟩
theorem ajp:Gg.g1 Try.prog enc N 81 (Gg.aU Cin.cz) (fun l=>l.length* 16 <=N/\ ∀ et ∈ l,Dh N et):=by
 have h:=Gg.oH (enc:=enc) (N:=N) Try.underlying81 Po (by decide) aji
 rw [TV] at h
 exact h
theorem ajn:Gg.g1 Try.prog enc N 34 (Gg.aU (Gg.aU Cin.cz)) (fun l=>l.length* 24 <=N/\ ∀ et ∈ l,(et.length* 16 <=N/\ ∀ hn ∈ et,Dh N hn)):=by
 have h:=Gg.oH (enc:=enc) (N:=N) Try.underlying34 Vg (by decide) (ajp)
 rw [TY] at h
 exact h
def Df (N:Nat) (d:Cin.bb):Prop:=(d.aK.length* 80 <=N/\ ∀ et ∈ d.aK,yP N et)/\(d.aI.length* 8 <=N/\ ∀ et ∈ d.aI,Gg.hr et)/\(d.Fields.length* 24 <=N/\ ∀ et ∈ d.Fields,(et.length* 40 <=N/\ ∀ hn ∈ et,yQ N hn))/\(d.Names.length* 24 <=N/\ ∀ et ∈ d.Names,(et.length* 16 <=N/\ ∀ hn ∈ et,hn.length<=N))/\(d.aH.length* 24 <=N/\ ∀ et ∈ d.aH,(et.length* 16 <=N/\ ∀ hn ∈ et,Dh N hn))
theorem ajg:Gg.g1 Try.prog enc N 36 Cin.akl (Df N):=by
 intro W n cs x h bD hw
 obtain ⟨iV,ag,I⟩:=Gg.lL Try.underlying36 h bD hw
 replace ag:=ag.trans Vc
 obtain ⟨a0,di,ec,a3,a4,rfl⟩:=ahJ ag
 obtain ⟨uu,bk,gY,hk⟩:=Gg.e5 I 0 rfl rfl rfl U_ (r:=[a0]) rfl
 obtain ⟨d0,iy,jj⟩:=(ajk) W _ _ _ bk gY hk
 obtain ⟨r3,uS,gQ⟩:=Gg.ia iy
 obtain rfl:a0=_:=(List.cons.inj gQ).1
 obtain ⟨uv,aq,gd,bV⟩:=Gg.e5 I 1 rfl rfl rfl HE (r:=[di]) rfl
 obtain ⟨d1,h9,hP⟩:=(Mn) W _ _ _ aq gd bV
 obtain ⟨fJ,dL,bn⟩:=Gg.ia h9
 obtain rfl:di=_:=(List.cons.inj bn).1
 obtain ⟨CK,aC,iW,l4⟩:=Gg.e5 I 2 rfl rfl rfl U' (r:=[ec]) rfl
 obtain ⟨d2,jC,jk⟩:=(ajl) W _ _ _ aC iW l4
 obtain ⟨fK,dU,bI⟩:=Gg.ia jC
 obtain rfl:ec=_:=(List.cons.inj bI).1
 obtain ⟨CL,bw,oA,ly⟩:=Gg.e5 I 3 rfl rfl rfl Va (r:=[a3]) rfl
 obtain ⟨d3,jp,oh⟩:=(ajm) W _ _ _ bw oA ly
 obtain ⟨oY,gj,df⟩:=Gg.ia jp
 obtain rfl:a3=_:=(List.cons.inj df).1
 obtain ⟨M_,dz,v5,wq⟩:=Gg.e5 I 4 rfl rfl rfl Vb (r:=[a4]) rfl
 obtain ⟨d4,tS,vM⟩:=(ajn) W _ _ _ dz v5 wq
 obtain ⟨r7,ja,fu⟩:=Gg.ia tS
 obtain rfl:a4=_:=(List.cons.inj fu).1
 exact ⟨⟨d0,d1,d2,d3,d4⟩,⟨r3,uS,fJ,dL,fK,dU,oY,gj,r7,ja,rfl,iy,h9,jC,jp,tS⟩,⟨jj,hP,jk,oh,vM⟩⟩
def NV (N:Nat) (d:Cin.qj):Prop:=Gg.hr d.db/\Gg.hr d.N/\Gg.hr d.Value/\Gg.hr d.Tag/\Gg.hr d.Length/\True
theorem ajj:Gg.g1 Try.prog enc N 38 Cin.akm (NV N):=by
 intro W n cs x h bD hw
 obtain ⟨iV,ag,I⟩:=Gg.lL Try.underlying38 h bD hw
 replace ag:=ag.trans Vd
 obtain ⟨a0,di,ec,a3,a4,h0,rfl⟩:=ahK ag
 obtain ⟨uu,bk,gY,hk⟩:=Gg.e5 I 0 rfl rfl rfl jc (r:=[a0]) rfl
 obtain ⟨d0,iy,jj⟩:=(Gg.jq Try.underlying3) W _ _ _ bk gY hk
 have gQ:[a0]=_:=iy
 obtain rfl:a0=_:=(List.cons.inj gQ).1
 obtain ⟨uv,aq,gd,bV⟩:=Gg.e5 I 1 rfl rfl rfl jc (r:=[di]) rfl
 obtain ⟨d1,h9,hP⟩:=(Gg.jq Try.underlying3) W _ _ _ aq gd bV
 have bn:[di]=_:=h9
 obtain rfl:di=_:=(List.cons.inj bn).1
 obtain ⟨CK,aC,iW,l4⟩:=Gg.e5 I 2 rfl rfl rfl jc (r:=[ec]) rfl
 obtain ⟨d2,jC,jk⟩:=(Gg.jq Try.underlying3) W _ _ _ aC iW l4
 have bI:[ec]=_:=jC
 obtain rfl:ec=_:=(List.cons.inj bI).1
 obtain ⟨CL,bw,oA,ly⟩:=Gg.e5 I 3 rfl rfl rfl jc (r:=[a3]) rfl
 obtain ⟨d3,jp,oh⟩:=(Gg.jq Try.underlying3) W _ _ _ bw oA ly
 have df:[a3]=_:=jp
 obtain rfl:a3=_:=(List.cons.inj df).1
 obtain ⟨M_,dz,v5,wq⟩:=Gg.e5 I 4 rfl rfl rfl jc (r:=[a4]) rfl
 obtain ⟨d4,tS,vM⟩:=(Gg.jq Try.underlying3) W _ _ _ dz v5 wq
 have fu:[a4]=_:=tS
 obtain rfl:a4=_:=(List.cons.inj fu).1
 obtain ⟨Tv,jx,BT,Cm⟩:=Gg.e5 I 5 rfl rfl rfl Pr (r:=[h0]) rfl
 obtain ⟨d5,x4,Bv⟩:=(Gg.Sd Try.underlying4) W _ _ _ jx BT Cm
 have ii:[h0]=_:=x4
 obtain rfl:h0=_:=(List.cons.inj ii).1
 exact ⟨⟨d0,d1,d2,d3,d4,d5⟩,rfl,⟨jj,hP,jk,oh,vM,Bv⟩⟩
end
end Go.Proofs.Ytpkhpagplommoaa
namespace Cin
def k_ (bs:Int) (lg:Int) (ll:Int):Option (Bool):=
 some ((decide (lg<=bs)) && (decide (bs<=ll)))
def Em (ah:Int):Option (Bool):=
 some ((decide (ah= 3)) || (decide (ah= 4)))
def vI (h4:List UInt8):Nat->Int->Option (Way (Bool) (Unit))
 | 0,_=>none
 | bq+ 1,lp=>
   cond (decide (lp <(h4.length:Int))) ((idx h4 lp).bind fun kG=>
   cond (((((decide ((kG.toNat:Int) < 97)) || (decide (122 <(kG.toNat:Int)))) && ((decide ((kG.toNat:Int) < 65)) || (decide (90 <(kG.toNat:Int))))) && ((decide ((kG.toNat:Int) < 48)) || (decide (57 <(kG.toNat:Int))))) && (!decide ((kG.toNat:Int)= 95))) (some (.out false)) (vI h4 bq (ay (lp+ 1)))) (some (.go ()))
def lO (F:Nat) (s_:List UInt8):Option (Bool):=
 (bytesOf s_).bind fun h4=>
 dp (α:=Unit) (vI h4 F 0) fun (_:Unit)=>
 some ((!decide (s_= [])) && (decide ((s_.length:Int)<= 20)))
def qV (F:Nat) (ah:Kind):Option (Bool):=
 (Em ah.Kind).bind fun v8=>
 cond (v8) ((lO F ah.aG).bind fun wb=>
 some wb) (some (((decide (ah.Kind= 1)) || (decide (ah.Kind= 2))) && (decide (ah.aG= []))))
def tp (F:Nat) (m_:Method):Nat->Int->Option (Way (Int) (Unit))
 | 0,_=>none
 | bq+ 1,kA=>
   cond (decide (kA <(m_.bA.length:Int))) ((idx m_.bA kA).bind fun oQ=>
   (qV F (⟨oQ.Kind,oQ.aG⟩:Kind)).bind fun Mf=>
   cond (!Mf) (some (.out 7)) (tp F m_ bq (ay (kA+ 1)))) (some (.go ()))
def tq (F:Nat) (m_:Method):Nat->Int->Option (Way (Int) (Unit))
 | 0,_=>none
 | dd+ 1,eZ=>
   cond (decide (eZ <(m_.bi.length:Int))) ((idx m_.bi eZ).bind fun iz=>
   (lO F iz.aG).bind fun B3=>
   cond (!B3) (some (.out 1)) ((k_ iz.From 0 200).bind fun iX=>
   cond (!iX) (some (.out 3)) ((k_ iz.To 0 200).bind fun x1=>
   cond (!x1) (some (.out 3)) ((k_ iz.db 0 200).bind fun B5=>
   cond (!B5) (some (.out 3)) (tq F m_ dd (ay (eZ+ 1))))))) (some (.go ()))
def tr (F:Nat) (m_:Method):Nat->Int->Option (Way (Int) (Unit))
 | 0,_=>none
 | e6+ 1,hC=>
   cond (decide (hC <(m_.bi.length:Int))) ((idx m_.bi hC).bind fun iA=>
   (lO F iA.aG).bind fun L5=>
   cond (!L5) (some (.out 1)) ((k_ iA.From 0 200).bind fun E8=>
   cond (!E8) (some (.out 3)) ((k_ iA.To 0 200).bind fun E9=>
   cond (!E9) (some (.out 3)) ((k_ iA.db 0 200).bind fun L6=>
   cond (!L6) (some (.out 3)) (tr F m_ e6 (ay (hC+ 1))))))) (some (.go ()))
def vJ (F:Nat) (m_:Method):Option (Int):=
 (lO F m_.Name).bind fun cY=>
 cond (!cY) (some 1) (cond (((decide (4 <(m_.bA.length:Int))) || (decide (200 <(m_.Code.length:Int)))) || (decide (4 <(m_.bi.length:Int)))) (some 2) ((k_ m_.c9 0 10).bind fun g6=>
 cond (!g6) (some 3) ((k_ m_.c8 0 10).bind fun lX=>
 cond (!lX) (some 3) (dp (α:=Unit) (tp F m_ F 0) fun (_:Unit)=>
 cond (!decide ((⟨m_.Returns.Kind,m_.Returns.aG⟩:Kind)=(⟨0,[]⟩:Kind))) ((qV F (⟨m_.Returns.Kind,m_.Returns.aG⟩:Kind)).bind fun Mg=>
 cond (!Mg) (some 7) (dp (α:=Unit) (tq F m_ F 0) fun (_:Unit)=>
 some 0)) (dp (α:=Unit) (tr F m_ F 0) fun (_:Unit)=>
 some 0)))))
def tk (F:Nat) (c_:aG):Nat->Int->Option (Way (Int) (Unit))
 | 0,_=>none
 | bq+ 1,ea=>
   cond (decide (ea <(c_.Fields.length:Int))) ((idx c_.Fields ea).bind fun kH=>
   (lO F kH.Name).bind fun wc=>
   cond (!wc) (some (.out 1)) ((qV F (⟨kH.Kind.Kind,kH.Kind.aG⟩:Kind)).bind fun jo=>
   cond (!jo) (some (.out 7)) (tk F c_ bq (ay (ea+ 1))))) (some (.go ()))
def tl (F:Nat) (c_:aG):Nat->Int->Option (Way (Int) (Unit))
 | 0,_=>none
 | dd+ 1,eZ=>
   cond (decide (eZ <(c_.aE.length:Int))) ((idx c_.aE eZ).bind fun dS=>
   (vJ F (⟨dS.Name,dS.Static,dS.bA,(⟨dS.Returns.Kind,dS.Returns.aG⟩:Kind),dS.c9,dS.c8,dS.Code,dS.bi⟩:Method)).bind fun iX=>
   cond (!decide (iX= 0)) (some (.out iX)) (tl F c_ dd (ay (eZ+ 1)))) (some (.go ()))
def tm (F:Nat) (c_:aG):Nat->Int->Option (Way (Int) (Unit))
 | 0,_=>none
 | e6+ 1,jA=>
   cond (decide (jA <(c_.Fields.length:Int))) ((idx c_.Fields jA).bind fun kF=>
   (lO F kF.Name).bind fun L0=>
   cond (!L0) (some (.out 1)) ((qV F (⟨kF.Kind.Kind,kF.Kind.aG⟩:Kind)).bind fun L1=>
   cond (!L1) (some (.out 7)) (tm F c_ e6 (ay (jA+ 1))))) (some (.go ()))
def tn (F:Nat) (c_:aG):Nat->Int->Option (Way (Int) (Unit))
 | 0,_=>none
 | g3+ 1,jZ=>
   cond (decide (jZ <(c_.aE.length:Int))) ((idx c_.aE jZ).bind fun dT=>
   (vJ F (⟨dT.Name,dT.Static,dT.bA,(⟨dT.Returns.Kind,dT.Returns.aG⟩:Kind),dT.c9,dT.c8,dT.Code,dT.bi⟩:Method)).bind fun v'=>
   cond (!decide (v'= 0)) (some (.out v')) (tn F c_ g3 (ay (jZ+ 1)))) (some (.go ()))
def Bt (F:Nat) (c_:aG):Option (Int):=
 (lO F c_.Name).bind fun cY=>
 cond (!cY) (some 1) (cond (!decide (c_.bY= [])) ((lO F c_.bY).bind fun g6=>
 cond (!g6) (some 1) (cond ((decide (6 <(c_.Fields.length:Int))) || (decide (8 <(c_.aE.length:Int)))) (some 2) (dp (α:=Unit) (tk F c_ F 0) fun (_:Unit)=>
 dp (α:=Unit) (tl F c_ F 0) fun (_:Unit)=>
 some 0))) (cond ((decide (6 <(c_.Fields.length:Int))) || (decide (8 <(c_.aE.length:Int)))) (some 2) (dp (α:=Unit) (tm F c_ F 0) fun (_:Unit)=>
 dp (α:=Unit) (tn F c_ F 0) fun (_:Unit)=>
 some 0)))
def tj (F:Nat) (a6:List aG):Nat->Int->Option (Way (Int) (Unit))
 | 0,_=>none
 | bq+ 1,j1=>
   cond (decide (j1 <(a6.length:Int))) ((idx a6 j1).bind fun hW=>
   (Bt F (⟨hW.Name,hW.bY,hW.Fields,hW.aE⟩:aG)).bind fun v7=>
   cond (!decide (v7= 0)) (some (.out v7)) (tj F a6 bq (ay (j1+ 1)))) (some (.go ()))
def Bs (F:Nat) (a6:List aG):Option (Int):=
 cond (decide (10 <(a6.length:Int))) (some 2) (dp (α:=Unit) (tj F a6 F 0) fun (_:Unit)=>
 some 0)
end Cin
namespace Go.Proofs.Ytpkhpagplommoaa
open Go Go.RowKit Gg
set_option maxHeartbeats 4000000
set_option maxRecDepth 20000
theorem sL {W:World} {X:List Nat} {bs:Int} {lg:Int} {ll:Int} {r:Bool} (hm:aD W (aT []) X W [] []) (h:Cin.k_ bs lg ll=some r) :
 Calls Try.prog 87 [.i bs,.i lg,.i ll].toArray W (fun e az=>e= .returned (.bool r)/\aD W (aT []) X az [] []):=by
 generalize bK:aT []=aR at hm ⊢;clear bK;refine enter Try.func87 rfl Try.ntmps87 rfl ?_;intro a I;rw [Cin.k_] at h;refine aP [] [(0,.i bs),(1,.i lg),(2,.i ll)] I fun a I=>?_;refine aP [0,0,0,0] [(6,.bool ((decide (lg<=bs)) && (decide (bs<=ll))))] I fun a I=>?_;refine wp_ret ?_;obtain rfl:=Option.some.inj h;refine bE Try.results87 I rfl ?_;exact ⟨rfl,(hm.a7 [] rfl rfl).pick trivial⟩
theorem Uv {W:World} {X:List Nat} {ah:Int} {r:Bool} (hm:aD W (aT []) X W [] []) (h:Cin.Em ah=some r) :
 Calls Try.prog 86 [.i ah].toArray W (fun e az=>e= .returned (.bool r)/\aD W (aT []) X az [] []):=by
 generalize bK:aT []=aR at hm ⊢;clear bK;refine enter Try.func86 rfl Try.ntmps86 rfl ?_;intro a I;rw [Cin.Em] at h;refine aP [] [(0,.i ah)] I fun a I=>?_;refine aP [0,0,0] [(2,.bool ((decide (ah= 3)) || (decide (ah= 4))))] I fun a I=>?_;refine wp_ret ?_;obtain rfl:=Option.some.inj h;refine bE Try.results86 I rfl ?_;exact ⟨rfl,(hm.a7 [] rfl rfl).pick trivial⟩
theorem sK {W:World} {X:List Nat} {F:Nat} {s_:List UInt8} {r:Bool} (hm:aD W (aT []) X W [] []) (h:Cin.lO F s_=some r) :
 Calls Try.prog 63 [au s_].toArray W (fun e az=>e= .returned (.bool r)/\aD W (aT []) X az [] []):=by
 generalize bK:aT []=aR at hm ⊢;clear bK;refine enter Try.func63 rfl Try.ntmps63 rfl ?_;intro a I;rw [Cin.lO] at h;refine aP [] [(0,au s_)] I fun a I=>?_;refine wp_seq_k fun K bS=>?_;refine wp_seq_k fun K cn=>?_;refine a5 ?_;refine aN 1 [] [(0,au s_),(5,au s_)] I fun a I=>?_;obtain ⟨h4,ade,h⟩:=Cin.aV h;refine aic ade Try.underlying9 Try.underlying140 Try.underlying5 (av rfl) rfl (I.g rfl) I hm rfl rfl ?_;intro a aJ aO w U I hm;clear U;refine aN 2 [] [(0,au s_),(6,.slice aJ h4.length aO),(7,.i (h4.length:Int)),(8,.i 0)] I fun a I=>wpList_nil (cn _ _ ?_);obtain ⟨KH,h,I7⟩:=Cin.fA h
 refine dj (fun a w=>Fr ⟨46,[]⟩ [(0,au s_)] a/\aD W aR X w [] [aa Fv aJ aO h4]/\KH=(.go ())) (fun K dc=>?_) ?_
 · refine dV (fun (bq:Nat) a w=>∃ (lp:Int),Fr ⟨46,[]⟩ [(0,au s_),(6,.slice aJ h4.length aO),(7,.i (h4.length:Int)),(8,.i lp)] a/\aD W aR X w [] [aa Fv aJ aO h4]/\Cin.vI h4 bq lp=some KH) F ⟨0,I.sub ⟨rfl,rfl,rfl,rfl,trivial⟩,hm,h⟩ ?_ ?_
   · rintro a w ⟨lp,I,hm,h⟩;exact absurd h (by simp [Cin.vI])
   rintro bq a w ⟨lp,I,hm,h⟩ K c3;rw [Cin.vI] at h;refine aP [] [(0,au s_),(6,.slice aJ h4.length aO),(7,.i (h4.length:Int)),(8,.i lp),(9,.bool (decide (lp <(h4.length:Int))))] I fun a I=>?_;refine wp_seq_k fun K dN=>?_;refine bH (I.g rfl) h (fun Y2 h=>?_) (fun Y2 h=>?_)
   · refine wp_skip ?_;refine dN _ _ ?_;refine wp_seq_k fun K dq=>?_;refine wp_block ?_;refine wp_seq_k fun K eV=>?_;refine a5 ?_;obtain ⟨kG,af8,h⟩:=Cin.aV h;obtain ⟨W9,acv,_,rfl,aam⟩:=da _ (hm.d 0 rfl) af8;refine bW (av rfl) (cv Try.underlying140 Try.sizeOf5 rfl (I.g rfl) (I.g rfl) W9 acv) I rfl rfl fun a I=>?_;refine bj 2 [0,0] [(0,au s_),(4,.int .u8 (kG.toNat:Int)),(6,.slice aJ h4.length aO),(7,.i (h4.length:Int)),(8,.i lp)] [ct aJ,cy aJ+(lp).toNat* 1] (aQ aam aS) I fun a I=>wpList_nil (eV _ _ ?_);refine wp_seq_k fun K dk=>?_
     refine c6 [0,0,0,0,0,0,0,0,0,0,0,0,0,0,0,0,0,0,0,0,0,0] [(0,au s_),(6,.slice aJ h4.length aO),(7,.i (h4.length:Int)),(8,.i lp),(37,.bool (((((decide ((kG.toNat:Int) < 97)) || (decide (122 <(kG.toNat:Int)))) && ((decide ((kG.toNat:Int) < 65)) || (decide (90 <(kG.toNat:Int))))) && ((decide ((kG.toNat:Int) < 48)) || (decide (57 <(kG.toNat:Int))))) && (!decide ((kG.toNat:Int)= 95))))] I fun a I=>dk _ _ ?_;refine bH (I.g rfl) h (fun Y_ h=>?_) (fun Y_ h=>?_)
     · refine aP [] [(2,.bool false)] I fun a I=>?_;refine wp_ret ?_;obtain rfl:=Option.some.inj h;obtain rfl:=Option.some.inj (show some (_)=some _ from I7);refine bO (aW (aW (bO (aW (aW ?_)))));refine bE Try.results63 I rfl ?_;exact ⟨rfl,(hm.a7 [] rfl rfl).pick trivial⟩
     refine wp_skip ?_;refine dq _ _ ?_;refine c6 [] [(0,au s_),(6,.slice aJ h4.length aO),(7,.i (h4.length:Int)),(8,.i (Cin.ay (lp+ 1)))] I fun a I=>?_;exact c3 _ _ ⟨Cin.ay (lp+ 1),I.sub ⟨rfl,rfl,rfl,rfl,trivial⟩,hm,h⟩
   refine wp_exit ?_;refine b9 (b9 (dF ?_));exact dc _ _ ⟨I.sub ⟨rfl,trivial⟩,hm,(Option.some.inj h).symm⟩
 rintro a w ⟨I,hm,bf⟩;subst KH;have h:=I7;clear I7;dsimp only [Cin.fm] at h;refine bS _ _ ?_;refine aP [0,0,0,0] [(2,.bool ((!decide (s_= [])) && (decide ((s_.length:Int)<= 20))))] I fun a I=>?_;refine wp_ret ?_;obtain rfl:=Option.some.inj h;refine bE Try.results63 I rfl ?_;exact ⟨rfl,(hm.a7 [] rfl rfl).pick trivial⟩
theorem DL {W:World} {X:List Nat} {F:Nat} {ah:Cin.Kind} {r:Bool} (hm:aD W (aT []) X W [] []) (h:Cin.qV F ah=some r) :
 Calls Try.prog 64 [.agg #[.i ah.Kind,au ah.aG]].toArray W (fun e az=>e= .returned (.bool r)/\aD W (aT []) X az [] []):=by
 generalize bK:aT []=aR at hm ⊢;clear bK;refine enter Try.func64 rfl Try.ntmps64 rfl ?_;intro a I;rw [Cin.qV] at h;refine wp_seq_k fun K dx=>?_;refine a5 ?_;refine c5 (cs:=[.i ah.Kind,au ah.aG]) (av rfl) (eY rfl rfl (I.g rfl)) I hm rfl rfl ?_;intro a ao w U I hm;clear U;refine aN 1 [] [(1,.J ao)] I fun a I=>wpList_nil (dx _ _ ?_);refine wp_seq_k fun K bS=>?_;refine wp_seq_k fun K cn=>?_;refine a5 ?_;refine bj 2 [0,0] [(1,.J ao),(4,.i ah.Kind)] [ao,0] (aQ (bh (hm.e 0 rfl)) aS) I fun a I=>?_;obtain ⟨v8,J2,h⟩:=Cin.aV h;have hc:=hm
 refine b4 (vs:=[.i ah.Kind]) (av rfl) rfl Try.call86 ⟨(I.g rfl),trivial⟩ (Uv ((hc.into 0).pick trivial) J2) I rfl rfl ?_;rintro _ w ⟨rfl,ad⟩;refine ⟨_,rfl,?_⟩;intro a I;have U:aX [] _ w:=ad.ev;have hm:=hc.back 0 ad;dsimp only [List.drop,List.cons_append,List.nil_append,HAppend.hAppend,Append.append,List.append] at hm;clear ad hc;clear U;refine wpList_nil ?_;refine cn _ _ ?_;refine bH (I.g rfl) h (fun qz h=>?_) (fun qz h=>?_)
 · refine wp_seq_k fun K dc=>?_;refine a5 ?_;refine bj 2 [0,1] [(7,au ah.aG)] [ao,1] (aQ (bh (hm.e 0 rfl)) aS) I fun a I=>?_;obtain ⟨wb,J7,h⟩:=Cin.aV h;have hc:=hm;refine b4 (vs:=[au ah.aG]) (av rfl) rfl Try.call63 ⟨(I.g rfl),trivial⟩ (sK ((hc.into 0).pick trivial) J7) I rfl rfl ?_;rintro _ w ⟨rfl,ad⟩;refine ⟨_,rfl,?_⟩;intro a I;have U:aX [] _ w:=ad.ev;have hm:=hc.back 0 ad;dsimp only [List.drop,List.cons_append,List.nil_append,HAppend.hAppend,Append.append,List.append] at hm;clear ad hc;clear U;refine aN 1 [] [(2,.bool wb)] I fun a I=>wpList_nil (dc _ _ ?_);refine wp_ret ?_;obtain rfl:=Option.some.inj h;refine aW ?_;refine bE Try.results64 I rfl ?_;exact ⟨rfl,(hm.a7 [] rfl rfl).pick trivial⟩
 refine wp_skip ?_;refine bS _ _ ?_;refine wp_seq_k fun K c3=>?_;refine rg [0,0,0,0,0,0,0,0,0,0,0,1,0,0] [(2,.bool (((decide (ah.Kind= 1)) || (decide (ah.Kind= 2))) && (decide (ah.aG= []))))] [ao,1,ao,0,ao,0] (aQ (bh (hm.e 0 rfl)) aS) I fun a I=>c3 _ _ ?_;refine wp_ret ?_;obtain rfl:=Option.some.inj h;refine bE Try.results64 I rfl ?_;exact ⟨rfl,(hm.a7 [] rfl rfl).pick trivial⟩
theorem O6 {W:World} {X:List Nat} {F:Nat} {m_:Cin.Method} {r:Int} {aj:Option Addr} {ar:Nat} {aJ:Option Addr} {aO:Nat} (hm:aD W (aT []) X W [] [aa Cin.fb aj ar m_.bA,aa Cin.fI aJ aO m_.bi]) (h:Cin.vJ F m_=some r) :
 Calls Try.prog 65 [.agg #[au m_.Name,.bool m_.Static,.slice aj m_.bA.length ar,.i m_.Returns.Kind,au m_.Returns.aG,.i m_.c9,.i m_.c8,au m_.Code,.slice aJ m_.bi.length aO]].toArray W (fun e az=>e= .returned (.i r)/\aD W (aT []) X az [] []):=by
 generalize bK:aT []=aR at hm ⊢;clear bK;refine enter Try.func65 rfl Try.ntmps65 rfl ?_;intro a I;rw [Cin.vJ] at h;refine wp_seq_k fun K dx=>?_;refine a5 ?_;refine c5 (cs:=[au m_.Name,.bool m_.Static,.slice aj m_.bA.length ar,.i m_.Returns.Kind,au m_.Returns.aG,.i m_.c9,.i m_.c8,au m_.Code,.slice aJ m_.bi.length aO]) (av rfl) (eY rfl rfl (I.g rfl)) I hm rfl rfl ?_;intro a b2 w U I hm;clear U;refine aN 1 [] [(1,.J b2)] I fun a I=>wpList_nil (dx _ _ ?_);refine wp_seq_k fun K bS=>?_;refine wp_block ?_;refine wp_seq_k fun K cn=>?_;refine a5 ?_
 refine bj 2 [0,0] [(1,.J b2),(9,au m_.Name)] [b2,0] (aQ (bh (hm.e 0 rfl)) aS) I fun a I=>?_;obtain ⟨cY,vE,h⟩:=Cin.aV h;have hc:=hm;refine b4 (vs:=[au m_.Name]) (av rfl) rfl Try.call63 ⟨(I.g rfl),trivial⟩ (sK ((hc.into 0).pick trivial) vE) I rfl rfl ?_;rintro _ w ⟨rfl,ad⟩;refine ⟨_,rfl,?_⟩;intro a I;have U:aX [] _ w:=ad.ev;have hm:=hc.back 0 ad;dsimp only [List.drop,List.cons_append,List.nil_append,HAppend.hAppend,Append.append,List.append] at hm;clear ad hc;clear U;refine aN 2 [] [(1,.J b2),(7,.bool (!cY))] I fun a I=>wpList_nil (cn _ _ ?_);refine bH (I.g rfl) h (fun k5 h=>?_) (fun k5 h=>?_)
 · refine aP [] [(2,.i 1)] I fun a I=>?_;refine wp_ret ?_;obtain rfl:=Option.some.inj h;refine bO (aW ?_);refine bE Try.results65 I rfl ?_;exact ⟨rfl,(hm.a7 [] rfl rfl).pick trivial⟩
 refine wp_seq_k fun K c3=>?_;refine rg [0,2,0,0,0,7,0,0,0,0,0,0,8,0,0,0] [(1,.J b2),(12,.bool (((decide (4 <(m_.bA.length:Int))) || (decide (200 <(m_.Code.length:Int)))) || (decide (4 <(m_.bi.length:Int)))))] [b2,8,b2,7,b2,2] (aQ (bh (hm.e 0 rfl)) aS) I fun a I=>c3 _ _ ?_;refine bH (I.g rfl) h (fun qB h=>?_) (fun qB h=>?_)
 · refine aP [] [(2,.i 2)] I fun a I=>?_;refine wp_ret ?_;obtain rfl:=Option.some.inj h;refine bO (aW ?_);refine bE Try.results65 I rfl ?_;exact ⟨rfl,(hm.a7 [] rfl rfl).pick trivial⟩
 refine wp_seq_k fun K dN=>?_;refine a5 ?_;refine bj 2 [0,5] [(1,.J b2),(31,.i m_.c9)] [b2,5] (aQ (bh (hm.e 0 rfl)) aS) I fun a I=>?_;obtain ⟨g6,Bf,h⟩:=Cin.aV h;have hc:=hm;refine b4 (vs:=[.i m_.c9,.i 0,.i 10]) (av rfl) rfl Try.call87 ⟨(I.g rfl),(dg _ _),(dg _ _),trivial⟩ (sL ((hc.into 0).pick trivial) Bf) I rfl rfl ?_;rintro _ w ⟨rfl,ad⟩;refine ⟨_,rfl,?_⟩;intro a I;have U:aX [] _ w:=ad.ev;have hm:=hc.back 0 ad;dsimp only [List.drop,List.cons_append,List.nil_append,HAppend.hAppend,Append.append,List.append] at hm;clear ad hc;clear U;refine aN 2 [] [(1,.J b2),(34,.bool (!g6))] I fun a I=>?_
 rcases Bool.eq_false_or_eq_true (!g6) with im | im
 · have h:=Cin.ew im h;have I:=I.cS 34 rfl im;refine aN 6 [1,1,1,1,1] [(1,.J b2),(29,.bool true)] I fun a I=>wpList_nil (dN _ _ ?_);refine ft (I.g rfl) rfl ?_;refine aP [] [(2,.i 3)] I fun a I=>?_;refine wp_ret ?_;obtain rfl:=Option.some.inj h;refine bO (aW ?_);refine bE Try.results65 I rfl ?_;exact ⟨rfl,(hm.a7 [] rfl rfl).pick trivial⟩
 have h:=Cin.eu im h;have I:=I.cS 34 rfl im;refine bj 2 [1,1,0,6] [(1,.J b2),(34,.bool false),(36,.i m_.c8)] [b2,6] (aQ (bh (hm.e 0 rfl)) aS) I fun a I=>?_;obtain ⟨lX,Bg,h⟩:=Cin.aV h;have hc:=hm;refine b4 (vs:=[.i m_.c8,.i 0,.i 10]) (ep I rfl rfl rfl rfl) rfl Try.call87 ⟨(I.g rfl),(dg _ _),(dg _ _),trivial⟩ (sL ((hc.into 0).pick trivial) Bg) I rfl rfl ?_;rintro _ w ⟨rfl,ad⟩;refine ⟨_,rfl,?_⟩;intro a I;have U:aX [] _ w:=ad.ev;have hm:=hc.back 0 ad;dsimp only [List.drop,List.cons_append,List.nil_append,HAppend.hAppend,Append.append,List.append] at hm;clear ad hc;clear U
 refine aN 3 [1,1] [(1,.J b2),(29,.bool (!lX))] I fun a I=>wpList_nil (dN _ _ ?_);refine bH (I.g rfl) h (fun mz h=>?_) (fun mz h=>?_)
 · refine aP [] [(2,.i 3)] I fun a I=>?_;refine wp_ret ?_;obtain rfl:=Option.some.inj h;refine bO (aW ?_);refine bE Try.results65 I rfl ?_;exact ⟨rfl,(hm.a7 [] rfl rfl).pick trivial⟩
 refine wp_skip ?_;refine bS _ _ ?_;refine wp_seq_k fun K dk=>?_;refine wp_seq_k fun K dR=>?_;refine rg [0,2] [(1,.J b2),(41,.slice aj m_.bA.length ar),(42,.i (m_.bA.length:Int)),(43,.i 0)] [b2,2] (aQ (bh (hm.e 0 rfl)) aS) I fun a I=>dR _ _ ?_;obtain ⟨KO,h,Jf⟩:=Cin.fA h
 refine dj (fun a w=>Fr ⟨91,[]⟩ [(1,.J b2)] a/\aD W aR X w [aw.br b2 91 [au m_.Name,.bool m_.Static,.slice aj m_.bA.length ar,.i m_.Returns.Kind,au m_.Returns.aG,.i m_.c9,.i m_.c8,au m_.Code,.slice aJ m_.bi.length aO]] [aa Cin.fb aj ar m_.bA,aa Cin.fI aJ aO m_.bi]/\KO=(.go ())) (fun K ey=>?_) ?_
 · refine dV (fun (bq:Nat) a w=>∃ (kA:Int),Fr ⟨91,[]⟩ [(1,.J b2),(41,.slice aj m_.bA.length ar),(42,.i (m_.bA.length:Int)),(43,.i kA)] a/\aD W aR X w [aw.br b2 91 [au m_.Name,.bool m_.Static,.slice aj m_.bA.length ar,.i m_.Returns.Kind,au m_.Returns.aG,.i m_.c9,.i m_.c8,au m_.Code,.slice aJ m_.bi.length aO]] [aa Cin.fb aj ar m_.bA,aa Cin.fI aJ aO m_.bi]/\Cin.tp F m_ bq kA=some KO) F ⟨0,I.sub ⟨rfl,rfl,rfl,rfl,trivial⟩,hm,h⟩ ?_ ?_
   · rintro a w ⟨kA,I,hm,h⟩;exact absurd h (by simp [Cin.tp])
   rintro bq a w ⟨kA,I,hm,h⟩ K eg;rw [Cin.tp] at h;refine aP [] [(1,.J b2),(41,.slice aj m_.bA.length ar),(42,.i (m_.bA.length:Int)),(43,.i kA),(44,.bool (decide (kA <(m_.bA.length:Int))))] I fun a I=>?_;refine wp_seq_k fun K gw=>?_;refine bH (I.g rfl) h (fun Zp h=>?_) (fun Zp h=>?_)
   · refine wp_skip ?_;refine gw _ _ ?_;refine wp_seq_k fun K hz=>?_;refine wp_block ?_;refine wp_seq_k fun K ij=>?_;refine a5 ?_;obtain ⟨oQ,agh,h⟩:=Cin.aV h;obtain ⟨Xk,acI,_,rfl,aaA⟩:=da _ (hm.d 0 rfl) agh;refine bW (av rfl) (cv Try.underlying86 Try.sizeOf88 rfl (I.g rfl) (I.g rfl) Xk acI) I rfl rfl fun a I=>?_;refine bj 1 [0,0] [(1,.J b2),(41,.slice aj m_.bA.length ar),(42,.i (m_.bA.length:Int)),(43,.i kA),(46,.agg #[.i oQ.Kind,au oQ.aG])] [ct aj,cy aj+(kA).toNat* 2] (aQ aaA aS) I fun a I=>?_;refine c5 (cs:=[.i 0,au []]) (av rfl) (e3 Try.zeroValue88 rfl rfl) I hm rfl rfl ?_;intro a V_ w U I hm;clear U
     refine c1 (vs:=[.i oQ.Kind,au oQ.aG]) 0 hm rfl (av rfl) rfl Try.sizeOf88 rfl rfl rfl rfl (I.g rfl) (I.g rfl) rfl ?_;intro w hm;simp only [List.set,lay,List.drop,List.length,List.cons_append,List.nil_append] at hm;refine wpList_nil ?_;refine ij _ _ ?_;refine wp_seq_k fun K f_=>?_;refine a5 ?_;refine bj 1 [0,0] [(1,.J b2),(41,.slice aj m_.bA.length ar),(42,.i (m_.bA.length:Int)),(43,.i kA),(47,.agg #[.i oQ.Kind,au oQ.aG])] [V_,0] (aQ (bh (hm.e 0 rfl)) aS) I fun a I=>?_;obtain ⟨Mf,aeT,h⟩:=Cin.aV h;have hc:=hm;refine b4 (vs:=[.agg #[.i oQ.Kind,au oQ.aG]]) (av rfl) rfl Try.call64 ⟨(I.g rfl),trivial⟩ (DL ((hc.into 0).pick trivial) aeT) I rfl rfl ?_
     rintro _ w ⟨rfl,ad⟩;refine ⟨_,rfl,?_⟩;intro a I;have U:aX [] _ w:=ad.ev;have hm:=hc.back 0 ad;dsimp only [List.drop,List.cons_append,List.nil_append,HAppend.hAppend,Append.append,List.append] at hm;clear ad hc;clear U;refine aN 1 [] [(1,.J b2),(41,.slice aj m_.bA.length ar),(42,.i (m_.bA.length:Int)),(43,.i kA),(49,.bool (!Mf))] I fun a I=>wpList_nil (f_ _ _ ?_);refine bH (I.g rfl) h (fun Zs h=>?_) (fun Zs h=>?_)
     · refine aP [] [(2,.i 7)] I fun a I=>?_;refine wp_ret ?_;obtain rfl:=Option.some.inj h;obtain rfl:=Option.some.inj (show some (_)=some _ from Jf);refine bO (aW (aW (bO (aW (aW ?_)))));refine bE Try.results65 I rfl ?_;exact ⟨rfl,(hm.a7 [] rfl rfl).pick trivial⟩
     refine wp_skip ?_;refine hz _ _ ?_;refine c6 [] [(1,.J b2),(41,.slice aj m_.bA.length ar),(42,.i (m_.bA.length:Int)),(43,.i (Cin.ay (kA+ 1)))] I fun a I=>?_;exact eg _ _ ⟨Cin.ay (kA+ 1),I.sub ⟨rfl,rfl,rfl,rfl,trivial⟩,(hm.a7 [1] rfl rfl),h⟩
   refine wp_exit ?_;refine b9 (b9 (dF ?_));exact ey _ _ ⟨I.sub ⟨rfl,trivial⟩,hm,(Option.some.inj h).symm⟩
 rintro a w ⟨I,hm,bf⟩;subst KO;have h:=Jf;clear Jf;dsimp only [Cin.fm] at h;refine dk _ _ ?_;refine wp_seq_k fun K gI=>?_;refine wp_seq_k fun K h2=>?_;refine a5 ?_;refine bj 2 [0,3] [(1,.J b2),(52,.agg #[.i m_.Returns.Kind,au m_.Returns.aG])] [b2,3] (aQ (bh (hm.e 0 rfl)) aS) I fun a I=>?_;refine bW (av rfl) (gP (vs:=[]) (cs:=[.i 0,au []]) Try.zeroValue88 Try.underlying88 RS rfl trivial (by kernel_rfl)) I rfl rfl fun a I=>?_;refine bW (av rfl) (PL (X:=(⟨m_.Returns.Kind,m_.Returns.aG⟩:Cin.Kind)) (Y:=(⟨0,[]⟩:Cin.Kind)) rfl (I.g rfl) (I.g rfl)) I rfl rfl fun a I=>?_
 refine aN 1 [] [(1,.J b2),(55,.bool (!decide ((⟨m_.Returns.Kind,m_.Returns.aG⟩:Cin.Kind)=(⟨0,[]⟩:Cin.Kind))))] I fun a I=>?_;rcases Bool.eq_false_or_eq_true (!decide ((⟨m_.Returns.Kind,m_.Returns.aG⟩:Cin.Kind)=(⟨0,[]⟩:Cin.Kind))) with AO | AO
 · have h:=Cin.ew AO h;have I:=I.cS 55 rfl AO;refine bj 2 [1,1,0,3] [(1,.J b2),(55,.bool true),(57,.agg #[.i m_.Returns.Kind,au m_.Returns.aG])] [b2,3] (aQ (bh (hm.e 0 rfl)) aS) I fun a I=>?_;obtain ⟨Mg,aeW,h⟩:=Cin.aV h;have hc:=hm;refine b4 (vs:=[.agg #[.i m_.Returns.Kind,au m_.Returns.aG]]) (ep I rfl rfl rfl rfl) rfl Try.call64 ⟨(I.g rfl),trivial⟩ (DL ((hc.into 0).pick trivial) aeW) I rfl rfl ?_;rintro _ w ⟨rfl,ad⟩;refine ⟨_,rfl,?_⟩;intro a I;have U:aX [] _ w:=ad.ev;have hm:=hc.back 0 ad;dsimp only [List.drop,List.cons_append,List.nil_append,HAppend.hAppend,Append.append,List.append] at hm;clear ad hc;clear U
   refine aN 2 [1,1] [(1,.J b2),(60,.bool (!Mg))] I fun a I=>wpList_nil (h2 _ _ ?_);refine bH (I.g rfl) h (fun Zu h=>?_) (fun Zu h=>?_)
   · refine aP [] [(2,.i 7)] I fun a I=>?_;refine wp_ret ?_;obtain rfl:=Option.some.inj h;refine aW ?_;refine bE Try.results65 I rfl ?_;exact ⟨rfl,(hm.a7 [] rfl rfl).pick trivial⟩
   refine wp_skip ?_;refine gI _ _ ?_;refine wp_seq_k fun K il=>?_;refine wp_seq_k fun K mv=>?_;refine rg [0,8] [(62,.slice aJ m_.bi.length aO),(63,.i (m_.bi.length:Int)),(64,.i 0)] [b2,8] (aQ (bh (hm.e 0 rfl)) aS) I fun a I=>mv _ _ ?_;obtain ⟨Kq,h,xw⟩:=Cin.fA h;refine dj (fun a w=>Fr ⟨91,[]⟩ [] a/\aD W aR X w [aw.br b2 91 [au m_.Name,.bool m_.Static,.slice aj m_.bA.length ar,.i m_.Returns.Kind,au m_.Returns.aG,.i m_.c9,.i m_.c8,au m_.Code,.slice aJ m_.bi.length aO]] [aa Cin.fb aj ar m_.bA,aa Cin.fI aJ aO m_.bi]/\Kq=(.go ())) (fun K iN=>?_) ?_
   · refine dV (fun (dd:Nat) a w=>∃ (eZ:Int),Fr ⟨91,[]⟩ [(62,.slice aJ m_.bi.length aO),(63,.i (m_.bi.length:Int)),(64,.i eZ)] a/\aD W aR X w [aw.br b2 91 [au m_.Name,.bool m_.Static,.slice aj m_.bA.length ar,.i m_.Returns.Kind,au m_.Returns.aG,.i m_.c9,.i m_.c8,au m_.Code,.slice aJ m_.bi.length aO]] [aa Cin.fb aj ar m_.bA,aa Cin.fI aJ aO m_.bi]/\Cin.tq F m_ dd eZ=some Kq) F ⟨0,I.sub ⟨rfl,rfl,rfl,trivial⟩,hm,h⟩ ?_ ?_
     · rintro a w ⟨eZ,I,hm,h⟩;exact absurd h (by simp [Cin.tq])
     rintro dd a w ⟨eZ,I,hm,h⟩ K jP;rw [Cin.tq] at h;refine aP [] [(62,.slice aJ m_.bi.length aO),(63,.i (m_.bi.length:Int)),(64,.i eZ),(65,.bool (decide (eZ <(m_.bi.length:Int))))] I fun a I=>?_;refine wp_seq_k fun K mX=>?_;refine bH (I.g rfl) h (fun Yj h=>?_) (fun Yj h=>?_)
     · refine wp_skip ?_;refine mX _ _ ?_;refine wp_seq_k fun K k2=>?_;refine wp_block ?_;refine wp_seq_k fun K qu=>?_;refine a5 ?_;obtain ⟨iz,afG,h⟩:=Cin.aV h;obtain ⟨WB,abY,_,rfl,ZQ⟩:=da _ (hm.d 1 rfl) afG;refine bW (av rfl) (cv Try.underlying89 Try.sizeOf107 rfl (I.g rfl) (I.g rfl) WB abY) I rfl rfl fun a I=>?_;refine bj 1 [0,0] [(62,.slice aJ m_.bi.length aO),(63,.i (m_.bi.length:Int)),(64,.i eZ),(67,.agg #[.i iz.From,.i iz.To,.i iz.db,au iz.aG])] [ct aJ,cy aJ+(eZ).toNat* 4] (aQ ZQ aS) I fun a I=>?_;refine c5 (cs:=[.i 0,.i 0,.i 0,au []]) (av rfl) (e3 Try.zeroValue107 rfl rfl) I hm rfl rfl ?_;intro a pg w U I hm
       clear U;refine c1 (vs:=[.i iz.From,.i iz.To,.i iz.db,au iz.aG]) 0 hm rfl (av rfl) rfl Try.sizeOf107 rfl rfl rfl rfl (I.g rfl) (I.g rfl) rfl ?_;intro w hm;simp only [List.set,lay,List.drop,List.length,List.cons_append,List.nil_append] at hm;refine wpList_nil ?_;refine qu _ _ ?_;refine wp_block ?_;refine wp_seq_k fun K mY=>?_;refine a5 ?_;refine bj 2 [0,3] [(6,.J pg),(62,.slice aJ m_.bi.length aO),(63,.i (m_.bi.length:Int)),(64,.i eZ),(70,au iz.aG)] [pg,3] (aQ (bh (hm.e 0 rfl)) aS) I fun a I=>?_;obtain ⟨B3,ad7,h⟩:=Cin.aV h;have hc:=hm
       refine b4 (vs:=[au iz.aG]) (av rfl) rfl Try.call63 ⟨(I.g rfl),trivial⟩ (sK ((hc.into 0).pick trivial) ad7) I rfl rfl ?_;rintro _ w ⟨rfl,ad⟩;refine ⟨_,rfl,?_⟩;intro a I;have U:aX [] _ w:=ad.ev;have hm:=hc.back 0 ad;dsimp only [List.drop,List.cons_append,List.nil_append,HAppend.hAppend,Append.append,List.append] at hm;clear ad hc;clear U;refine aN 2 [] [(6,.J pg),(62,.slice aJ m_.bi.length aO),(63,.i (m_.bi.length:Int)),(64,.i eZ),(68,.bool (!B3))] I fun a I=>wpList_nil (mY _ _ ?_);refine bH (I.g rfl) h (fun Yp h=>?_) (fun Yp h=>?_)
       · refine aP [] [(2,.i 1)] I fun a I=>?_;refine wp_ret ?_;obtain rfl:=Option.some.inj h;obtain rfl:=Option.some.inj (show some (_)=some _ from xw);refine bO (bO (aW (aW (bO (aW (aW ?_))))));refine bE Try.results65 I rfl ?_;exact ⟨rfl,(hm.a7 [] rfl rfl).pick trivial⟩
       refine wp_seq_k fun K nW=>?_;refine a5 ?_;refine bj 2 [0,0] [(6,.J pg),(62,.slice aJ m_.bi.length aO),(63,.i (m_.bi.length:Int)),(64,.i eZ),(75,.i iz.From)] [pg,0] (aQ (bh (hm.e 0 rfl)) aS) I fun a I=>?_;obtain ⟨iX,JU,h⟩:=Cin.aV h;have hc:=hm;refine b4 (vs:=[.i iz.From,.i 0,.i 200]) (av rfl) rfl Try.call87 ⟨(I.g rfl),(dg _ _),(dg _ _),trivial⟩ (sL ((hc.into 0).pick trivial) JU) I rfl rfl ?_;rintro _ w ⟨rfl,ad⟩;refine ⟨_,rfl,?_⟩;intro a I;have U:aX [] _ w:=ad.ev;have hm:=hc.back 0 ad;dsimp only [List.drop,List.cons_append,List.nil_append,HAppend.hAppend,Append.append,List.append] at hm;clear ad hc;clear U
       refine aN 2 [] [(6,.J pg),(62,.slice aJ m_.bi.length aO),(63,.i (m_.bi.length:Int)),(64,.i eZ),(78,.bool (!iX))] I fun a I=>?_;rcases Bool.eq_false_or_eq_true (!iX) with vl | vl
       · have h:=Cin.ew vl h;have I:=I.cS 78 rfl vl;refine aN 12 [1,1,1,1,1,1,1,1,1,1] [(62,.slice aJ m_.bi.length aO),(63,.i (m_.bi.length:Int)),(64,.i eZ),(73,.bool true)] I fun a I=>wpList_nil (nW _ _ ?_);refine ft (I.g rfl) rfl ?_;refine aP [] [(2,.i 3)] I fun a I=>?_;refine wp_ret ?_;obtain rfl:=Option.some.inj h;obtain rfl:=Option.some.inj (show some (_)=some _ from xw);refine bO (bO (aW (aW (bO (aW (aW ?_))))));refine bE Try.results65 I rfl ?_;exact ⟨rfl,(hm.a7 [] rfl rfl).pick trivial⟩
       have h:=Cin.eu vl h;have I:=I.cS 78 rfl vl;refine bj 2 [1,1,0,1] [(6,.J pg),(62,.slice aJ m_.bi.length aO),(63,.i (m_.bi.length:Int)),(64,.i eZ),(78,.bool false),(80,.i iz.To)] [pg,1] (aQ (bh (hm.e 0 rfl)) aS) I fun a I=>?_;obtain ⟨x1,ad8,h⟩:=Cin.aV h;have hc:=hm;refine b4 (vs:=[.i iz.To,.i 0,.i 200]) (ep I rfl rfl rfl rfl) rfl Try.call87 ⟨(I.g rfl),(dg _ _),(dg _ _),trivial⟩ (sL ((hc.into 0).pick trivial) ad8) I rfl rfl ?_;rintro _ w ⟨rfl,ad⟩;refine ⟨_,rfl,?_⟩;intro a I;have U:aX [] _ w:=ad.ev;have hm:=hc.back 0 ad;dsimp only [List.drop,List.cons_append,List.nil_append,HAppend.hAppend,Append.append,List.append] at hm;clear ad hc;clear U
       refine aN 3 [1,1] [(6,.J pg),(62,.slice aJ m_.bi.length aO),(63,.i (m_.bi.length:Int)),(64,.i eZ),(84,.bool (!x1))] I fun a I=>?_;rcases Bool.eq_false_or_eq_true (!x1) with Ay | Ay
       · have h:=Cin.ew Ay h;have I:=I.cS 84 rfl Ay;refine aN 6 [1,1,1,1,1] [(62,.slice aJ m_.bi.length aO),(63,.i (m_.bi.length:Int)),(64,.i eZ),(73,.bool true)] I fun a I=>wpList_nil (nW _ _ ?_);refine ft (I.g rfl) rfl ?_;refine aP [] [(2,.i 3)] I fun a I=>?_;refine wp_ret ?_;obtain rfl:=Option.some.inj h;obtain rfl:=Option.some.inj (show some (_)=some _ from xw);refine bO (bO (aW (aW (bO (aW (aW ?_))))));refine bE Try.results65 I rfl ?_;exact ⟨rfl,(hm.a7 [] rfl rfl).pick trivial⟩
       have h:=Cin.eu Ay h;have I:=I.cS 84 rfl Ay;refine bj 2 [1,1,0,2] [(62,.slice aJ m_.bi.length aO),(63,.i (m_.bi.length:Int)),(64,.i eZ),(84,.bool false),(86,.i iz.db)] [pg,2] (aQ (bh (hm.e 0 rfl)) aS) I fun a I=>?_;obtain ⟨B5,ad9,h⟩:=Cin.aV h;have hc:=hm;refine b4 (vs:=[.i iz.db,.i 0,.i 200]) (ep I rfl rfl rfl rfl) rfl Try.call87 ⟨(I.g rfl),(dg _ _),(dg _ _),trivial⟩ (sL ((hc.into 0).pick trivial) ad9) I rfl rfl ?_;rintro _ w ⟨rfl,ad⟩;refine ⟨_,rfl,?_⟩;intro a I;have U:aX [] _ w:=ad.ev;have hm:=hc.back 0 ad;dsimp only [List.drop,List.cons_append,List.nil_append,HAppend.hAppend,Append.append,List.append] at hm;clear ad hc;clear U
       refine aN 3 [1,1] [(62,.slice aJ m_.bi.length aO),(63,.i (m_.bi.length:Int)),(64,.i eZ),(73,.bool (!B5))] I fun a I=>wpList_nil (nW _ _ ?_);refine bH (I.g rfl) h (fun Ys h=>?_) (fun Ys h=>?_)
       · refine aP [] [(2,.i 3)] I fun a I=>?_;refine wp_ret ?_;obtain rfl:=Option.some.inj h;obtain rfl:=Option.some.inj (show some (_)=some _ from xw);refine bO (bO (aW (aW (bO (aW (aW ?_))))));refine bE Try.results65 I rfl ?_;exact ⟨rfl,(hm.a7 [] rfl rfl).pick trivial⟩
       refine wp_skip ?_;refine k2 _ _ ?_;refine c6 [] [(62,.slice aJ m_.bi.length aO),(63,.i (m_.bi.length:Int)),(64,.i (Cin.ay (eZ+ 1)))] I fun a I=>?_;exact jP _ _ ⟨Cin.ay (eZ+ 1),I.sub ⟨rfl,rfl,rfl,trivial⟩,(hm.a7 [1] rfl rfl),h⟩
     refine wp_exit ?_;refine b9 (b9 (dF ?_));exact iN _ _ ⟨I.sub trivial,hm,(Option.some.inj h).symm⟩
   rintro a w ⟨I,hm,bf⟩;subst Kq;have h:=xw;clear xw;dsimp only [Cin.fm] at h;refine il _ _ ?_;refine aP [] [(2,.i 0)] I fun a I=>?_;refine wp_ret ?_;obtain rfl:=Option.some.inj h;refine bE Try.results65 I rfl ?_;exact ⟨rfl,(hm.a7 [] rfl rfl).pick trivial⟩
 have h:=Cin.eu AO h;have I:=I.cS 55 rfl AO;refine aN 5 [1,1,1,1,1] [(1,.J b2),(60,.bool false)] I fun a I=>wpList_nil (h2 _ _ ?_);refine jK (I.g rfl) rfl ?_;refine wp_skip ?_;refine gI _ _ ?_;refine wp_seq_k fun K qv=>?_;refine wp_seq_k fun K pn=>?_;refine rg [0,8] [(62,.slice aJ m_.bi.length aO),(63,.i (m_.bi.length:Int)),(64,.i 0)] [b2,8] (aQ (bh (hm.e 0 rfl)) aS) I fun a I=>pn _ _ ?_;obtain ⟨KC,h,xx⟩:=Cin.fA h
 refine dj (fun a w=>Fr ⟨91,[]⟩ [] a/\aD W aR X w [aw.br b2 91 [au m_.Name,.bool m_.Static,.slice aj m_.bA.length ar,.i m_.Returns.Kind,au m_.Returns.aG,.i m_.c9,.i m_.c8,au m_.Code,.slice aJ m_.bi.length aO]] [aa Cin.fb aj ar m_.bA,aa Cin.fI aJ aO m_.bi]/\KC=(.go ())) (fun K nX=>?_) ?_
 · refine dV (fun (e6:Nat) a w=>∃ (hC:Int),Fr ⟨91,[]⟩ [(62,.slice aJ m_.bi.length aO),(63,.i (m_.bi.length:Int)),(64,.i hC)] a/\aD W aR X w [aw.br b2 91 [au m_.Name,.bool m_.Static,.slice aj m_.bA.length ar,.i m_.Returns.Kind,au m_.Returns.aG,.i m_.c9,.i m_.c8,au m_.Code,.slice aJ m_.bi.length aO]] [aa Cin.fb aj ar m_.bA,aa Cin.fI aJ aO m_.bi]/\Cin.tr F m_ e6 hC=some KC) F ⟨0,I.sub ⟨rfl,rfl,rfl,trivial⟩,hm,h⟩ ?_ ?_
   · rintro a w ⟨hC,I,hm,h⟩;exact absurd h (by simp [Cin.tr])
   rintro e6 a w ⟨hC,I,hm,h⟩ K vd;rw [Cin.tr] at h;refine aP [] [(62,.slice aJ m_.bi.length aO),(63,.i (m_.bi.length:Int)),(64,.i hC),(65,.bool (decide (hC <(m_.bi.length:Int))))] I fun a I=>?_;refine wp_seq_k fun K vf=>?_;refine bH (I.g rfl) h (fun YK h=>?_) (fun YK h=>?_)
   · refine wp_skip ?_;refine vf _ _ ?_;refine wp_seq_k fun K vg=>?_;refine wp_block ?_;refine wp_seq_k fun K Ah=>?_;refine a5 ?_;obtain ⟨iA,afW,h⟩:=Cin.aV h;obtain ⟨WW,acg,_,rfl,Z9⟩:=da _ (hm.d 1 rfl) afW;refine bW (av rfl) (cv Try.underlying89 Try.sizeOf107 rfl (I.g rfl) (I.g rfl) WW acg) I rfl rfl fun a I=>?_;refine bj 1 [0,0] [(62,.slice aJ m_.bi.length aO),(63,.i (m_.bi.length:Int)),(64,.i hC),(67,.agg #[.i iA.From,.i iA.To,.i iA.db,au iA.aG])] [ct aJ,cy aJ+(hC).toNat* 4] (aQ Z9 aS) I fun a I=>?_;refine c5 (cs:=[.i 0,.i 0,.i 0,au []]) (av rfl) (e3 Try.zeroValue107 rfl rfl) I hm rfl rfl ?_;intro a ph w U I hm
     clear U;refine c1 (vs:=[.i iA.From,.i iA.To,.i iA.db,au iA.aG]) 0 hm rfl (av rfl) rfl Try.sizeOf107 rfl rfl rfl rfl (I.g rfl) (I.g rfl) rfl ?_;intro w hm;simp only [List.set,lay,List.drop,List.length,List.cons_append,List.nil_append] at hm;refine wpList_nil ?_;refine Ah _ _ ?_;refine wp_block ?_;refine wp_seq_k fun K vh=>?_;refine a5 ?_;refine bj 2 [0,3] [(6,.J ph),(62,.slice aJ m_.bi.length aO),(63,.i (m_.bi.length:Int)),(64,.i hC),(70,au iA.aG)] [ph,3] (aQ (bh (hm.e 0 rfl)) aS) I fun a I=>?_;obtain ⟨L5,aeq,h⟩:=Cin.aV h;have hc:=hm
     refine b4 (vs:=[au iA.aG]) (av rfl) rfl Try.call63 ⟨(I.g rfl),trivial⟩ (sK ((hc.into 0).pick trivial) aeq) I rfl rfl ?_;rintro _ w ⟨rfl,ad⟩;refine ⟨_,rfl,?_⟩;intro a I;have U:aX [] _ w:=ad.ev;have hm:=hc.back 0 ad;dsimp only [List.drop,List.cons_append,List.nil_append,HAppend.hAppend,Append.append,List.append] at hm;clear ad hc;clear U;refine aN 2 [] [(6,.J ph),(62,.slice aJ m_.bi.length aO),(63,.i (m_.bi.length:Int)),(64,.i hC),(68,.bool (!L5))] I fun a I=>wpList_nil (vh _ _ ?_);refine bH (I.g rfl) h (fun YL h=>?_) (fun YL h=>?_)
     · refine aP [] [(2,.i 1)] I fun a I=>?_;refine wp_ret ?_;obtain rfl:=Option.some.inj h;obtain rfl:=Option.some.inj (show some (_)=some _ from xx);refine bO (bO (aW (aW (bO (aW (aW ?_))))));refine bE Try.results65 I rfl ?_;exact ⟨rfl,(hm.a7 [] rfl rfl).pick trivial⟩
     refine wp_seq_k fun K qw=>?_;refine a5 ?_;refine bj 2 [0,0] [(6,.J ph),(62,.slice aJ m_.bi.length aO),(63,.i (m_.bi.length:Int)),(64,.i hC),(75,.i iA.From)] [ph,0] (aQ (bh (hm.e 0 rfl)) aS) I fun a I=>?_;obtain ⟨E8,aer,h⟩:=Cin.aV h;have hc:=hm;refine b4 (vs:=[.i iA.From,.i 0,.i 200]) (av rfl) rfl Try.call87 ⟨(I.g rfl),(dg _ _),(dg _ _),trivial⟩ (sL ((hc.into 0).pick trivial) aer) I rfl rfl ?_;rintro _ w ⟨rfl,ad⟩;refine ⟨_,rfl,?_⟩;intro a I;have U:aX [] _ w:=ad.ev;have hm:=hc.back 0 ad;dsimp only [List.drop,List.cons_append,List.nil_append,HAppend.hAppend,Append.append,List.append] at hm;clear ad hc;clear U
     refine aN 2 [] [(6,.J ph),(62,.slice aJ m_.bi.length aO),(63,.i (m_.bi.length:Int)),(64,.i hC),(78,.bool (!E8))] I fun a I=>?_;rcases Bool.eq_false_or_eq_true (!E8) with AI | AI
     · have h:=Cin.ew AI h;have I:=I.cS 78 rfl AI;refine aN 12 [1,1,1,1,1,1,1,1,1,1] [(62,.slice aJ m_.bi.length aO),(63,.i (m_.bi.length:Int)),(64,.i hC),(73,.bool true)] I fun a I=>wpList_nil (qw _ _ ?_);refine ft (I.g rfl) rfl ?_;refine aP [] [(2,.i 3)] I fun a I=>?_;refine wp_ret ?_;obtain rfl:=Option.some.inj h;obtain rfl:=Option.some.inj (show some (_)=some _ from xx);refine bO (bO (aW (aW (bO (aW (aW ?_))))));refine bE Try.results65 I rfl ?_;exact ⟨rfl,(hm.a7 [] rfl rfl).pick trivial⟩
     have h:=Cin.eu AI h;have I:=I.cS 78 rfl AI;refine bj 2 [1,1,0,1] [(6,.J ph),(62,.slice aJ m_.bi.length aO),(63,.i (m_.bi.length:Int)),(64,.i hC),(78,.bool false),(80,.i iA.To)] [ph,1] (aQ (bh (hm.e 0 rfl)) aS) I fun a I=>?_;obtain ⟨E9,aes,h⟩:=Cin.aV h;have hc:=hm;refine b4 (vs:=[.i iA.To,.i 0,.i 200]) (ep I rfl rfl rfl rfl) rfl Try.call87 ⟨(I.g rfl),(dg _ _),(dg _ _),trivial⟩ (sL ((hc.into 0).pick trivial) aes) I rfl rfl ?_;rintro _ w ⟨rfl,ad⟩;refine ⟨_,rfl,?_⟩;intro a I;have U:aX [] _ w:=ad.ev;have hm:=hc.back 0 ad;dsimp only [List.drop,List.cons_append,List.nil_append,HAppend.hAppend,Append.append,List.append] at hm;clear ad hc;clear U
     refine aN 3 [1,1] [(6,.J ph),(62,.slice aJ m_.bi.length aO),(63,.i (m_.bi.length:Int)),(64,.i hC),(84,.bool (!E9))] I fun a I=>?_;rcases Bool.eq_false_or_eq_true (!E9) with AJ | AJ
     · have h:=Cin.ew AJ h;have I:=I.cS 84 rfl AJ;refine aN 6 [1,1,1,1,1] [(62,.slice aJ m_.bi.length aO),(63,.i (m_.bi.length:Int)),(64,.i hC),(73,.bool true)] I fun a I=>wpList_nil (qw _ _ ?_);refine ft (I.g rfl) rfl ?_;refine aP [] [(2,.i 3)] I fun a I=>?_;refine wp_ret ?_;obtain rfl:=Option.some.inj h;obtain rfl:=Option.some.inj (show some (_)=some _ from xx);refine bO (bO (aW (aW (bO (aW (aW ?_))))));refine bE Try.results65 I rfl ?_;exact ⟨rfl,(hm.a7 [] rfl rfl).pick trivial⟩
     have h:=Cin.eu AJ h;have I:=I.cS 84 rfl AJ;refine bj 2 [1,1,0,2] [(62,.slice aJ m_.bi.length aO),(63,.i (m_.bi.length:Int)),(64,.i hC),(84,.bool false),(86,.i iA.db)] [ph,2] (aQ (bh (hm.e 0 rfl)) aS) I fun a I=>?_;obtain ⟨L6,aet,h⟩:=Cin.aV h;have hc:=hm;refine b4 (vs:=[.i iA.db,.i 0,.i 200]) (ep I rfl rfl rfl rfl) rfl Try.call87 ⟨(I.g rfl),(dg _ _),(dg _ _),trivial⟩ (sL ((hc.into 0).pick trivial) aet) I rfl rfl ?_;rintro _ w ⟨rfl,ad⟩;refine ⟨_,rfl,?_⟩;intro a I;have U:aX [] _ w:=ad.ev;have hm:=hc.back 0 ad;dsimp only [List.drop,List.cons_append,List.nil_append,HAppend.hAppend,Append.append,List.append] at hm;clear ad hc;clear U
     refine aN 3 [1,1] [(62,.slice aJ m_.bi.length aO),(63,.i (m_.bi.length:Int)),(64,.i hC),(73,.bool (!L6))] I fun a I=>wpList_nil (qw _ _ ?_);refine bH (I.g rfl) h (fun YN h=>?_) (fun YN h=>?_)
     · refine aP [] [(2,.i 3)] I fun a I=>?_;refine wp_ret ?_;obtain rfl:=Option.some.inj h;obtain rfl:=Option.some.inj (show some (_)=some _ from xx);refine bO (bO (aW (aW (bO (aW (aW ?_))))));refine bE Try.results65 I rfl ?_;exact ⟨rfl,(hm.a7 [] rfl rfl).pick trivial⟩
     refine wp_skip ?_;refine vg _ _ ?_;refine c6 [] [(62,.slice aJ m_.bi.length aO),(63,.i (m_.bi.length:Int)),(64,.i (Cin.ay (hC+ 1)))] I fun a I=>?_;exact vd _ _ ⟨Cin.ay (hC+ 1),I.sub ⟨rfl,rfl,rfl,trivial⟩,(hm.a7 [1] rfl rfl),h⟩
   refine wp_exit ?_;refine b9 (b9 (dF ?_));exact nX _ _ ⟨I.sub trivial,hm,(Option.some.inj h).symm⟩
 rintro a w ⟨I,hm,bf⟩;subst KC;have h:=xx;clear xx;dsimp only [Cin.fm] at h;refine qv _ _ ?_;refine aP [] [(2,.i 0)] I fun a I=>?_;refine wp_ret ?_;obtain rfl:=Option.some.inj h;refine bE Try.results65 I rfl ?_;exact ⟨rfl,(hm.a7 [] rfl rfl).pick trivial⟩
theorem Uu {W:World} {X:List Nat} {F:Nat} {c_:Cin.aG} {r:Int} {aj:Option Addr} {ar:Nat} {aJ:Option Addr} {aO:Nat} (hm:aD W (aT []) X W [] [aa Cin.bJ aj ar c_.Fields,aa Cin.dt aJ aO c_.aE]) (h:Cin.Bt F c_=some r) :
 Calls Try.prog 44 [.agg #[au c_.Name,au c_.bY,.slice aj c_.Fields.length ar,.slice aJ c_.aE.length aO]].toArray W (fun e az=>e= .returned (.i r)/\aD W (aT []) X az [] []):=by
 generalize bK:aT []=aR at hm ⊢;clear bK;refine enter Try.func44 rfl Try.ntmps44 rfl ?_;intro a I;rw [Cin.Bt] at h;refine wp_seq_k fun K dx=>?_;refine a5 ?_;refine c5 (cs:=[au c_.Name,au c_.bY,.slice aj c_.Fields.length ar,.slice aJ c_.aE.length aO]) (av rfl) (eY rfl rfl (I.g rfl)) I hm rfl rfl ?_;intro a b2 w U I hm;clear U;refine aN 1 [] [(1,.J b2)] I fun a I=>wpList_nil (dx _ _ ?_);refine wp_seq_k fun K bS=>?_;refine wp_block ?_;refine wp_seq_k fun K cn=>?_;refine a5 ?_;refine bj 2 [0,0] [(1,.J b2),(10,au c_.Name)] [b2,0] (aQ (bh (hm.e 0 rfl)) aS) I fun a I=>?_;obtain ⟨cY,vE,h⟩:=Cin.aV h;have hc:=hm
 refine b4 (vs:=[au c_.Name]) (av rfl) rfl Try.call63 ⟨(I.g rfl),trivial⟩ (sK ((hc.into 0).pick trivial) vE) I rfl rfl ?_;rintro _ w ⟨rfl,ad⟩;refine ⟨_,rfl,?_⟩;intro a I;have U:aX [] _ w:=ad.ev;have hm:=hc.back 0 ad;dsimp only [List.drop,List.cons_append,List.nil_append,HAppend.hAppend,Append.append,List.append] at hm;clear ad hc;clear U;refine aN 2 [] [(1,.J b2),(13,.bool (!cY))] I fun a I=>?_;rcases Bool.eq_false_or_eq_true (!cY) with k5 | k5
 · have h:=Cin.ew k5 h;have I:=I.cS 13 rfl k5;refine aN 11 [1,1,1,1,1,1,1,1,1,1] [(1,.J b2),(8,.bool true)] I fun a I=>wpList_nil (cn _ _ ?_);refine ft (I.g rfl) rfl ?_;refine aP [] [(2,.i 1)] I fun a I=>?_;refine wp_ret ?_;obtain rfl:=Option.some.inj h;refine bO (aW ?_);refine bE Try.results44 I rfl ?_;exact ⟨rfl,(hm.a7 [] rfl rfl).pick trivial⟩
 have h:=Cin.eu k5 h;have I:=I.cS 13 rfl k5;refine bj 4 [1,1,0,1,1,1] [(1,.J b2),(13,.bool false),(17,.bool (!decide (c_.bY= [])))] [b2,1] (aQ (bh (hm.e 0 rfl)) aS) I fun a I=>?_;rcases Bool.eq_false_or_eq_true (!decide (c_.bY= [])) with qB | qB
 · have h:=Cin.ew qB h;have I:=I.cS 17 rfl qB;refine bj 2 [1,1,0,1] [(1,.J b2),(13,.bool false),(17,.bool true),(19,au c_.bY)] [b2,1] (aQ (bh (hm.e 0 rfl)) aS) I fun a I=>?_;obtain ⟨g6,Bf,h⟩:=Cin.aV h;have hc:=hm;refine b4 (vs:=[au c_.bY]) (ep I rfl rfl rfl rfl) rfl Try.call63 ⟨(I.g rfl),trivial⟩ (sK ((hc.into 0).pick trivial) Bf) I rfl rfl ?_;rintro _ w ⟨rfl,ad⟩;refine ⟨_,rfl,?_⟩;intro a I;have U:aX [] _ w:=ad.ev;have hm:=hc.back 0 ad;dsimp only [List.drop,List.cons_append,List.nil_append,HAppend.hAppend,Append.append,List.append] at hm;clear ad hc;clear U;refine aN 4 [1,1,1,1] [(1,.J b2),(8,.bool (!g6))] I fun a I=>wpList_nil (cn _ _ ?_)
   refine bH (I.g rfl) h (fun im h=>?_) (fun im h=>?_)
   · refine aP [] [(2,.i 1)] I fun a I=>?_;refine wp_ret ?_;obtain rfl:=Option.some.inj h;refine bO (aW ?_);refine bE Try.results44 I rfl ?_;exact ⟨rfl,(hm.a7 [] rfl rfl).pick trivial⟩
   refine wp_seq_k fun K eR=>?_;refine rg [0,2,0,0,0,3,0,0,0] [(1,.J b2),(24,.bool ((decide (6 <(c_.Fields.length:Int))) || (decide (8 <(c_.aE.length:Int)))))] [b2,3,b2,2] (aQ (bh (hm.e 0 rfl)) aS) I fun a I=>eR _ _ ?_;refine bH (I.g rfl) h (fun vk h=>?_) (fun vk h=>?_)
   · refine aP [] [(2,.i 2)] I fun a I=>?_;refine wp_ret ?_;obtain rfl:=Option.some.inj h;refine bO (aW ?_);refine bE Try.results44 I rfl ?_;exact ⟨rfl,(hm.a7 [] rfl rfl).pick trivial⟩
   refine wp_skip ?_;refine bS _ _ ?_;refine wp_seq_k fun K dq=>?_;refine wp_seq_k fun K eV=>?_;refine rg [0,2] [(1,.J b2),(36,.slice aj c_.Fields.length ar),(37,.i (c_.Fields.length:Int)),(38,.i 0)] [b2,2] (aQ (bh (hm.e 0 rfl)) aS) I fun a I=>eV _ _ ?_;obtain ⟨KS,h,D'⟩:=Cin.fA h;refine dj (fun a w=>Fr ⟨66,[]⟩ [(1,.J b2)] a/\aD W aR X w [aw.br b2 94 [au c_.Name,au c_.bY,.slice aj c_.Fields.length ar,.slice aJ c_.aE.length aO]] [aa Cin.bJ aj ar c_.Fields,aa Cin.dt aJ aO c_.aE]/\KS=(.go ())) (fun K dk=>?_) ?_
   · refine dV (fun (bq:Nat) a w=>∃ (ea:Int),Fr ⟨66,[]⟩ [(1,.J b2),(36,.slice aj c_.Fields.length ar),(37,.i (c_.Fields.length:Int)),(38,.i ea)] a/\aD W aR X w [aw.br b2 94 [au c_.Name,au c_.bY,.slice aj c_.Fields.length ar,.slice aJ c_.aE.length aO]] [aa Cin.bJ aj ar c_.Fields,aa Cin.dt aJ aO c_.aE]/\Cin.tk F c_ bq ea=some KS) F ⟨0,I.sub ⟨rfl,rfl,rfl,rfl,trivial⟩,hm,h⟩ ?_ ?_
     · rintro a w ⟨ea,I,hm,h⟩;exact absurd h (by simp [Cin.tk])
     rintro bq a w ⟨ea,I,hm,h⟩ K dR;rw [Cin.tk] at h;refine aP [] [(1,.J b2),(36,.slice aj c_.Fields.length ar),(37,.i (c_.Fields.length:Int)),(38,.i ea),(39,.bool (decide (ea <(c_.Fields.length:Int))))] I fun a I=>?_;refine wp_seq_k fun K eg=>?_;refine bH (I.g rfl) h (fun AP h=>?_) (fun AP h=>?_)
     · refine wp_skip ?_;refine eg _ _ ?_;refine wp_seq_k fun K fZ=>?_;refine wp_block ?_;refine wp_seq_k fun K gw=>?_;refine a5 ?_;obtain ⟨kH,ago,h⟩:=Cin.aV h;obtain ⟨Xu,acQ,_,rfl,aaH⟩:=da _ (hm.d 0 rfl) ago;refine bW (av rfl) (cv Try.underlying84 Try.sizeOf96 rfl (I.g rfl) (I.g rfl) Xu acQ) I rfl rfl fun a I=>?_;refine bj 1 [0,0] [(1,.J b2),(36,.slice aj c_.Fields.length ar),(37,.i (c_.Fields.length:Int)),(38,.i ea),(41,.agg #[au kH.Name,.i kH.Kind.Kind,au kH.Kind.aG])] [ct aj,cy aj+(ea).toNat* 3] (aQ aaH aS) I fun a I=>?_;refine c5 (cs:=[au [],.i 0,au []]) (av rfl) (e3 Try.zeroValue96 rfl rfl) I hm rfl rfl ?_;intro a D1 w U I hm;clear U
       refine c1 (vs:=[au kH.Name,.i kH.Kind.Kind,au kH.Kind.aG]) 0 hm rfl (av rfl) rfl Try.sizeOf96 rfl rfl rfl rfl (I.g rfl) (I.g rfl) rfl ?_;intro w hm;simp only [List.set,lay,List.drop,List.length,List.cons_append,List.nil_append] at hm;refine wpList_nil ?_;refine gw _ _ ?_;refine wp_block ?_;refine wp_seq_k fun K hz=>?_;refine a5 ?_;refine bj 2 [0,0] [(1,.J b2),(4,.J D1),(36,.slice aj c_.Fields.length ar),(37,.i (c_.Fields.length:Int)),(38,.i ea),(44,au kH.Name)] [D1,0] (aQ (bh (hm.e 0 rfl)) aS) I fun a I=>?_;obtain ⟨wc,aeY,h⟩:=Cin.aV h;have hc:=hm
       refine b4 (vs:=[au kH.Name]) (av rfl) rfl Try.call63 ⟨(I.g rfl),trivial⟩ (sK ((hc.into 0).pick trivial) aeY) I rfl rfl ?_;rintro _ w ⟨rfl,ad⟩;refine ⟨_,rfl,?_⟩;intro a I;have U:aX [] _ w:=ad.ev;have hm:=hc.back 0 ad;dsimp only [List.drop,List.cons_append,List.nil_append,HAppend.hAppend,Append.append,List.append] at hm;clear ad hc;clear U;refine aN 2 [] [(1,.J b2),(4,.J D1),(36,.slice aj c_.Fields.length ar),(37,.i (c_.Fields.length:Int)),(38,.i ea),(42,.bool (!wc))] I fun a I=>wpList_nil (hz _ _ ?_);refine bH (I.g rfl) h (fun Zw h=>?_) (fun Zw h=>?_)
       · refine aP [] [(2,.i 1)] I fun a I=>?_;refine wp_ret ?_;obtain rfl:=Option.some.inj h;obtain rfl:=Option.some.inj (show some (_)=some _ from D');refine bO (bO (aW (aW (bO (aW (aW ?_))))));refine bE Try.results44 I rfl ?_;exact ⟨rfl,(hm.a7 [] rfl rfl).pick trivial⟩
       refine wp_seq_k fun K f_=>?_;refine a5 ?_;refine bj 2 [0,1] [(1,.J b2),(36,.slice aj c_.Fields.length ar),(37,.i (c_.Fields.length:Int)),(38,.i ea),(49,.agg #[.i kH.Kind.Kind,au kH.Kind.aG])] [D1,1] (aQ (bh (hm.e 0 rfl)) aS) I fun a I=>?_;obtain ⟨jo,JS,h⟩:=Cin.aV h;have hc:=hm;refine b4 (vs:=[.agg #[.i kH.Kind.Kind,au kH.Kind.aG]]) (av rfl) rfl Try.call64 ⟨(I.g rfl),trivial⟩ (DL ((hc.into 0).pick trivial) JS) I rfl rfl ?_;rintro _ w ⟨rfl,ad⟩;refine ⟨_,rfl,?_⟩;intro a I;have U:aX [] _ w:=ad.ev;have hm:=hc.back 0 ad;dsimp only [List.drop,List.cons_append,List.nil_append,HAppend.hAppend,Append.append,List.append] at hm;clear ad hc;clear U
       refine aN 2 [] [(1,.J b2),(36,.slice aj c_.Fields.length ar),(37,.i (c_.Fields.length:Int)),(38,.i ea),(47,.bool (!jo))] I fun a I=>wpList_nil (f_ _ _ ?_);refine bH (I.g rfl) h (fun H6 h=>?_) (fun H6 h=>?_)
       · refine aP [] [(2,.i 7)] I fun a I=>?_;refine wp_ret ?_;obtain rfl:=Option.some.inj h;obtain rfl:=Option.some.inj (show some (_)=some _ from D');refine bO (bO (aW (aW (bO (aW (aW ?_))))));refine bE Try.results44 I rfl ?_;exact ⟨rfl,(hm.a7 [] rfl rfl).pick trivial⟩
       refine wp_skip ?_;refine fZ _ _ ?_;refine c6 [] [(1,.J b2),(36,.slice aj c_.Fields.length ar),(37,.i (c_.Fields.length:Int)),(38,.i (Cin.ay (ea+ 1)))] I fun a I=>?_;exact dR _ _ ⟨Cin.ay (ea+ 1),I.sub ⟨rfl,rfl,rfl,rfl,trivial⟩,(hm.a7 [1] rfl rfl),h⟩
     refine wp_exit ?_;refine b9 (b9 (dF ?_));exact dk _ _ ⟨I.sub ⟨rfl,trivial⟩,hm,(Option.some.inj h).symm⟩
   rintro a w ⟨I,hm,bf⟩;subst KS;have h:=D';clear D';dsimp only [Cin.fm] at h;refine dq _ _ ?_;refine wp_seq_k fun K gI=>?_;refine wp_seq_k fun K h2=>?_;refine rg [0,3] [(54,.slice aJ c_.aE.length aO),(55,.i (c_.aE.length:Int)),(56,.i 0)] [b2,3] (aQ (bh (hm.e 0 rfl)) aS) I fun a I=>h2 _ _ ?_;obtain ⟨Kr,h,IK⟩:=Cin.fA h;refine dj (fun a w=>Fr ⟨66,[]⟩ [] a/\aD W aR X w [aw.br b2 94 [au c_.Name,au c_.bY,.slice aj c_.Fields.length ar,.slice aJ c_.aE.length aO]] [aa Cin.bJ aj ar c_.Fields,aa Cin.dt aJ aO c_.aE]/\Kr=(.go ())) (fun K ik=>?_) ?_
   · refine dV (fun (dd:Nat) a w=>∃ (eZ:Int),Fr ⟨66,[]⟩ [(54,.slice aJ c_.aE.length aO),(55,.i (c_.aE.length:Int)),(56,.i eZ)] a/\aD W aR X w [aw.br b2 94 [au c_.Name,au c_.bY,.slice aj c_.Fields.length ar,.slice aJ c_.aE.length aO]] [aa Cin.bJ aj ar c_.Fields,aa Cin.dt aJ aO c_.aE]/\Cin.tl F c_ dd eZ=some Kr) F ⟨0,I.sub ⟨rfl,rfl,rfl,trivial⟩,hm,h⟩ ?_ ?_
     · rintro a w ⟨eZ,I,hm,h⟩;exact absurd h (by simp [Cin.tl])
     rintro dd a w ⟨eZ,I,hm,h⟩ K il;rw [Cin.tl] at h;refine aP [] [(54,.slice aJ c_.aE.length aO),(55,.i (c_.aE.length:Int)),(56,.i eZ),(57,.bool (decide (eZ <(c_.aE.length:Int))))] I fun a I=>?_;refine wp_seq_k fun K iN=>?_;refine bH (I.g rfl) h (fun Yi h=>?_) (fun Yi h=>?_)
     · refine wp_skip ?_;refine iN _ _ ?_;refine wp_seq_k fun K jP=>?_;refine wp_block ?_;refine wp_seq_k fun K k1=>?_;refine a5 ?_;obtain ⟨dS,afE,h⟩:=Cin.aV h;obtain ⟨Wz,abV,_,⟨yr,zB,yu,zC,rfl,aaR,aaS⟩,ZP⟩:=da _ (hm.d 1 rfl) afE;have hm:=hm.more (y:=aa Cin.fb yr zB dS.bA) aaR;have hm:=hm.more (y:=aa Cin.fI yu zC dS.bi) aaS;refine bW (av rfl) (cv Try.underlying92 Try.sizeOf91 rfl (I.g rfl) (I.g rfl) Wz abV) I rfl rfl fun a I=>?_
       refine bj 1 [0,0] [(54,.slice aJ c_.aE.length aO),(55,.i (c_.aE.length:Int)),(56,.i eZ),(59,.agg #[au dS.Name,.bool dS.Static,.slice yr dS.bA.length zB,.i dS.Returns.Kind,au dS.Returns.aG,.i dS.c9,.i dS.c8,au dS.Code,.slice yu dS.bi.length zC])] [ct aJ,cy aJ+(eZ).toNat* 9] (aQ ZP aS) I fun a I=>?_;refine c5 (cs:=[au [],.bool false,.slice none 0 0,.i 0,au [],.i 0,.i 0,au [],.slice none 0 0]) (av rfl) (e3 Try.zeroValue91 rfl rfl) I hm rfl rfl ?_;intro a V0 w U I hm;clear U
       refine c1 (vs:=[au dS.Name,.bool dS.Static,.slice yr dS.bA.length zB,.i dS.Returns.Kind,au dS.Returns.aG,.i dS.c9,.i dS.c8,au dS.Code,.slice yu dS.bi.length zC]) 0 hm rfl (av rfl) rfl Try.sizeOf91 rfl rfl rfl rfl (I.g rfl) (I.g rfl) rfl ?_;intro w hm;simp only [List.set,lay,List.drop,List.length,List.cons_append,List.nil_append] at hm;refine wpList_nil ?_;refine k1 _ _ ?_;refine wp_seq_k fun K mX=>?_;refine a5 ?_
       refine bj 1 [0,0] [(54,.slice aJ c_.aE.length aO),(55,.i (c_.aE.length:Int)),(56,.i eZ),(60,.agg #[au dS.Name,.bool dS.Static,.slice yr dS.bA.length zB,.i dS.Returns.Kind,au dS.Returns.aG,.i dS.c9,.i dS.c8,au dS.Code,.slice yu dS.bi.length zC])] [V0,0] (aQ (bh (hm.e 0 rfl)) aS) I fun a I=>?_;obtain ⟨iX,JU,h⟩:=Cin.aV h;have hc:=hm
       refine b4 (vs:=[.agg #[au dS.Name,.bool dS.Static,.slice yr dS.bA.length zB,.i dS.Returns.Kind,au dS.Returns.aG,.i dS.c9,.i dS.c8,au dS.Code,.slice yu dS.bi.length zC]]) (av rfl) rfl Try.call65 ⟨(I.g rfl),trivial⟩ (O6 (m_:=(⟨dS.Name,dS.Static,dS.bA,(⟨dS.Returns.Kind,dS.Returns.aG⟩:Cin.Kind),dS.c9,dS.c8,dS.Code,dS.bi⟩:Cin.Method)) ((hc.into 0).pick ⟨⟨1,rfl⟩,⟨0,rfl⟩,trivial⟩) JU) I rfl rfl ?_;rintro _ w ⟨rfl,ad⟩;refine ⟨_,rfl,?_⟩;intro a I;have U:aX [] _ w:=ad.ev;have hm:=hc.back 0 ad;dsimp only [List.drop,List.cons_append,List.nil_append,HAppend.hAppend,Append.append,List.append] at hm;clear ad hc;clear U
       refine aN 1 [] [(7,.i iX),(54,.slice aJ c_.aE.length aO),(55,.i (c_.aE.length:Int)),(56,.i eZ)] I fun a I=>wpList_nil (mX _ _ ?_);refine aP [] [(7,.i iX),(54,.slice aJ c_.aE.length aO),(55,.i (c_.aE.length:Int)),(56,.i eZ),(63,.bool (!decide (iX= 0)))] I fun a I=>?_;refine bH (I.g rfl) h (fun vl h=>?_) (fun vl h=>?_)
       · refine aP [] [(2,.i iX)] I fun a I=>?_;refine wp_ret ?_;obtain rfl:=Option.some.inj h;obtain rfl:=Option.some.inj (show some (_)=some _ from IK);refine bO (aW (aW (bO (aW (aW ?_)))));refine bE Try.results44 I rfl ?_;exact ⟨rfl,(hm.a7 [] rfl rfl).pick trivial⟩
       refine wp_skip ?_;refine jP _ _ ?_;refine c6 [] [(54,.slice aJ c_.aE.length aO),(55,.i (c_.aE.length:Int)),(56,.i (Cin.ay (eZ+ 1)))] I fun a I=>?_;exact il _ _ ⟨Cin.ay (eZ+ 1),I.sub ⟨rfl,rfl,rfl,trivial⟩,(hm.a7 [1] rfl rfl).pick ⟨⟨2,rfl⟩,⟨3,rfl⟩,trivial⟩,h⟩
     refine wp_exit ?_;refine b9 (b9 (dF ?_));exact ik _ _ ⟨I.sub trivial,hm,(Option.some.inj h).symm⟩
   rintro a w ⟨I,hm,bf⟩;subst Kr;have h:=IK;clear IK;dsimp only [Cin.fm] at h;refine gI _ _ ?_;refine aP [] [(2,.i 0)] I fun a I=>?_;refine wp_ret ?_;obtain rfl:=Option.some.inj h;refine bE Try.results44 I rfl ?_;exact ⟨rfl,(hm.a7 [] rfl rfl).pick trivial⟩
 have h:=Cin.eu qB h;have I:=I.cS 17 rfl qB;refine aN 7 [1,1,1,1,1,1,1] [(1,.J b2),(8,.bool false)] I fun a I=>wpList_nil (cn _ _ ?_);refine jK (I.g rfl) rfl ?_;refine wp_seq_k fun K mZ=>?_;refine rg [0,2,0,0,0,3,0,0,0] [(1,.J b2),(24,.bool ((decide (6 <(c_.Fields.length:Int))) || (decide (8 <(c_.aE.length:Int)))))] [b2,3,b2,2] (aQ (bh (hm.e 0 rfl)) aS) I fun a I=>mZ _ _ ?_;refine bH (I.g rfl) h (fun Yr h=>?_) (fun Yr h=>?_)
 · refine aP [] [(2,.i 2)] I fun a I=>?_;refine wp_ret ?_;obtain rfl:=Option.some.inj h;refine bO (aW ?_);refine bE Try.results44 I rfl ?_;exact ⟨rfl,(hm.a7 [] rfl rfl).pick trivial⟩
 refine wp_skip ?_;refine bS _ _ ?_;refine wp_seq_k fun K m0=>?_;refine wp_seq_k fun K HZ=>?_;refine rg [0,2] [(1,.J b2),(36,.slice aj c_.Fields.length ar),(37,.i (c_.Fields.length:Int)),(38,.i 0)] [b2,2] (aQ (bh (hm.e 0 rfl)) aS) I fun a I=>HZ _ _ ?_;obtain ⟨Kz,h,D8⟩:=Cin.fA h;refine dj (fun a w=>Fr ⟨66,[]⟩ [(1,.J b2)] a/\aD W aR X w [aw.br b2 94 [au c_.Name,au c_.bY,.slice aj c_.Fields.length ar,.slice aJ c_.aE.length aO]] [aa Cin.bJ aj ar c_.Fields,aa Cin.dt aJ aO c_.aE]/\Kz=(.go ())) (fun K vb=>?_) ?_
 · refine dV (fun (e6:Nat) a w=>∃ (jA:Int),Fr ⟨66,[]⟩ [(1,.J b2),(36,.slice aj c_.Fields.length ar),(37,.i (c_.Fields.length:Int)),(38,.i jA)] a/\aD W aR X w [aw.br b2 94 [au c_.Name,au c_.bY,.slice aj c_.Fields.length ar,.slice aJ c_.aE.length aO]] [aa Cin.bJ aj ar c_.Fields,aa Cin.dt aJ aO c_.aE]/\Cin.tm F c_ e6 jA=some Kz) F ⟨0,I.sub ⟨rfl,rfl,rfl,rfl,trivial⟩,hm,h⟩ ?_ ?_
   · rintro a w ⟨jA,I,hm,h⟩;exact absurd h (by simp [Cin.tm])
   rintro e6 a w ⟨jA,I,hm,h⟩ K sX;rw [Cin.tm] at h;refine aP [] [(1,.J b2),(36,.slice aj c_.Fields.length ar),(37,.i (c_.Fields.length:Int)),(38,.i jA),(39,.bool (decide (jA <(c_.Fields.length:Int))))] I fun a I=>?_;refine wp_seq_k fun K pn=>?_;refine bH (I.g rfl) h (fun YF h=>?_) (fun YF h=>?_)
   · refine wp_skip ?_;refine pn _ _ ?_;refine wp_seq_k fun K nX=>?_;refine wp_block ?_;refine wp_seq_k fun K vd=>?_;refine a5 ?_;obtain ⟨kF,afS,h⟩:=Cin.aV h;obtain ⟨WR,aca,_,rfl,Z4⟩:=da _ (hm.d 0 rfl) afS;refine bW (av rfl) (cv Try.underlying84 Try.sizeOf96 rfl (I.g rfl) (I.g rfl) WR aca) I rfl rfl fun a I=>?_;refine bj 1 [0,0] [(1,.J b2),(36,.slice aj c_.Fields.length ar),(37,.i (c_.Fields.length:Int)),(38,.i jA),(41,.agg #[au kF.Name,.i kF.Kind.Kind,au kF.Kind.aG])] [ct aj,cy aj+(jA).toNat* 3] (aQ Z4 aS) I fun a I=>?_;refine c5 (cs:=[au [],.i 0,au []]) (av rfl) (e3 Try.zeroValue96 rfl rfl) I hm rfl rfl ?_;intro a D0 w U I hm
     clear U;refine c1 (vs:=[au kF.Name,.i kF.Kind.Kind,au kF.Kind.aG]) 0 hm rfl (av rfl) rfl Try.sizeOf96 rfl rfl rfl rfl (I.g rfl) (I.g rfl) rfl ?_;intro w hm;simp only [List.set,lay,List.drop,List.length,List.cons_append,List.nil_append] at hm;refine wpList_nil ?_;refine vd _ _ ?_;refine wp_block ?_;refine wp_seq_k fun K Ag=>?_;refine a5 ?_;refine bj 2 [0,0] [(1,.J b2),(4,.J D0),(36,.slice aj c_.Fields.length ar),(37,.i (c_.Fields.length:Int)),(38,.i jA),(44,au kF.Name)] [D0,0] (aQ (bh (hm.e 0 rfl)) aS) I fun a I=>?_;obtain ⟨L0,aeh,h⟩:=Cin.aV h;have hc:=hm
     refine b4 (vs:=[au kF.Name]) (av rfl) rfl Try.call63 ⟨(I.g rfl),trivial⟩ (sK ((hc.into 0).pick trivial) aeh) I rfl rfl ?_;rintro _ w ⟨rfl,ad⟩;refine ⟨_,rfl,?_⟩;intro a I;have U:aX [] _ w:=ad.ev;have hm:=hc.back 0 ad;dsimp only [List.drop,List.cons_append,List.nil_append,HAppend.hAppend,Append.append,List.append] at hm;clear ad hc;clear U;refine aN 2 [] [(1,.J b2),(4,.J D0),(36,.slice aj c_.Fields.length ar),(37,.i (c_.Fields.length:Int)),(38,.i jA),(42,.bool (!L0))] I fun a I=>wpList_nil (Ag _ _ ?_);refine bH (I.g rfl) h (fun H_ h=>?_) (fun H_ h=>?_)
     · refine aP [] [(2,.i 1)] I fun a I=>?_;refine wp_ret ?_;obtain rfl:=Option.some.inj h;obtain rfl:=Option.some.inj (show some (_)=some _ from D8);refine bO (bO (aW (aW (bO (aW (aW ?_))))));refine bE Try.results44 I rfl ?_;exact ⟨rfl,(hm.a7 [] rfl rfl).pick trivial⟩
     refine wp_seq_k fun K vg=>?_;refine a5 ?_;refine bj 2 [0,1] [(1,.J b2),(36,.slice aj c_.Fields.length ar),(37,.i (c_.Fields.length:Int)),(38,.i jA),(49,.agg #[.i kF.Kind.Kind,au kF.Kind.aG])] [D0,1] (aQ (bh (hm.e 0 rfl)) aS) I fun a I=>?_;obtain ⟨L1,aei,h⟩:=Cin.aV h;have hc:=hm;refine b4 (vs:=[.agg #[.i kF.Kind.Kind,au kF.Kind.aG]]) (av rfl) rfl Try.call64 ⟨(I.g rfl),trivial⟩ (DL ((hc.into 0).pick trivial) aei) I rfl rfl ?_;rintro _ w ⟨rfl,ad⟩;refine ⟨_,rfl,?_⟩;intro a I;have U:aX [] _ w:=ad.ev;have hm:=hc.back 0 ad;dsimp only [List.drop,List.cons_append,List.nil_append,HAppend.hAppend,Append.append,List.append] at hm;clear ad hc;clear U
     refine aN 2 [] [(1,.J b2),(36,.slice aj c_.Fields.length ar),(37,.i (c_.Fields.length:Int)),(38,.i jA),(47,.bool (!L1))] I fun a I=>wpList_nil (vg _ _ ?_);refine bH (I.g rfl) h (fun H' h=>?_) (fun H' h=>?_)
     · refine aP [] [(2,.i 7)] I fun a I=>?_;refine wp_ret ?_;obtain rfl:=Option.some.inj h;obtain rfl:=Option.some.inj (show some (_)=some _ from D8);refine bO (bO (aW (aW (bO (aW (aW ?_))))));refine bE Try.results44 I rfl ?_;exact ⟨rfl,(hm.a7 [] rfl rfl).pick trivial⟩
     refine wp_skip ?_;refine nX _ _ ?_;refine c6 [] [(1,.J b2),(36,.slice aj c_.Fields.length ar),(37,.i (c_.Fields.length:Int)),(38,.i (Cin.ay (jA+ 1)))] I fun a I=>?_;exact sX _ _ ⟨Cin.ay (jA+ 1),I.sub ⟨rfl,rfl,rfl,rfl,trivial⟩,(hm.a7 [1] rfl rfl),h⟩
   refine wp_exit ?_;refine b9 (b9 (dF ?_));exact vb _ _ ⟨I.sub ⟨rfl,trivial⟩,hm,(Option.some.inj h).symm⟩
 rintro a w ⟨I,hm,bf⟩;subst Kz;have h:=D8;clear D8;dsimp only [Cin.fm] at h;refine m0 _ _ ?_;refine wp_seq_k fun K vh=>?_;refine wp_seq_k fun K Ai=>?_;refine rg [0,3] [(54,.slice aJ c_.aE.length aO),(55,.i (c_.aE.length:Int)),(56,.i 0)] [b2,3] (aQ (bh (hm.e 0 rfl)) aS) I fun a I=>Ai _ _ ?_;obtain ⟨KJ,h,I9⟩:=Cin.fA h;refine dj (fun a w=>Fr ⟨66,[]⟩ [] a/\aD W aR X w [aw.br b2 94 [au c_.Name,au c_.bY,.slice aj c_.Fields.length ar,.slice aJ c_.aE.length aO]] [aa Cin.bJ aj ar c_.Fields,aa Cin.dt aJ aO c_.aE]/\KJ=(.go ())) (fun K qw=>?_) ?_
 · refine dV (fun (g3:Nat) a w=>∃ (jZ:Int),Fr ⟨66,[]⟩ [(54,.slice aJ c_.aE.length aO),(55,.i (c_.aE.length:Int)),(56,.i jZ)] a/\aD W aR X w [aw.br b2 94 [au c_.Name,au c_.bY,.slice aj c_.Fields.length ar,.slice aJ c_.aE.length aO]] [aa Cin.bJ aj ar c_.Fields,aa Cin.dt aJ aO c_.aE]/\Cin.tn F c_ g3 jZ=some KJ) F ⟨0,I.sub ⟨rfl,rfl,rfl,trivial⟩,hm,h⟩ ?_ ?_
   · rintro a w ⟨jZ,I,hm,h⟩;exact absurd h (by simp [Cin.tn])
   rintro g3 a w ⟨jZ,I,hm,h⟩ K Xy;rw [Cin.tn] at h;refine aP [] [(54,.slice aJ c_.aE.length aO),(55,.i (c_.aE.length:Int)),(56,.i jZ),(57,.bool (decide (jZ <(c_.aE.length:Int))))] I fun a I=>?_;refine wp_seq_k fun K H2=>?_;refine bH (I.g rfl) h (fun YP h=>?_) (fun YP h=>?_)
   · refine wp_skip ?_;refine H2 _ _ ?_;refine wp_seq_k fun K D2=>?_;refine wp_block ?_;refine wp_seq_k fun K Aj=>?_;refine a5 ?_;obtain ⟨dT,afX,h⟩:=Cin.aV h;obtain ⟨WX,ach,_,⟨yA,zI,yB,zJ,rfl,aa3,aa4⟩,Z'⟩:=da _ (hm.d 1 rfl) afX;have hm:=hm.more (y:=aa Cin.fb yA zI dT.bA) aa3;have hm:=hm.more (y:=aa Cin.fI yB zJ dT.bi) aa4;refine bW (av rfl) (cv Try.underlying92 Try.sizeOf91 rfl (I.g rfl) (I.g rfl) WX ach) I rfl rfl fun a I=>?_
     refine bj 1 [0,0] [(54,.slice aJ c_.aE.length aO),(55,.i (c_.aE.length:Int)),(56,.i jZ),(59,.agg #[au dT.Name,.bool dT.Static,.slice yA dT.bA.length zI,.i dT.Returns.Kind,au dT.Returns.aG,.i dT.c9,.i dT.c8,au dT.Code,.slice yB dT.bi.length zJ])] [ct aJ,cy aJ+(jZ).toNat* 9] (aQ Z' aS) I fun a I=>?_;refine c5 (cs:=[au [],.bool false,.slice none 0 0,.i 0,au [],.i 0,.i 0,au [],.slice none 0 0]) (av rfl) (e3 Try.zeroValue91 rfl rfl) I hm rfl rfl ?_;intro a V2 w U I hm;clear U
     refine c1 (vs:=[au dT.Name,.bool dT.Static,.slice yA dT.bA.length zI,.i dT.Returns.Kind,au dT.Returns.aG,.i dT.c9,.i dT.c8,au dT.Code,.slice yB dT.bi.length zJ]) 0 hm rfl (av rfl) rfl Try.sizeOf91 rfl rfl rfl rfl (I.g rfl) (I.g rfl) rfl ?_;intro w hm;simp only [List.set,lay,List.drop,List.length,List.cons_append,List.nil_append] at hm;refine wpList_nil ?_;refine Aj _ _ ?_;refine wp_seq_k fun K Ak=>?_;refine a5 ?_
     refine bj 1 [0,0] [(54,.slice aJ c_.aE.length aO),(55,.i (c_.aE.length:Int)),(56,.i jZ),(60,.agg #[au dT.Name,.bool dT.Static,.slice yA dT.bA.length zI,.i dT.Returns.Kind,au dT.Returns.aG,.i dT.c9,.i dT.c8,au dT.Code,.slice yB dT.bi.length zJ])] [V2,0] (aQ (bh (hm.e 0 rfl)) aS) I fun a I=>?_;obtain ⟨v',aev,h⟩:=Cin.aV h;have hc:=hm
     refine b4 (vs:=[.agg #[au dT.Name,.bool dT.Static,.slice yA dT.bA.length zI,.i dT.Returns.Kind,au dT.Returns.aG,.i dT.c9,.i dT.c8,au dT.Code,.slice yB dT.bi.length zJ]]) (av rfl) rfl Try.call65 ⟨(I.g rfl),trivial⟩ (O6 (m_:=(⟨dT.Name,dT.Static,dT.bA,(⟨dT.Returns.Kind,dT.Returns.aG⟩:Cin.Kind),dT.c9,dT.c8,dT.Code,dT.bi⟩:Cin.Method)) ((hc.into 0).pick ⟨⟨1,rfl⟩,⟨0,rfl⟩,trivial⟩) aev) I rfl rfl ?_;rintro _ w ⟨rfl,ad⟩;refine ⟨_,rfl,?_⟩;intro a I;have U:aX [] _ w:=ad.ev;have hm:=hc.back 0 ad;dsimp only [List.drop,List.cons_append,List.nil_append,HAppend.hAppend,Append.append,List.append] at hm;clear ad hc;clear U
     refine aN 1 [] [(7,.i v'),(54,.slice aJ c_.aE.length aO),(55,.i (c_.aE.length:Int)),(56,.i jZ)] I fun a I=>wpList_nil (Ak _ _ ?_);refine aP [] [(7,.i v'),(54,.slice aJ c_.aE.length aO),(55,.i (c_.aE.length:Int)),(56,.i jZ),(63,.bool (!decide (v'= 0)))] I fun a I=>?_;refine bH (I.g rfl) h (fun YS h=>?_) (fun YS h=>?_)
     · refine aP [] [(2,.i v')] I fun a I=>?_;refine wp_ret ?_;obtain rfl:=Option.some.inj h;obtain rfl:=Option.some.inj (show some (_)=some _ from I9);refine bO (aW (aW (bO (aW (aW ?_)))));refine bE Try.results44 I rfl ?_;exact ⟨rfl,(hm.a7 [] rfl rfl).pick trivial⟩
     refine wp_skip ?_;refine D2 _ _ ?_;refine c6 [] [(54,.slice aJ c_.aE.length aO),(55,.i (c_.aE.length:Int)),(56,.i (Cin.ay (jZ+ 1)))] I fun a I=>?_;exact Xy _ _ ⟨Cin.ay (jZ+ 1),I.sub ⟨rfl,rfl,rfl,trivial⟩,(hm.a7 [1] rfl rfl).pick ⟨⟨2,rfl⟩,⟨3,rfl⟩,trivial⟩,h⟩
   refine wp_exit ?_;refine b9 (b9 (dF ?_));exact qw _ _ ⟨I.sub trivial,hm,(Option.some.inj h).symm⟩
 rintro a w ⟨I,hm,bf⟩;subst KJ;have h:=I9;clear I9;dsimp only [Cin.fm] at h;refine vh _ _ ?_;refine aP [] [(2,.i 0)] I fun a I=>?_;refine wp_ret ?_;obtain rfl:=Option.some.inj h;refine bE Try.results44 I rfl ?_;exact ⟨rfl,(hm.a7 [] rfl rfl).pick trivial⟩
theorem Ut {W:World} {X:List Nat} {F:Nat} {a6:List Cin.aG} {r:Int} {aj:Option Addr} {ar:Nat} (hm:aD W (aT []) X W [] [aa Cin.bL aj ar a6]) (h:Cin.Bs F a6=some r) :
 Calls Try.prog 28 [.slice aj a6.length ar].toArray W (fun e az=>e= .returned (.i r)/\aD W (aT []) X az [] []):=by
 generalize bK:aT []=aR at hm ⊢;clear bK;refine enter Try.func28 rfl Try.ntmps28 rfl ?_;intro a I;rw [Cin.Bs] at h;refine aP [] [(0,.slice aj a6.length ar)] I fun a I=>?_;refine wp_seq_k fun K bS=>?_;refine aP [] [(0,.slice aj a6.length ar),(8,.bool (decide (10 <(a6.length:Int))))] I fun a I=>?_;refine bH (I.g rfl) h (fun qy h=>?_) (fun qy h=>?_)
 · refine aP [] [(2,.i 2)] I fun a I=>?_;refine wp_ret ?_;obtain rfl:=Option.some.inj h;refine aW ?_;refine bE Try.results28 I rfl ?_;exact ⟨rfl,(hm.a7 [] rfl rfl).pick trivial⟩
 refine wp_skip ?_;refine bS _ _ ?_;refine wp_seq_k fun K c3=>?_;refine aP [] [(9,.slice aj a6.length ar),(10,.i (a6.length:Int)),(11,.i 0)] I fun a I=>?_;obtain ⟨od,h,n8⟩:=Cin.fA h;refine dj (fun a w=>Fr ⟨21,[]⟩ [] a/\aD W aR X w [] [aa Cin.bL aj ar a6]/\od=(.go ())) (fun K dN=>?_) ?_
 · refine dV (fun (bq:Nat) a w=>∃ (j1:Int),Fr ⟨21,[]⟩ [(9,.slice aj a6.length ar),(10,.i (a6.length:Int)),(11,.i j1)] a/\aD W aR X w [] [aa Cin.bL aj ar a6]/\Cin.tj F a6 bq j1=some od) F ⟨0,I.sub ⟨rfl,rfl,rfl,trivial⟩,hm,h⟩ ?_ ?_
   · rintro a w ⟨j1,I,hm,h⟩;exact absurd h (by simp [Cin.tj])
   rintro bq a w ⟨j1,I,hm,h⟩ K dq;rw [Cin.tj] at h;refine aP [] [(9,.slice aj a6.length ar),(10,.i (a6.length:Int)),(11,.i j1),(12,.bool (decide (j1 <(a6.length:Int))))] I fun a I=>?_;refine wp_seq_k fun K dk=>?_;refine bH (I.g rfl) h (fun n0 h=>?_) (fun n0 h=>?_)
   · refine wp_skip ?_;refine dk _ _ ?_;refine wp_seq_k fun K dR=>?_;refine wp_block ?_;refine wp_seq_k fun K ey=>?_;refine a5 ?_;obtain ⟨hW,agq,h⟩:=Cin.aV h;obtain ⟨Xw,acS,_,⟨oU,o7,nz,nM,rfl,aaP,aaQ⟩,aaJ⟩:=da _ (hm.d 0 rfl) agq;have hm:=hm.more (y:=aa Cin.bJ oU o7 hW.Fields) aaP;have hm:=hm.more (y:=aa Cin.dt nz nM hW.aE) aaQ;refine bW (av rfl) (cv Try.underlying31 Try.sizeOf94 rfl (I.g rfl) (I.g rfl) Xw acS) I rfl rfl fun a I=>?_
     refine bj 1 [0,0] [(9,.slice aj a6.length ar),(10,.i (a6.length:Int)),(11,.i j1),(14,.agg #[au hW.Name,au hW.bY,.slice oU hW.Fields.length o7,.slice nz hW.aE.length nM])] [ct aj,cy aj+(j1).toNat* 4] (aQ aaJ aS) I fun a I=>?_;refine c5 (cs:=[au [],au [],.slice none 0 0,.slice none 0 0]) (av rfl) (e3 Try.zeroValue94 rfl rfl) I hm rfl rfl ?_;intro a VY w U I hm;clear U;refine c1 (vs:=[au hW.Name,au hW.bY,.slice oU hW.Fields.length o7,.slice nz hW.aE.length nM]) 0 hm rfl (av rfl) rfl Try.sizeOf94 rfl rfl rfl rfl (I.g rfl) (I.g rfl) rfl ?_;intro w hm;simp only [List.set,lay,List.drop,List.length,List.cons_append,List.nil_append] at hm;refine wpList_nil ?_;refine ey _ _ ?_
     refine wp_seq_k fun K eg=>?_;refine a5 ?_;refine bj 1 [0,0] [(9,.slice aj a6.length ar),(10,.i (a6.length:Int)),(11,.i j1),(15,.agg #[au hW.Name,au hW.bY,.slice oU hW.Fields.length o7,.slice nz hW.aE.length nM])] [VY,0] (aQ (bh (hm.e 0 rfl)) aS) I fun a I=>?_;obtain ⟨v7,adS,h⟩:=Cin.aV h;have hc:=hm;refine b4 (vs:=[.agg #[au hW.Name,au hW.bY,.slice oU hW.Fields.length o7,.slice nz hW.aE.length nM]]) (av rfl) rfl Try.call44 ⟨(I.g rfl),trivial⟩ (Uu ((hc.into 0).pick ⟨⟨1,rfl⟩,⟨0,rfl⟩,trivial⟩) adS) I rfl rfl ?_;rintro _ w ⟨rfl,ad⟩;refine ⟨_,rfl,?_⟩;intro a I;have U:aX [] _ w:=ad.ev;have hm:=hc.back 0 ad
     dsimp only [List.drop,List.cons_append,List.nil_append,HAppend.hAppend,Append.append,List.append] at hm;clear ad hc;clear U;refine aN 1 [] [(5,.i v7),(9,.slice aj a6.length ar),(10,.i (a6.length:Int)),(11,.i j1)] I fun a I=>wpList_nil (eg _ _ ?_);refine aP [] [(5,.i v7),(9,.slice aj a6.length ar),(10,.i (a6.length:Int)),(11,.i j1),(18,.bool (!decide (v7= 0)))] I fun a I=>?_;refine bH (I.g rfl) h (fun X1 h=>?_) (fun X1 h=>?_)
     · refine aP [] [(2,.i v7)] I fun a I=>?_;refine wp_ret ?_;obtain rfl:=Option.some.inj h;obtain rfl:=Option.some.inj (show some (_)=some _ from n8);refine bO (aW (aW (bO (aW (aW ?_)))));refine bE Try.results28 I rfl ?_;exact ⟨rfl,(hm.a7 [] rfl rfl).pick trivial⟩
     refine wp_skip ?_;refine dR _ _ ?_;refine c6 [] [(9,.slice aj a6.length ar),(10,.i (a6.length:Int)),(11,.i (Cin.ay (j1+ 1)))] I fun a I=>?_;exact dq _ _ ⟨Cin.ay (j1+ 1),I.sub ⟨rfl,rfl,rfl,trivial⟩,(hm.a7 [] rfl rfl).pick ⟨⟨2,rfl⟩,trivial⟩,h⟩
   refine wp_exit ?_;refine b9 (b9 (dF ?_));exact dN _ _ ⟨I.sub trivial,hm,(Option.some.inj h).symm⟩
 rintro a w ⟨I,hm,bf⟩;subst od;have h:=n8;clear n8;dsimp only [Cin.fm] at h;refine c3 _ _ ?_;refine aP [] [(2,.i 0)] I fun a I=>?_;refine wp_ret ?_;obtain rfl:=Option.some.inj h;refine bE Try.results28 I rfl ?_;exact ⟨rfl,(hm.a7 [] rfl rfl).pick trivial⟩
end Go.Proofs.Ytpkhpagplommoaa
namespace Cin
def oq (x_:cZ):Nat->(List ((List UInt8) × Int))->Int->Option (Way (Int × cZ) (List ((List UInt8) × Int)))
 | 0,_,_=>none
 | bq+ 1,iu,gk=>
   cond (decide (gk <(x_.l.length:Int))) ((idx x_.l gk).bind fun ic=>
   cond ((cW iu ic.Name).isSome) (some (.out (6,(⟨x_.l,iu,x_.bx⟩:cZ)))) (oq x_ bq (gW iu ic.Name gk) (ay (gk+ 1)))) (some (.go iu))
def xL (F:Nat) (x_:cZ):Option (Int × cZ):=
 dp (α:=List ((List UInt8) × Int)) (oq x_ F x_.cc 0) fun (lV:List ((List UInt8) × Int))=>
 cond ((!((cW lV [79,98,106,101,99,116]).isSome)) || (!((cW lV [69,114,114,111,114]).isSome))) (some (5,(⟨x_.l,lV,x_.bx⟩:cZ))) (some (0,(⟨x_.l,lV,x_.bx⟩:cZ)))
def rk (x_:cZ):Nat->Int->Option (Way (Int × cZ) (Unit))
 | 0,_=>none
 | bq+ 1,lr=>
   cond (decide (lr <(x_.l.length:Int))) ((idx x_.l lr).bind fun lB=>
   cond (!((decide (lB.Name= [79,98,106,101,99,116])) == (decide (lB.bY= [])))) (some (.out (4,(⟨x_.l,x_.cc,x_.bx⟩:cZ)))) (rk x_ bq (ay (lr+ 1)))) (some (.go ()))
def mF (x_:cZ):Nat->(List Int)->Int->Option (Way (Int × cZ) (List Int))
 | 0,_,_=>none
 | dd+ 1,iq,hD=>
   cond (decide (hD <(x_.l.length:Int))) (dG (α:=List Int) ((idx x_.l hD).bind fun fC=>
   dG (α:=Int) (dG (α:=Int) (cond (decide (fC.bY= [])) (some (.go (-1))) (cond (!((cW x_.cc fC.bY).isSome)) (some (.out (5,(⟨x_.l,x_.cc,iq⟩:cZ)))) (some (.go ((cW x_.cc fC.bY).getD 0))))) fun (xV:Int)=>
   some (.go xV)) fun (oy:Int)=>
   (ei 8 iq [oy]).bind fun vR=>
   some (.go vR)) fun (oi:List Int)=>
   mF x_ dd oi (ay (hD+ 1))) (some (.go iq))
def tz (x_:cZ) (eW:List Int):Nat->Int->Int->Option (Int)
 | 0,_,_=>none
 | g3+ 1,nn,lW=>
   cond (decide (lW <(x_.l.length:Int))) ((idx eW nn).bind fun pS=>
   cond (decide (pS < 0)) (some pS) (tz x_ eW g3 pS (ay (lW+ 1)))) (some nn)
def rl (F:Nat) (x_:cZ) (eW:List Int):Nat->Int->Option (Way (Int × cZ) (Unit))
 | 0,_=>none
 | e6+ 1,gz=>
   cond (decide (gz <(x_.l.length:Int))) (dG (α:=Unit) (Option.bind (α:=Int) (Option.bind (α:=Int) (tz x_ eW F gz 0) fun (xT:Int)=>
   some xT) fun (xS:Int)=>
   cond (decide (0 <=xS)) (some (.out (4,(⟨x_.l,x_.cc,eW⟩:cZ)))) (some (.go ()))) fun (_:Unit)=>
   rl F x_ eW e6 (ay (gz+ 1))) (some (.go ()))
def Ez (F:Nat) (x_:cZ):Option (Int × cZ):=
 dp (α:=Unit) (rk x_ F 0) fun (_:Unit)=>
 dp (α:=List Int) (mF x_ F x_.bx 0) fun (eW:List Int)=>
 dp (α:=Unit) (rl F x_ eW F 0) fun (_:Unit)=>
 some (0,(⟨x_.l,x_.cc,eW⟩:cZ))
def rn (x_:cZ):Nat->(List Int)->Int->Option (List Int)
 | 0,_,_=>none
 | bq+ 1,lQ,jn=>
   cond (decide (0 <=jn)) ((ei 8 lQ [jn]).bind fun vP=>
   (idx x_.bx jn).bind fun eX=>
   rn x_ bq vP eX) (some lQ)
def rm (F:Nat) (x_:cZ) (bs:Int):Option (List Int):=
 Option.bind (α:=List Int) (rn x_ F [] bs) fun (q1:List Int)=>
 some q1
def B_ (_:List Int):Option Unit:=some ()
def tB (x_:cZ):List Int->(List Field)->Option (List Field)
 | [],jy=>some jy
 | uj::Fa,jy=>
   (idx x_.l uj).bind fun ul=>
   (ei 40 jy ul.Fields).bind fun Ex=>
   tB x_ Fa Ex
def tA (F:Nat) (x_:cZ) (bs:Int):Option (List Field):=
 (rm F (⟨x_.l,x_.cc,x_.bx⟩:cZ) bs).bind fun oG=>
 (B_ oG).bind fun aiQ=>
 Option.bind (α:=List Field) (tB x_ oG.reverse []) fun (jy:List Field)=>
 some jy
def EA (F:Nat) (x_:cZ):Option (Int):=
 (tA F (⟨x_.l,x_.cc,x_.bx⟩:cZ) ((cW x_.cc [69,114,114,111,114]).getD 0)).bind fun cV=>
 (idx x_.l ((cW x_.cc [69,114,114,111,114]).getD 0)).bind fun yf=>
 cond ((!decide (yf.bY= [79,98,106,101,99,116])) || (decide ((cV.length:Int)= 0))) (some 4) ((idx cV 0).bind fun MX=>
 cond (!decide (MX.Kind.Kind= 1)) (some 4) (some 0))
def vS (ah:Kind) (q1_:List (List UInt8)):Option (List (List UInt8)):=
 cond (!decide (ah.aG= [])) ((ei 16 q1_ [ah.aG]).bind fun Lc=>
 some Lc) (some q1_)
def ru (bX:aG):Nat->(List (List UInt8))->Int->Option (List (List UInt8))
 | 0,_,_=>none
 | dd+ 1,oj,kx=>
   cond (decide (kx <(bX.Fields.length:Int))) ((idx bX.Fields kx).bind fun mR=>
   (vS (⟨mR.Kind.Kind,mR.Kind.aG⟩:Kind) oj).bind fun Ma=>
   ru bX dd Ma (ay (kx+ 1))) (some oj)
def ry (cg:Method):Nat->(List (List UInt8))->Int->Option (List (List UInt8))
 | 0,_,_=>none
 | g3+ 1,ol,ky=>
   cond (decide (ky <(cg.bA.length:Int))) ((idx cg.bA ky).bind fun oP=>
   (vS (⟨oP.Kind,oP.aG⟩:Kind) ol).bind fun Mc=>
   ry cg g3 Mc (ay (ky+ 1))) (some ol)
def rz (cg:Method):Nat->(List (List UInt8))->Int->Option (List (List UInt8))
 | 0,_,_=>none
 | pA+ 1,nf,kz=>
   cond (decide (kz <(cg.bi.length:Int))) ((idx cg.bi kz).bind fun l6=>
   (ei 16 nf [l6.aG]).bind fun Es=>
   rz cg pA Es (ay (kz+ 1))) (some nf)
def rv (F:Nat) (bX:aG):Nat->(List (List UInt8))->Int->Option (List (List UInt8))
 | 0,_,_=>none
 | e6+ 1,nd,fR=>
   cond (decide (fR <(bX.aE.length:Int))) (Option.bind (α:=List (List UInt8)) ((idx bX.aE fR).bind fun cg=>
   Option.bind (α:=List (List UInt8)) (ry cg F nd 0) fun (tv:List (List UInt8))=>
   (vS (⟨cg.Returns.Kind,cg.Returns.aG⟩:Kind) tv).bind fun Md=>
   Option.bind (α:=List (List UInt8)) (rz cg F Md 0) fun (q_:List (List UInt8))=>
   some q_) fun (q9:List (List UInt8))=>
   rv F bX e6 q9 (ay (fR+ 1))) (some nd)
def rs (F:Nat) (x_:cZ):Nat->(List (List UInt8))->Int->Option (List (List UInt8))
 | 0,_,_=>none
 | bq+ 1,nb,ez=>
   cond (decide (ez <(x_.l.length:Int))) (Option.bind (α:=List (List UInt8)) ((idx x_.l ez).bind fun bX=>
   Option.bind (α:=List (List UInt8)) (ru bX F nb 0) fun (q7:List (List UInt8))=>
   Option.bind (α:=List (List UInt8)) (rv F bX F q7 0) fun (q8:List (List UInt8))=>
   some q8) fun (q6:List (List UInt8))=>
   rs F x_ bq q6 (ay (ez+ 1))) (some nb)
def tI (x_:cZ) (fk:List (List UInt8)):Nat->Int->Option (Way (Int) (Unit))
 | 0,_=>none
 | tu+ 1,j0=>
   cond (decide (j0 <(fk.length:Int))) ((idx fk j0).bind fun yg=>
   cond (!((cW x_.cc yg).isSome)) (some (.out 5)) (tI x_ fk tu (ay (j0+ 1)))) (some (.go ()))
def BG (F:Nat) (x_:cZ):Option (Int):=
 Option.bind (α:=List (List UInt8)) (rs F x_ F [] 0) fun (fk:List (List UInt8))=>
 dp (α:=Unit) (tI x_ fk F 0) fun (_:Unit)=>
 some 0
def tJ (a6:List (List UInt8)):Nat->(List ((List UInt8) × Bool))->Int->Option (List ((List UInt8) × Bool))
 | 0,_,_=>none
 | bq+ 1,rA,ln=>
   cond (decide (ln <(a6.length:Int))) ((idx a6 ln).bind fun Ct=>
   tJ a6 bq (gW rA Ct true) (ay (ln+ 1))) (some rA)
def xN (F:Nat) (a6:List (List UInt8)):Option (Bool):=
 Option.bind (α:=List ((List UInt8) × Bool)) (tJ a6 F [] 0) fun (xO:List ((List UInt8) × Bool))=>
 some (decide ((xO.length:Int) <(a6.length:Int)))
def rq (fz:List Field):Nat->(List (List UInt8))->Int->Option (List (List UInt8))
 | 0,_,_=>none
 | dd+ 1,lc,ku=>
   cond (decide (ku <(fz.length:Int))) ((idx fz ku).bind fun ny=>
   (ei 16 lc [ny.Name]).bind fun BA=>
   rq fz dd BA (ay (ku+ 1))) (some lc)
def rr (dE:aG):Nat->(List (List UInt8))->Int->Option (List (List UInt8))
 | 0,_,_=>none
 | e6+ 1,ld,kv=>
   cond (decide (kv <(dE.aE.length:Int))) ((idx dE.aE kv).bind fun g9=>
   (ei 16 ld [g9.Name]).bind fun BB=>
   rr dE e6 BB (ay (kv+ 1))) (some ld)
def tF (F:Nat) (x_:cZ):Nat->Int->Option (Way (Int) (Unit))
 | 0,_=>none
 | bq+ 1,eF=>
   cond (decide (eF <(x_.l.length:Int))) (dG (α:=Unit) ((idx x_.l eF).bind fun dE=>
   (tA F (⟨x_.l,x_.cc,x_.bx⟩:cZ) eF).bind fun fz=>
   Option.bind (α:=List (List UInt8)) (rq fz F [] 0) fun (hB:List (List UInt8))=>
   Option.bind (α:=List (List UInt8)) (rr dE F [] 0) fun (nc:List (List UInt8))=>
   (xN F hB).bind fun E'=>
   cond (E') (some (.out 6)) ((xN F nc).bind fun L8=>
   cond (L8) (some (.out 6)) (some (.go ())))) fun (_:Unit)=>
   tF F x_ bq (ay (eF+ 1))) (some (.go ()))
def BE (F:Nat) (x_:cZ):Option (Int):=
 dp (α:=Unit) (tF F x_ F 0) fun (_:Unit)=>
 some 0
def wk (a2:List Kind) (bl:List Kind):Nat->Int->Option (Way (Bool) (Unit))
 | 0,_=>none
 | bq+ 1,b6=>
   cond (decide (b6 <(a2.length:Int))) ((idx a2 b6).bind fun fi=>
   (idx bl b6).bind fun gq=>
   cond (!decide (fi=gq)) (some (.out false)) (wk a2 bl bq (ay (b6+ 1)))) (some (.go ()))
def Cd (F:Nat) (a2:List Kind) (bl:List Kind):Option (Bool):=
 cond (!decide ((a2.length:Int)=(bl.length:Int))) (some false) (dp (α:=Unit) (wk a2 bl F 0) fun (_:Unit)=>
 some true)
def Ey (F:Nat) (a_:Method) (b_:Method):Option (Bool):=
 cond ((!a_.Static) && (!b_.Static)) ((Cd F a_.bA b_.bA).bind fun dB=>
 cond (dB) (some (decide ((⟨a_.Returns.Kind,a_.Returns.aG⟩:Kind)=(⟨b_.Returns.Kind,b_.Returns.aG⟩:Kind)))) (some false)) (some false)
def rp (F:Nat) (cX:Method) (fp:aG):Nat->Int->Option (Way (Int) (Unit))
 | 0,_=>none
 | g3+ 1,iv=>
   cond (decide (iv <(fp.aE.length:Int))) ((idx fp.aE iv).bind fun dI=>
   cond (decide (cX.Name=dI.Name)) ((Ey F (⟨cX.Name,cX.Static,cX.bA,(⟨cX.Returns.Kind,cX.Returns.aG⟩:Kind),cX.c9,cX.c8,cX.Code,cX.bi⟩:Method) (⟨dI.Name,dI.Static,dI.bA,(⟨dI.Returns.Kind,dI.Returns.aG⟩:Kind),dI.c9,dI.c8,dI.Code,dI.bi⟩:Method)).bind fun LX=>
   cond (!LX) (some (.out 4)) (rp F cX fp g3 (ay (iv+ 1)))) (rp F cX fp g3 (ay (iv+ 1)))) (some (.go ()))
def tE (F:Nat) (x_:cZ) (ck:aG) (gZ:Int):Nat->Int->Option (Way (Int) (Unit))
 | 0,_=>none
 | e6+ 1,gX=>
   cond (decide (gX <(ck.aE.length:Int))) (dG (α:=Unit) ((idx ck.aE gX).bind fun cX=>
   (idx x_.l gZ).bind fun fp=>
   dG (α:=Unit) (rp F cX fp F 0) fun (_:Unit)=>
   some (.go ())) fun (_:Unit)=>
   tE F x_ ck gZ e6 (ay (gX+ 1))) (some (.go ()))
def tD (F:Nat) (x_:cZ) (ck:aG) (dr:List Int):Nat->Int->Option (Way (Int) (Unit))
 | 0,_=>none
 | dd+ 1,fG=>
   cond (decide (fG <(dr.length:Int))) (dG (α:=Unit) ((idx dr fG).bind fun gZ=>
   dG (α:=Unit) (tE F x_ ck gZ F 0) fun (_:Unit)=>
   some (.go ())) fun (_:Unit)=>
   tD F x_ ck dr dd (ay (fG+ 1))) (some (.go ()))
def tC (F:Nat) (x_:cZ):Nat->Int->Option (Way (Int) (Unit))
 | 0,_=>none
 | bq+ 1,en=>
   cond (decide (en <(x_.l.length:Int))) (dG (α:=Unit) ((idx x_.l en).bind fun ck=>
   (rm F (⟨x_.l,x_.cc,x_.bx⟩:cZ) en).bind fun mJ=>
   (cut mJ 1 (mJ.length:Int)).bind fun dr=>
   dG (α:=Unit) (tD F x_ ck dr F 0) fun (_:Unit)=>
   some (.go ())) fun (_:Unit)=>
   tC F x_ bq (ay (en+ 1))) (some (.go ()))
def BD (F:Nat) (x_:cZ):Option (Int):=
 dp (α:=Unit) (tC F x_ F 0) fun (_:Unit)=>
 some 0
end Cin
