/- Part 2 of the proof that is ended in the last text: small logic, what the functions compute, walks, plain laws. -/
import Derived.Test.YtpkhpagplommoaaGreatZg1
import Derived.Test.YtpkhpagplommoaaGreatChecked
import Derived.KernelRfl
namespace J
structure Kind where
 Kind:Int
 aM:List UInt8
 deriving DecidableEq
structure Handler where
 From:Int
 To:Int
 gT:Int
 aM:List UInt8
 deriving DecidableEq
structure Method where
 Name:List UInt8
 Static:Bool
 bI:List Kind
 Returns:Kind
 cR:Int
 cQ:Int
 Code:List UInt8
 bK:List Handler
structure Field where
 Name:List UInt8
 Kind:Kind
 deriving DecidableEq
structure aM where
 Name:List UInt8
 bZ:List UInt8
 Fields:List Field
 aQ:List Method
structure Target where
 aM:Int
 Method:Int
 deriving DecidableEq
structure bs where
 aD:List aM
 aA:List Int
 Fields:List (List Field)
 Names:List (List (List UInt8))
 az:List (List Target)
structure df where
 l:List aM
 cA:List ((List UInt8) × Int)
 b3:List Int
structure bw where
 Words:List Int
 au:Int
 aI:Int
 aV:Int
 aT:Int
 aE:List Int
 Next:Int
structure dz where
 K:bs
structure ck where
 H:bw
 S:dz
 au:List Int
 aI:List Int
 c4:List (Int × Bool)
end J
namespace J
open Go
def dt:aZ.fb Kind where
 size:=2
 rd _ _ cs d:=cs= [.int .i64 d.Kind,aZ.ao d.aM]
 len h:=by subst h;rfl
 one h v ad:=by subst h;simp only [List.mem_cons,List.not_mem_nil,or_false] at ad;rcases ad with rfl | rfl <;> rfl
 law _ h:=h
def eg:aZ.fb Handler where
 size:=4
 rd _ _ cs d:=cs= [.int .i64 d.From,.int .i64 d.To,.int .i64 d.gT,aZ.ao d.aM]
 len h:=by subst h;rfl
 one h v ad:=by subst h;simp only [List.mem_cons,List.not_mem_nil,or_false] at ad;rcases ad with rfl | rfl | rfl | rfl <;> rfl
 law _ h:=h
def b4:aZ.fb Method where
 size:=9
 rd F w cs d:=∃ gu dV gv ej,cs= [aZ.ao d.Name,.bool d.Static,.slice gu d.bI.length dV,.int .i64 d.Returns.Kind,aZ.ao d.Returns.aM,.int .i64 d.cR,.int .i64 d.cQ,aZ.ao d.Code,.slice gv d.bK.length ej]/\(aZ.aG J.dt).rd F w [.slice gu d.bI.length dV] d.bI/\(aZ.aG J.eg).rd F w [.slice gv d.bK.length ej] d.bK
 len h:=by obtain ⟨gu,dV,gv,ej,bJ,_⟩:=h;subst bJ;rfl
 one h v ad:=by obtain ⟨gu,dV,gv,ej,bJ,_⟩:=h;subst bJ;simp only [List.mem_cons,List.not_mem_nil,or_false] at ad;rcases ad with rfl | rfl | rfl | rfl | rfl | rfl | rfl | rfl | rfl <;> rfl
 law bT h:=by obtain ⟨gu,dV,gv,ej,bJ,aC,aS⟩:=h;exact ⟨gu,dV,gv,ej,bJ,(aZ.aG J.dt).law bT aC,(aZ.aG J.eg).law bT aS⟩
def aW:aZ.fb Field where
 size:=3
 rd _ _ cs d:=cs= [aZ.ao d.Name,.int .i64 d.Kind.Kind,aZ.ao d.Kind.aM]
 len h:=by subst h;rfl
 one h v ad:=by subst h;simp only [List.mem_cons,List.not_mem_nil,or_false] at ad;rcases ad with rfl | rfl | rfl <;> rfl
 law _ h:=h
def a':aZ.fb aM where
 size:=4
 rd F w cs d:=∃ gu dV gv ej,cs= [aZ.ao d.Name,aZ.ao d.bZ,.slice gu d.Fields.length dV,.slice gv d.aQ.length ej]/\(aZ.aG J.aW).rd F w [.slice gu d.Fields.length dV] d.Fields/\(aZ.aG J.b4).rd F w [.slice gv d.aQ.length ej] d.aQ
 len h:=by obtain ⟨gu,dV,gv,ej,bJ,_⟩:=h;subst bJ;rfl
 one h v ad:=by obtain ⟨gu,dV,gv,ej,bJ,_⟩:=h;subst bJ;simp only [List.mem_cons,List.not_mem_nil,or_false] at ad;rcases ad with rfl | rfl | rfl | rfl <;> rfl
 law bT h:=by obtain ⟨gu,dV,gv,ej,bJ,aC,aS⟩:=h;exact ⟨gu,dV,gv,ej,bJ,(aZ.aG J.aW).law bT aC,(aZ.aG J.b4).law bT aS⟩
def bS:aZ.fb Target where
 size:=2
 rd _ _ cs d:=cs= [.int .i64 d.aM,.int .i64 d.Method]
 len h:=by subst h;rfl
 one h v ad:=by subst h;simp only [List.mem_cons,List.not_mem_nil,or_false] at ad;rcases ad with rfl | rfl <;> rfl
 law _ h:=h
def aGW:aZ.fb bs where
 size:=5
 rd F w cs d:=∃ gu dV gv ej rK fN vB jA vE kU,cs= [.slice gu d.aD.length dV,.slice gv d.aA.length ej,.slice rK d.Fields.length fN,.slice vB d.Names.length jA,.slice vE d.az.length kU]/\(aZ.aG J.a').rd F w [.slice gu d.aD.length dV] d.aD/\(aZ.aG (aZ.ak .i64)).rd F w [.slice gv d.aA.length ej] d.aA/\(aZ.aG (aZ.aG J.aW)).rd F w [.slice rK d.Fields.length fN] d.Fields/\(aZ.aG (aZ.aG aZ.bE)).rd F w [.slice vB d.Names.length jA] d.Names/\(aZ.aG (aZ.aG J.bS)).rd F w [.slice vE d.az.length kU] d.az
 len h:=by obtain ⟨gu,dV,gv,ej,rK,fN,vB,jA,vE,kU,bJ,_⟩:=h;subst bJ;rfl
 one h v ad:=by obtain ⟨gu,dV,gv,ej,rK,fN,vB,jA,vE,kU,bJ,_⟩:=h;subst bJ;simp only [List.mem_cons,List.not_mem_nil,or_false] at ad;rcases ad with rfl | rfl | rfl | rfl | rfl <;> rfl
 law bT h:=by obtain ⟨gu,dV,gv,ej,rK,fN,vB,jA,vE,kU,bJ,aC,aS,bV,er,iP⟩:=h;exact ⟨gu,dV,gv,ej,rK,fN,vB,jA,vE,kU,bJ,(aZ.aG J.a').law bT aC,(aZ.aG (aZ.ak .i64)).law bT aS,(aZ.aG (aZ.aG J.aW)).law bT bV,(aZ.aG (aZ.aG aZ.bE)).law bT er,(aZ.aG (aZ.aG J.bS)).law bT iP⟩
def aGV:aZ.fb bw where
 size:=7
 rd F w cs d:=∃ gu dV gv ej,cs= [.slice gu d.Words.length dV,.int .i64 d.au,.int .i64 d.aI,.int .i64 d.aV,.int .i64 d.aT,.slice gv d.aE.length ej,.int .i64 d.Next]/\(aZ.aG (aZ.ak .i64)).rd F w [.slice gu d.Words.length dV] d.Words/\(aZ.aG (aZ.ak .i64)).rd F w [.slice gv d.aE.length ej] d.aE
 len h:=by obtain ⟨gu,dV,gv,ej,bJ,_⟩:=h;subst bJ;rfl
 one h v ad:=by obtain ⟨gu,dV,gv,ej,bJ,_⟩:=h;subst bJ;simp only [List.mem_cons,List.not_mem_nil,or_false] at ad;rcases ad with rfl | rfl | rfl | rfl | rfl | rfl | rfl <;> rfl
 law bT h:=by obtain ⟨gu,dV,gv,ej,bJ,aC,aS⟩:=h;exact ⟨gu,dV,gv,ej,bJ,(aZ.aG (aZ.ak .i64)).law bT aC,(aZ.aG (aZ.ak .i64)).law bT aS⟩
end J
namespace Go.Value
abbrev aL (g:Nat):Value:=.pointer (some ⟨g,0,none⟩)
abbrev i (n:Int):Value:=.int .i64 n
end Go.Value
namespace Go.Proofs.YtpkhpagplommoaaGreat
open Go Go.RowKit
abbrev U {α:Type} (T:aZ.fb α) (A:Option Addr) (c:Nat) (l:List α):aZ.al:=aZ.al.of (aZ.aG T) [.slice A l.length c] l
def mv:aZ.mb:=⟨[(3,.i .i64),(4,.b),(5,.i .u8),(9,.s),(22,.U),(25,.U),(26,.U),(27,.U),(28,.U),(31,.i .i64),(106,.U),(124,.U),(125,.U),(126,.U),(130,.U),(131,.U),(134,.U),(184,.U),(186,.U)],[(24,0,0),(24,1,1),(24,2,2),(24,3,3),(24,4,4),(24,5,5),(24,6,6),(30,0,0),(30,1,1),(30,2,2),(30,3,3),(30,4,4),(74,0,0),(77,0,0),(77,1,7),(77,2,12),(77,3,13),(77,4,14),(103,0,0),(103,1,1),(105,0,0),(105,1,1),(122,0,0),(122,1,1),(122,2,2),(133,0,0),(133,1,1),(133,2,2),(133,3,3),(133,4,5),(133,5,6),(133,6,7),(133,7,8),(136,0,0),(136,1,1),(136,2,2),(136,3,3),(150,0,0),(150,1,1),(150,2,2),(150,3,3)],[(3,none),(4,none),(5,none),(9,none),(22,none),(24,some 7),(25,none),(26,none),(27,none),(28,none),(30,some 5),(65,none),(74,some 5),(75,none),(103,some 2),(105,some 3),(106,none),(118,none),(120,none),(123,none),(125,none),(126,none),(130,none),(131,none),(133,some 9),(134,none),(136,some 4),(150,some 4),(159,some 2)]⟩
theorem nx:aZ.rO Tryz.prog mv:=⟨⟨Tryz.underlying3,Tryz.underlying4,Tryz.underlying5,Tryz.underlying9,⟨_,Tryz.underlying22⟩,⟨_,Tryz.underlying25⟩,⟨_,Tryz.underlying26⟩,⟨_,Tryz.underlying27⟩,⟨_,Tryz.underlying28⟩,Tryz.underlying31,⟨_,Tryz.underlying106⟩,⟨_,Tryz.underlying124⟩,⟨_,Tryz.underlying125⟩,⟨_,Tryz.underlying126⟩,⟨_,Tryz.underlying130⟩,⟨_,Tryz.underlying131⟩,⟨_,Tryz.underlying134⟩,⟨_,Tryz.underlying184⟩,⟨_,Tryz.underlying186⟩,trivial⟩,⟨aZ.fs Tryz.underlying24 rfl rfl Tryz.sizeOf22 rfl,aZ.fs Tryz.underlying24 rfl rfl Tryz.sizeOf3 rfl,aZ.fs Tryz.underlying24 rfl rfl Tryz.sizeOf3 rfl,aZ.fs Tryz.underlying24 rfl rfl Tryz.sizeOf3 rfl,aZ.fs Tryz.underlying24 rfl rfl Tryz.sizeOf3 rfl,aZ.fs Tryz.underlying24 rfl rfl Tryz.sizeOf22 rfl,aZ.fs Tryz.underlying24 rfl rfl Tryz.sizeOf3 rfl,aZ.fs Tryz.underlying30 rfl rfl Tryz.sizeOf25 rfl,aZ.fs Tryz.underlying30 rfl rfl Tryz.sizeOf22 rfl,aZ.fs Tryz.underlying30 rfl rfl Tryz.sizeOf26 rfl,aZ.fs Tryz.underlying30 rfl rfl Tryz.sizeOf27 rfl,aZ.fs Tryz.underlying30 rfl rfl Tryz.sizeOf28 rfl,aZ.fs Tryz.underlying74 rfl rfl Tryz.sizeOf30 rfl,aZ.fs Tryz.underlying77 rfl rfl Tryz.sizeOf24 rfl,aZ.fs Tryz.underlying77 rfl rfl Tryz.sizeOf74 rfl,aZ.fs Tryz.underlying77 rfl rfl Tryz.sizeOf22 rfl,aZ.fs Tryz.underlying77 rfl rfl Tryz.sizeOf22 rfl,aZ.fs Tryz.underlying77 rfl rfl Tryz.sizeOf75 rfl,aZ.fs Tryz.underlying103 rfl rfl Tryz.sizeOf3 rfl,aZ.fs Tryz.underlying103 rfl rfl Tryz.sizeOf9 rfl,aZ.fs Tryz.underlying105 rfl rfl Tryz.sizeOf9 rfl,aZ.fs Tryz.underlying105 rfl rfl Tryz.sizeOf103 rfl,aZ.fs Tryz.underlying122 rfl rfl Tryz.sizeOf25 rfl,aZ.fs Tryz.underlying122 rfl rfl Tryz.sizeOf120 rfl,aZ.fs Tryz.underlying122 rfl rfl Tryz.sizeOf22 rfl,aZ.fs Tryz.underlying133 rfl rfl Tryz.sizeOf9 rfl,aZ.fs Tryz.underlying133 rfl rfl Tryz.sizeOf4 rfl,aZ.fs Tryz.underlying133 rfl rfl Tryz.sizeOf130 rfl,aZ.fs Tryz.underlying133 rfl rfl Tryz.sizeOf103 rfl,aZ.fs Tryz.underlying133 rfl rfl Tryz.sizeOf3 rfl,aZ.fs Tryz.underlying133 rfl rfl Tryz.sizeOf3 rfl,aZ.fs Tryz.underlying133 rfl rfl Tryz.sizeOf9 rfl,aZ.fs Tryz.underlying133 rfl rfl Tryz.sizeOf131 rfl,aZ.fs Tryz.underlying136 rfl rfl Tryz.sizeOf9 rfl,aZ.fs Tryz.underlying136 rfl rfl Tryz.sizeOf9 rfl,aZ.fs Tryz.underlying136 rfl rfl Tryz.sizeOf106 rfl,aZ.fs Tryz.underlying136 rfl rfl Tryz.sizeOf134 rfl,aZ.fs Tryz.underlying150 rfl rfl Tryz.sizeOf3 rfl,aZ.fs Tryz.underlying150 rfl rfl Tryz.sizeOf3 rfl,aZ.fs Tryz.underlying150 rfl rfl Tryz.sizeOf3 rfl,aZ.fs Tryz.underlying150 rfl rfl Tryz.sizeOf9 rfl,trivial⟩,⟨Tryz.isAgg3,Tryz.isAgg4,Tryz.isAgg5,Tryz.isAgg9,Tryz.isAgg22,⟨Tryz.isAgg24,Tryz.sizeOf24⟩,Tryz.isAgg25,Tryz.isAgg26,Tryz.isAgg27,Tryz.isAgg28,⟨Tryz.isAgg30,Tryz.sizeOf30⟩,Tryz.isAgg65,⟨Tryz.isAgg74,Tryz.sizeOf74⟩,Tryz.isAgg75,⟨Tryz.isAgg103,Tryz.sizeOf103⟩,⟨Tryz.isAgg105,Tryz.sizeOf105⟩,Tryz.isAgg106,Tryz.isAgg118,Tryz.isAgg120,Tryz.isAgg123,Tryz.isAgg125,Tryz.isAgg126,Tryz.isAgg130,Tryz.isAgg131,⟨Tryz.isAgg133,Tryz.sizeOf133⟩,Tryz.isAgg134,⟨Tryz.isAgg136,Tryz.sizeOf136⟩,⟨Tryz.isAgg150,Tryz.sizeOf150⟩,⟨Tryz.isAgg159,Tryz.sizeOf159⟩,trivial⟩⟩
theorem nD:(Tryz.prog.info? 3).map (fun i=>(i.zero,i.size,i.bytes))=some (some (.int .i64 0),1,8):=by kernel_rfl
theorem xR:(Tryz.prog.info? 9).map (fun i=>(i.zero,i.size,i.bytes))=some (some (aZ.ao []),1,16):=by kernel_rfl
theorem aEk:(Tryz.prog.info? 103).map (fun i=>(i.zero,i.size,i.bytes))=some (some (.agg #[.int .i64 0,aZ.ao []]),2,24):=by kernel_rfl
theorem UF:(Tryz.prog.info? 105).map (fun i=>(i.zero,i.size,i.bytes))=some (some (.agg #[aZ.ao [],.int .i64 0,aZ.ao []]),3,40):=by kernel_rfl
theorem adU:(Tryz.prog.info? 106).map (fun i=>(i.zero,i.size,i.bytes))=some (some (.slice none 0 0),1,24):=by kernel_rfl
theorem adV:(Tryz.prog.info? 125).map (fun i=>(i.zero,i.size,i.bytes))=some (some (.slice none 0 0),1,24):=by kernel_rfl
theorem adW:(Tryz.prog.info? 126).map (fun i=>(i.zero,i.size,i.bytes))=some (some (.slice none 0 0),1,24):=by kernel_rfl
theorem aEl:(Tryz.prog.info? 133).map (fun i=>(i.zero,i.size,i.bytes))=some (some (.agg #[aZ.ao [],.bool false,.slice none 0 0,.int .i64 0,aZ.ao [],.int .i64 0,.int .i64 0,aZ.ao [],.slice none 0 0]),9,128):=by kernel_rfl
theorem aEm:(Tryz.prog.info? 136).map (fun i=>(i.zero,i.size,i.bytes))=some (some (.agg #[aZ.ao [],aZ.ao [],.slice none 0 0,.slice none 0 0]),4,80):=by kernel_rfl
theorem aEn:(Tryz.prog.info? 150).map (fun i=>(i.zero,i.size,i.bytes))=some (some (.agg #[.int .i64 0,.int .i64 0,.int .i64 0,aZ.ao []]),4,40):=by kernel_rfl
theorem LA:(Tryz.prog.info? 159).map (fun i=>(i.zero,i.size,i.bytes))=some (some (.agg #[.int .i64 0,.int .i64 0]),2,16):=by kernel_rfl
theorem u4:∀ w,(aZ.placesOf Tryz.prog 24).run Tryz.prog w= .ok #[(0,1),(1,1),(2,1),(3,1),(4,1),(5,1),(6,1)] w:=fun w=>by kernel_rfl
theorem qb:∀ w,(aZ.placesOf Tryz.prog 30).run Tryz.prog w= .ok #[(0,1),(1,1),(2,1),(3,1),(4,1)] w:=fun w=>by kernel_rfl
theorem aFo:∀ w,(aZ.placesOf Tryz.prog 74).run Tryz.prog w= .ok #[(0,5)] w:=fun w=>by kernel_rfl
theorem aFp:∀ w,(aZ.placesOf Tryz.prog 77).run Tryz.prog w= .ok #[(0,7),(7,5),(12,1),(13,1),(14,1)] w:=fun w=>by kernel_rfl
theorem ae':∀ w,(aZ.placesOf Tryz.prog 103).run Tryz.prog w= .ok #[(0,1),(1,1)] w:=fun w=>by kernel_rfl
theorem aFl:∀ w,(aZ.placesOf Tryz.prog 105).run Tryz.prog w= .ok #[(0,1),(1,2)] w:=fun w=>by kernel_rfl
theorem aFm:∀ w,(aZ.placesOf Tryz.prog 122).run Tryz.prog w= .ok #[(0,1),(1,1),(2,1)] w:=fun w=>by kernel_rfl
theorem aFn:∀ w,(aZ.placesOf Tryz.prog 133).run Tryz.prog w= .ok #[(0,1),(1,1),(2,1),(3,2),(5,1),(6,1),(7,1),(8,1)] w:=fun w=>by kernel_rfl
theorem afa:∀ w,(aZ.placesOf Tryz.prog 136).run Tryz.prog w= .ok #[(0,1),(1,1),(2,1),(3,1)] w:=fun w=>by kernel_rfl
theorem WO:∀ w,(aZ.placesOf Tryz.prog 159).run Tryz.prog w= .ok #[(0,1),(1,1)] w:=fun w=>by kernel_rfl
theorem aj9 {o:Oper} {a:Act} {w:World} {ef:TypeId} {x y:Operand} {X Y:J.Kind} (bm:o.op= .binOp .eql 103 x y ef) (ai:a.eval x= .agg #[.int .i64 X.Kind,aZ.ao X.aM]) (hy:a.eval y= .agg #[.int .i64 Y.Kind,aZ.ao Y.aM]):aZ.cf Tryz.prog o a w (.bool (decide (X=Y))) w:=by
 have bW:decide (X=Y)=decide (X.Kind=Y.Kind/\X.aM=Y.aM/\True):=by rcases X with ⟨_,_⟩;rcases Y with ⟨_,_⟩;simp
 rw [bW]
 exact aZ.aH2 Tryz.underlying103 (by kernel_rfl) (by kernel_rfl) (aZ.xd rfl Tryz.underlying3 Tryz.isAgg3 rfl rfl (aZ.Fu rfl Tryz.underlying9 Tryz.isAgg9 rfl rfl (by simp [aZ.Ca]))) bm ai hy
theorem Fv {o:Oper} {a:Act} {w:World} {ef:TypeId} {x y:Operand} {X Y:J.Kind} (bm:o.op= .binOp .neq 103 x y ef) (ai:a.eval x= .agg #[.int .i64 X.Kind,aZ.ao X.aM]) (hy:a.eval y= .agg #[.int .i64 Y.Kind,aZ.ao Y.aM]):aZ.cf Tryz.prog o a w (.bool (!decide (X=Y))) w:=by
 have bW:decide (X=Y)=decide (X.Kind=Y.Kind/\X.aM=Y.aM/\True):=by rcases X with ⟨_,_⟩;rcases Y with ⟨_,_⟩;simp
 rw [bW]
 exact aZ.O1 Tryz.underlying103 (by kernel_rfl) (by kernel_rfl) (aZ.xd rfl Tryz.underlying3 Tryz.isAgg3 rfl rfl (aZ.Fu rfl Tryz.underlying9 Tryz.isAgg9 rfl rfl (by simp [aZ.Ca]))) bm ai hy
theorem ab0 {o:Oper} {a:Act} {w:World} {ef:TypeId} {x y:Operand} {X Y:J.Field} (bm:o.op= .binOp .neq 105 x y ef) (ai:a.eval x= .agg #[aZ.ao X.Name,.int .i64 X.Kind.Kind,aZ.ao X.Kind.aM]) (hy:a.eval y= .agg #[aZ.ao Y.Name,.int .i64 Y.Kind.Kind,aZ.ao Y.Kind.aM]):aZ.cf Tryz.prog o a w (.bool (!decide (X=Y))) w:=by
 have bW:decide (X=Y)=decide (X.Name=Y.Name/\(X.Kind.Kind=Y.Kind.Kind/\X.Kind.aM=Y.Kind.aM/\True)/\True):=by rcases X with ⟨_,⟨_,_⟩⟩;rcases Y with ⟨_,⟨_,_⟩⟩;simp
 rw [bW]
 exact aZ.O1 Tryz.underlying105 (by kernel_rfl) (by kernel_rfl) (aZ.Fu rfl Tryz.underlying9 Tryz.isAgg9 rfl rfl (aZ.aj1 (us:=[.int .i64 X.Kind.Kind,aZ.ao X.Kind.aM]) (vs:=[.int .i64 Y.Kind.Kind,aZ.ao Y.Kind.aM]) (q:=X.Kind.Kind=Y.Kind.Kind/\X.Kind.aM=Y.Kind.aM/\True) rfl Tryz.isAgg103 Tryz.sizeOf103 rfl rfl (aZ.aj' Tryz.underlying103 (by kernel_rfl) (aZ.xd rfl Tryz.underlying3 Tryz.isAgg3 rfl rfl (aZ.Fu rfl Tryz.underlying9 Tryz.isAgg9 rfl rfl (by simp [aZ.Ca])))) (by simp [aZ.Ca]))) bm ai hy
theorem aj_ {o:Oper} {a:Act} {w:World} {ef:TypeId} {x y:Operand} {X Y:J.Handler} (bm:o.op= .binOp .neq 150 x y ef) (ai:a.eval x= .agg #[.int .i64 X.From,.int .i64 X.To,.int .i64 X.gT,aZ.ao X.aM]) (hy:a.eval y= .agg #[.int .i64 Y.From,.int .i64 Y.To,.int .i64 Y.gT,aZ.ao Y.aM]):aZ.cf Tryz.prog o a w (.bool (!decide (X=Y))) w:=by
 have bW:decide (X=Y)=decide (X.From=Y.From/\X.To=Y.To/\X.gT=Y.gT/\X.aM=Y.aM/\True):=by rcases X with ⟨_,_,_,_⟩;rcases Y with ⟨_,_,_,_⟩;simp
 rw [bW]
 exact aZ.O1 Tryz.underlying150 (by kernel_rfl) (by kernel_rfl) (aZ.xd rfl Tryz.underlying3 Tryz.isAgg3 rfl rfl (aZ.xd rfl Tryz.underlying3 Tryz.isAgg3 rfl rfl (aZ.xd rfl Tryz.underlying3 Tryz.isAgg3 rfl rfl (aZ.Fu rfl Tryz.underlying9 Tryz.isAgg9 rfl rfl (by simp [aZ.Ca]))))) bm ai hy
theorem ab1 {o:Oper} {a:Act} {w:World} {ef:TypeId} {x y:Operand} {X Y:J.Target} (bm:o.op= .binOp .neq 159 x y ef) (ai:a.eval x= .agg #[.int .i64 X.aM,.int .i64 X.Method]) (hy:a.eval y= .agg #[.int .i64 Y.aM,.int .i64 Y.Method]):aZ.cf Tryz.prog o a w (.bool (!decide (X=Y))) w:=by
 have bW:decide (X=Y)=decide (X.aM=Y.aM/\X.Method=Y.Method/\True):=by rcases X with ⟨_,_⟩;rcases Y with ⟨_,_⟩;simp
 rw [bW]
 exact aZ.O1 Tryz.underlying159 (by kernel_rfl) (by kernel_rfl) (aZ.xd rfl Tryz.underlying3 Tryz.isAgg3 rfl rfl (aZ.xd rfl Tryz.underlying3 Tryz.isAgg3 rfl rfl (by simp [aZ.Ca]))) bm ai hy
section
open aZ
variable {n:g8} {b1:List (Nat × Value)} {w:World} {a:Act}
theorem eu (k:Nat) (a5:List Nat) {ops:Array Oper} {Q:Exit->Act->World->Prop} {rest:List Oper} (fr':List (Nat × Value)) (I:Fr n b1 a)
 (next:∀ bL,Fr n fr' bL->wpList Tryz.prog ops Q (rest.drop k) bL w) (he:j6 mv ops n [] (rest.take k) a5 b1 (fr'.map (·.1))=some (fr',dup []):=by kernel_rfl):wpList Tryz.prog ops Q rest a w:=g5 k _ a5 nx aw I he next
theorem jT (k:Nat) (a5:List Nat) {ops:Array Oper} {Q:Exit->Act->World->Prop} {rest:List Oper} {M:List (Nat × Nat × List Value)} (fr':List (Nat × Value)) (L:List Nat) (fi:iT w M) (I:Fr n b1 a)
 (next:∀ bL,Fr n fr' bL->wpList Tryz.prog ops Q (rest.drop k) bL w) (he:j6 mv ops n M (rest.take k) a5 b1 (fr'.map (·.1))=some (fr',dup L):=by kernel_rfl):wpList Tryz.prog ops Q rest a w:=g5 k _ a5 nx fi I he next
theorem C5 (k:Nat) (a5:List Nat) {ops:Array Oper} {C:World->Prop} {ng:Act->Prop} {rest:List Oper} {M:List (Nat × Nat × List Value)} (fr':List (Nat × Value)) (L:List Nat) (fi:∀ w,C w->iT w M) (I:Fr n b1 a)
 (next:∀ bL,Fr n fr' bL->wpQuiet Tryz.prog ops C ng (rest.drop k) bL) (he:j6 mv ops n M (rest.take k) a5 b1 (fr'.map (·.1))=some (fr',dup L):=by kernel_rfl):wpQuiet Tryz.prog ops C ng rest a:=afd k _ a5 nx fi I he next
theorem rg (a5:List Nat) {id:Nat} {lo:List Oper} {Q:Exit->Act->World->Prop} {M:List (Nat × Nat × List Value)} (fr':List (Nat × Value)) (L:List Nat) (fi:iT w M) (I:Fr n b1 a)
 (next:∀ bL,Fr n fr' bL->Q .normal bL w) (he:j6 mv lo.toArray n M lo a5 b1 (fr'.map (·.1))=some (fr',dup L):=by kernel_rfl):(Code.region id lo.toArray false).wp Tryz.prog Q a w:=by
 refine aY (g5 lo.length _ a5 nx fi I (by rw [List.take_length];exact he) fun bL eY=>?_)
 rw [List.drop_length]
 exact next bL eY
theorem Dc (a5:List Nat) {id:Nat} {lo:List Oper} {Q:Exit->Act->World->Prop} (fr':List (Nat × Value)) (I:Fr n b1 a)
 (next:∀ bL,Fr n fr' bL->Q .normal bL w) (he:j6 mv lo.toArray n [] lo a5 b1 (fr'.map (·.1))=some (fr',dup []):=by kernel_rfl):(Code.region id lo.toArray false).wp Tryz.prog Q a w:=rg a5 fr' [] aw I next he
theorem bt (a5:List Nat) {id:Nat} {lo:List Oper} {c:Code} {Q:Exit->Act->World->Prop} (fr':List (Nat × Value)) (I:Fr n b1 a)
 (next:∀ bL,Fr n fr' bL->c.wp Tryz.prog Q bL w) (he:j6 mv lo.toArray n [] lo a5 b1 (fr'.map (·.1))=some (fr',dup []):=by kernel_rfl):(Code.seq (.region id lo.toArray false) c).wp Tryz.prog Q a w:=wp_seq_k fun _ hn=>rg a5 fr' [] aw I (fun bL eY=>hn _ _ (next bL eY)) he
theorem aN (k:Nat) (a5:List Nat) {ops:Array Oper} {Q:Exit->Act->World->Prop} {rest:List Oper} (ha:List (Nat × Value)) (I:Fr n b1 a)
 (next:∀ bL,Fr n (oa ha b1) bL->wpList Tryz.prog ops Q (rest.drop k) bL w) (he:j6 mv ops n [] (rest.take k) a5 b1 ((lA ha b1).map (·.1))=some (lA ha b1,dup []):=by kernel_rfl):wpList Tryz.prog ops Q rest a w:=g5 k _ a5 nx aw I he fun bL h=>next bL h.Fs
theorem bi (k:Nat) (a5:List Nat) {ops:Array Oper} {Q:Exit->Act->World->Prop} {rest:List Oper} {M:List (Nat × Nat × List Value)} (ha:List (Nat × Value)) (L:List Nat) (fi:iT w M) (I:Fr n b1 a)
 (next:∀ bL,Fr n (oa ha b1) bL->wpList Tryz.prog ops Q (rest.drop k) bL w) (he:j6 mv ops n M (rest.take k) a5 b1 ((lA ha b1).map (·.1))=some (lA ha b1,dup L):=by kernel_rfl):wpList Tryz.prog ops Q rest a w:=g5 k _ a5 nx fi I he fun bL h=>next bL h.Fs
theorem dB (k:Nat) (a5:List Nat) {ops:Array Oper} {C:World->Prop} {ng:Act->Prop} {rest:List Oper} {M:List (Nat × Nat × List Value)} (ha:List (Nat × Value)) (L:List Nat) (fi:∀ w,C w->iT w M) (I:Fr n b1 a)
 (next:∀ bL,Fr n (oa ha b1) bL->wpQuiet Tryz.prog ops C ng (rest.drop k) bL) (he:j6 mv ops n M (rest.take k) a5 b1 ((lA ha b1).map (·.1))=some (lA ha b1,dup L):=by kernel_rfl):wpQuiet Tryz.prog ops C ng rest a:=afd k _ a5 nx fi I he fun bL h=>next bL h.Fs
theorem eE (a5:List Nat) {id:Nat} {lo:List Oper} {Q:Exit->Act->World->Prop} {M:List (Nat × Nat × List Value)} (ha:List (Nat × Value)) (L:List Nat) (fi:iT w M) (I:Fr n b1 a)
 (next:∀ bL,Fr n (oa ha b1) bL->Q .normal bL w) (he:j6 mv lo.toArray n M lo a5 b1 ((lA ha b1).map (·.1))=some (lA ha b1,dup L):=by kernel_rfl):(Code.region id lo.toArray false).wp Tryz.prog Q a w:=rg a5 _ L fi I (fun bL h=>next bL h.Fs) he
theorem cg (a5:List Nat) {id:Nat} {lo:List Oper} {Q:Exit->Act->World->Prop} (ha:List (Nat × Value)) (I:Fr n b1 a)
 (next:∀ bL,Fr n (oa ha b1) bL->Q .normal bL w) (he:j6 mv lo.toArray n [] lo a5 b1 ((lA ha b1).map (·.1))=some (lA ha b1,dup []):=by kernel_rfl):(Code.region id lo.toArray false).wp Tryz.prog Q a w:=eE a5 ha [] aw I next he
theorem bb (a5:List Nat) {id:Nat} {lo:List Oper} {c:Code} {Q:Exit->Act->World->Prop} (ha:List (Nat × Value)) (I:Fr n b1 a)
 (next:∀ bL,Fr n (oa ha b1) bL->c.wp Tryz.prog Q bL w) (he:j6 mv lo.toArray n [] lo a5 b1 ((lA ha b1).map (·.1))=some (lA ha b1,dup []):=by kernel_rfl):(Code.seq (.region id lo.toArray false) c).wp Tryz.prog Q a w:=wp_seq_k fun _ hn=>eE a5 ha [] aw I (fun bL eY=>hn _ _ (next bL eY)) he
variable {ops:Array Oper} {Q:Exit->Act->World->Prop} {S:World->Prop} {f p:Nat} {ds:List Nat} {M:List (Nat × Nat × List Value)}
theorem a0 (is:List Nat) (k:Nat) (a5:List Nat) (fr':List (Nat × Value)) (L:List Nat) (fi:∀ w,S w->iT w M) (I:Fr n b1 a) (ox:S w) (next:∀ bL,Fr n fr' bL->eC Tryz.prog ops Q p S f (H5 is ds) bL w)
 (bf:Nat.beq is.length k=true:=by kernel_rfl) (nA:(ht ops.size ds).getD p false=false:=by kernel_rfl) (bO:Dm ops p ds is=true:=by kernel_rfl) (he:KL mv ops n M is a5 b1 (fr'.map (·.1))=some (fr',dup L):=by kernel_rfl):eC Tryz.prog ops Q p S (f+k) ds a w:=by
 obtain ⟨os,aC,aS⟩:=akf he
 exact ahw is k _ a5 nx fi I bf nA aC bO aS ox next
theorem ch (is:List Nat) (k:Nat) (a5:List Nat) (ha:List (Nat × Value)) (L:List Nat) (fi:∀ w,S w->iT w M) (I:Fr n b1 a) (ox:S w) (next:∀ bL,Fr n (oa ha b1) bL->eC Tryz.prog ops Q p S f (H5 is ds) bL w)
 (bf:Nat.beq is.length k=true:=by kernel_rfl) (nA:(ht ops.size ds).getD p false=false:=by kernel_rfl) (bO:Dm ops p ds is=true:=by kernel_rfl) (he:KL mv ops n M is a5 b1 ((lA ha b1).map (·.1))=some (lA ha b1,dup L):=by kernel_rfl):eC Tryz.prog ops Q p S (f+k) ds a w:=
 a0 is k a5 _ L fi I ox (fun bL h=>next bL h.Fs) bf nA bO he
end
end Go.Proofs.YtpkhpagplommoaaGreat
namespace Go.Proofs.YtpkhpagplommoaaGreat
open Go Go.RowKit
theorem nn:Tryz.prog.cellsOf 3 = 1 :=by kernel_rfl
theorem ajL:Tryz.prog.cellsOf 4 = 1 :=by kernel_rfl
theorem w_:Tryz.prog.cellsOf 9 = 1 :=by kernel_rfl
theorem Qi:Tryz.prog.cellsOf 22 = 1 :=by kernel_rfl
theorem ajE:Tryz.prog.cellsOf 24 = 7 :=by kernel_rfl
theorem ajG:Tryz.prog.cellsOf 25 = 1 :=by kernel_rfl
theorem ajH:Tryz.prog.cellsOf 26 = 1 :=by kernel_rfl
theorem ajI:Tryz.prog.cellsOf 27 = 1 :=by kernel_rfl
theorem ajJ:Tryz.prog.cellsOf 28 = 1 :=by kernel_rfl
theorem ajK:Tryz.prog.cellsOf 30 = 5 :=by kernel_rfl
theorem KE:Tryz.prog.cellsOf 103 = 2 :=by kernel_rfl
theorem abC:Tryz.prog.cellsOf 105 = 3 :=by kernel_rfl
theorem abD:Tryz.prog.cellsOf 106 = 1 :=by kernel_rfl
theorem ajy:Tryz.prog.cellsOf 125 = 1 :=by kernel_rfl
theorem ajz:Tryz.prog.cellsOf 126 = 1 :=by kernel_rfl
theorem ajA:Tryz.prog.cellsOf 130 = 1 :=by kernel_rfl
theorem ajB:Tryz.prog.cellsOf 131 = 1 :=by kernel_rfl
theorem abE:Tryz.prog.cellsOf 133 = 9 :=by kernel_rfl
theorem ajC:Tryz.prog.cellsOf 134 = 1 :=by kernel_rfl
theorem abF:Tryz.prog.cellsOf 136 = 4 :=by kernel_rfl
theorem abH:Tryz.prog.cellsOf 150 = 4 :=by kernel_rfl
theorem abJ:Tryz.prog.cellsOf 159 = 2 :=by kernel_rfl
theorem ahL:Tryz.prog.bytesOf 3 = 8 :=by kernel_rfl
theorem ahM:Tryz.prog.bytesOf 9 = 16 :=by kernel_rfl
theorem ahC:Tryz.prog.bytesOf 103 = 24 :=by kernel_rfl
theorem ahD:Tryz.prog.bytesOf 105 = 40 :=by kernel_rfl
theorem ahE:Tryz.prog.bytesOf 106 = 24 :=by kernel_rfl
theorem ahF:Tryz.prog.bytesOf 125 = 24 :=by kernel_rfl
theorem ahG:Tryz.prog.bytesOf 126 = 24 :=by kernel_rfl
theorem ahH:Tryz.prog.bytesOf 133 = 128 :=by kernel_rfl
theorem ahI:Tryz.prog.bytesOf 136 = 80 :=by kernel_rfl
theorem ahJ:Tryz.prog.bytesOf 150 = 40 :=by kernel_rfl
theorem ahK:Tryz.prog.bytesOf 159 = 16 :=by kernel_rfl
theorem aeJ {l:List Value} (h:l.length= 2):∃ a0 d_,l= [a0,d_]:=match l,h with | [a0,d_],_=>⟨a0,d_,rfl⟩
theorem aEG {l:List Value} (h:l.length= 3):∃ a0 d_ e5,l= [a0,d_,e5]:=match l,h with | [a0,d_,e5],_=>⟨a0,d_,e5,rfl⟩
theorem aeK {l:List Value} (h:l.length= 4):∃ a0 d_ e5 a3,l= [a0,d_,e5,a3]:=match l,h with | [a0,d_,e5,a3],_=>⟨a0,d_,e5,a3,rfl⟩
theorem aEH {l:List Value} (h:l.length= 5):∃ a0 d_ e5 a3 a4,l= [a0,d_,e5,a3,a4]:=match l,h with | [a0,d_,e5,a3,a4],_=>⟨a0,d_,e5,a3,a4,rfl⟩
theorem aEI {l:List Value} (h:l.length= 7):∃ a0 d_ e5 a3 a4 nh mc,l= [a0,d_,e5,a3,a4,nh,mc]:=match l,h with | [a0,d_,e5,a3,a4,nh,mc],_=>⟨a0,d_,e5,a3,a4,nh,mc,rfl⟩
theorem aEJ {l:List Value} (h:l.length= 9):∃ a0 d_ e5 a3 a4 nh mc y8 BE,l= [a0,d_,e5,a3,a4,nh,mc,y8,BE]:=match l,h with | [a0,d_,e5,a3,a4,nh,mc,y8,BE],_=>⟨a0,d_,e5,a3,a4,nh,mc,y8,BE,rfl⟩
section
variable {H:Type} {enc:TypeId × Value->H} {N:Nat}
theorem XJ:aZ.hU Tryz.prog enc N 22 (aZ.aG (aZ.ak .i64)) (fun l=>l.length* 8 <=N/\ ∀ e1 ∈ l,aZ.jg e1):=by
 have h:=aZ.rp (enc:=enc) (N:=N) Tryz.underlying22 nn (by decide) (aZ.nQ Tryz.underlying3)
 rw [ahL] at h
 exact h
def ZG (N:Nat) (d:J.bw):Prop:=(d.Words.length* 8 <=N/\ ∀ e1 ∈ d.Words,aZ.jg e1)/\aZ.jg d.au/\aZ.jg d.aI/\aZ.jg d.aV/\aZ.jg d.aT/\(d.aE.length* 8 <=N/\ ∀ e1 ∈ d.aE,aZ.jg e1)/\aZ.jg d.Next
theorem aFR:aZ.hU Tryz.prog enc N 24 J.aGV (ZG N):=by
 intro W n cs x h b5 hw
 obtain ⟨kg,ax,I⟩:=aZ.om Tryz.underlying24 h b5 hw
 replace ax:=ax.trans ajE
 obtain ⟨a0,d_,e5,a3,a4,nh,mc,rfl⟩:=aEI ax
 obtain ⟨A2,bJ,h5,iI⟩:=aZ.gj I 0 rfl rfl rfl Qi (r:=[a0]) rfl
 obtain ⟨d0,kn,k3⟩:=(XJ) W _ _ _ bJ h5 iI
 obtain ⟨qk,y',iw⟩:=aZ.fT kn
 obtain rfl:a0=_:=(List.cons.inj iw).1
 obtain ⟨A3,aC,hd,a6⟩:=aZ.gj I 1 rfl rfl rfl nn (r:=[d_]) rfl
 obtain ⟨d1,jR,jo⟩:=(aZ.nQ Tryz.underlying3) W _ _ _ aC hd a6
 have bM:[d_]=_:=jR
 obtain rfl:d_=_:=(List.cons.inj bM).1
 obtain ⟨OX,aS,lY,qf⟩:=aZ.gj I 2 rfl rfl rfl nn (r:=[e5]) rfl
 obtain ⟨d2,nM,k4⟩:=(aZ.nQ Tryz.underlying3) W _ _ _ aS lY qf
 have b7:[e5]=_:=nM
 obtain rfl:e5=_:=(List.cons.inj b7).1
 obtain ⟨OY,bV,sB,o5⟩:=aZ.gj I 3 rfl rfl rfl nn (r:=[a3]) rfl
 obtain ⟨d3,m5,q6⟩:=(aZ.nQ Tryz.underlying3) W _ _ _ bV sB o5
 have ez:[a3]=_:=m5
 obtain rfl:a3=_:=(List.cons.inj ez).1
 obtain ⟨agQ,er,HS,Il⟩:=aZ.gj I 4 rfl rfl rfl nn (r:=[a4]) rfl
 obtain ⟨d4,C9,Hy⟩:=(aZ.nQ Tryz.underlying3) W _ _ _ er HS Il
 have hl:[a4]=_:=C9
 obtain rfl:a4=_:=(List.cons.inj hl).1
 obtain ⟨aHP,iP,WK,X2⟩:=aZ.gj I 5 rfl rfl rfl Qi (r:=[nh]) rfl
 obtain ⟨d5,MC,Wc⟩:=(XJ) W _ _ _ iP WK X2
 obtain ⟨vE,kU,j5⟩:=aZ.fT MC
 obtain rfl:nh=_:=(List.cons.inj j5).1
 obtain ⟨aHQ,tA,WL,X3⟩:=aZ.gj I 6 rfl rfl rfl nn (r:=[mc]) rfl
 obtain ⟨d6,Xw,Wd⟩:=(aZ.nQ Tryz.underlying3) W _ _ _ tA WL X3
 have zk:[mc]=_:=Xw
 obtain rfl:mc=_:=(List.cons.inj zk).1
 exact ⟨⟨d0,d1,d2,d3,d4,d5,d6⟩,⟨qk,y',vE,kU,rfl,kn,MC⟩,⟨k3,jo,k4,q6,Hy,Wc,Wd⟩⟩
def Ex (N:Nat) (d:J.Kind):Prop:=aZ.jg d.Kind/\d.aM.length<=N
theorem XI:aZ.hU Tryz.prog enc N 103 J.dt (Ex N):=by
 intro W n cs x h b5 hw
 obtain ⟨kg,ax,I⟩:=aZ.om Tryz.underlying103 h b5 hw
 replace ax:=ax.trans KE
 obtain ⟨a0,d_,rfl⟩:=aeJ ax
 obtain ⟨A2,bJ,h5,iI⟩:=aZ.gj I 0 rfl rfl rfl nn (r:=[a0]) rfl
 obtain ⟨d0,kn,k3⟩:=(aZ.nQ Tryz.underlying3) W _ _ _ bJ h5 iI
 have iw:[a0]=_:=kn
 obtain rfl:a0=_:=(List.cons.inj iw).1
 obtain ⟨A3,aC,hd,a6⟩:=aZ.gj I 1 rfl rfl rfl w_ (r:=[d_]) rfl
 obtain ⟨d1,jR,jo⟩:=(aZ.yk Tryz.underlying9) W _ _ _ aC hd a6
 have bM:[d_]=_:=jR
 obtain rfl:d_=_:=(List.cons.inj bM).1
 exact ⟨⟨d0,d1⟩,rfl,⟨k3,jo⟩⟩
def Ew (N:Nat) (d:J.Field):Prop:=d.Name.length<=N/\Ex N d.Kind
theorem aFP:aZ.hU Tryz.prog enc N 105 J.aW (Ew N):=by
 intro W n cs x h b5 hw
 obtain ⟨kg,ax,I⟩:=aZ.om Tryz.underlying105 h b5 hw
 replace ax:=ax.trans abC
 obtain ⟨a0,d_,e5,rfl⟩:=aEG ax
 obtain ⟨A2,bJ,h5,iI⟩:=aZ.gj I 0 rfl rfl rfl w_ (r:=[a0]) rfl
 obtain ⟨d0,kn,k3⟩:=(aZ.yk Tryz.underlying9) W _ _ _ bJ h5 iI
 have iw:[a0]=_:=kn
 obtain rfl:a0=_:=(List.cons.inj iw).1
 obtain ⟨A3,aC,hd,a6⟩:=aZ.gj I 1 rfl rfl rfl KE (r:=[d_,e5]) rfl
 obtain ⟨d1,jR,jo⟩:=XI W _ _ _ aC hd a6
 have bM:[d_,e5]=_:=jR
 simp only [List.cons.injEq,and_true] at bM
 obtain ⟨rfl,rfl⟩:=bM
 exact ⟨⟨d0,d1⟩,rfl,⟨k3,jo⟩⟩
theorem afu:aZ.hU Tryz.prog enc N 106 (aZ.aG J.aW) (fun l=>l.length* 40 <=N/\ ∀ e1 ∈ l,Ew N e1):=by
 have h:=aZ.rp (enc:=enc) (N:=N) Tryz.underlying106 abC (by decide) aFP
 rw [ahD] at h
 exact h
theorem aFY:aZ.hU Tryz.prog enc N 130 (aZ.aG J.dt) (fun l=>l.length* 24 <=N/\ ∀ e1 ∈ l,Ex N e1):=by
 have h:=aZ.rp (enc:=enc) (N:=N) Tryz.underlying130 KE (by decide) XI
 rw [ahC] at h
 exact h
def Pt (N:Nat) (d:J.Handler):Prop:=aZ.jg d.From/\aZ.jg d.To/\aZ.jg d.gT/\d.aM.length<=N
theorem aFQ:aZ.hU Tryz.prog enc N 150 J.eg (Pt N):=by
 intro W n cs x h b5 hw
 obtain ⟨kg,ax,I⟩:=aZ.om Tryz.underlying150 h b5 hw
 replace ax:=ax.trans abH
 obtain ⟨a0,d_,e5,a3,rfl⟩:=aeK ax
 obtain ⟨A2,bJ,h5,iI⟩:=aZ.gj I 0 rfl rfl rfl nn (r:=[a0]) rfl
 obtain ⟨d0,kn,k3⟩:=(aZ.nQ Tryz.underlying3) W _ _ _ bJ h5 iI
 have iw:[a0]=_:=kn
 obtain rfl:a0=_:=(List.cons.inj iw).1
 obtain ⟨A3,aC,hd,a6⟩:=aZ.gj I 1 rfl rfl rfl nn (r:=[d_]) rfl
 obtain ⟨d1,jR,jo⟩:=(aZ.nQ Tryz.underlying3) W _ _ _ aC hd a6
 have bM:[d_]=_:=jR
 obtain rfl:d_=_:=(List.cons.inj bM).1
 obtain ⟨OX,aS,lY,qf⟩:=aZ.gj I 2 rfl rfl rfl nn (r:=[e5]) rfl
 obtain ⟨d2,nM,k4⟩:=(aZ.nQ Tryz.underlying3) W _ _ _ aS lY qf
 have b7:[e5]=_:=nM
 obtain rfl:e5=_:=(List.cons.inj b7).1
 obtain ⟨OY,bV,sB,o5⟩:=aZ.gj I 3 rfl rfl rfl w_ (r:=[a3]) rfl
 obtain ⟨d3,m5,q6⟩:=(aZ.yk Tryz.underlying9) W _ _ _ bV sB o5
 have ez:[a3]=_:=m5
 obtain rfl:a3=_:=(List.cons.inj ez).1
 exact ⟨⟨d0,d1,d2,d3⟩,rfl,⟨k3,jo,k4,q6⟩⟩
theorem aFZ:aZ.hU Tryz.prog enc N 131 (aZ.aG J.eg) (fun l=>l.length* 40 <=N/\ ∀ e1 ∈ l,Pt N e1):=by
 have h:=aZ.rp (enc:=enc) (N:=N) Tryz.underlying131 abH (by decide) aFQ
 rw [ahJ] at h
 exact h
def JR (N:Nat) (d:J.Method):Prop:=d.Name.length<=N/\True/\(d.bI.length* 24 <=N/\ ∀ e1 ∈ d.bI,Ex N e1)/\Ex N d.Returns/\aZ.jg d.cR/\aZ.jg d.cQ/\d.Code.length<=N/\(d.bK.length* 40 <=N/\ ∀ e1 ∈ d.bK,Pt N e1)
theorem aFT:aZ.hU Tryz.prog enc N 133 J.b4 (JR N):=by
 intro W n cs x h b5 hw
 obtain ⟨kg,ax,I⟩:=aZ.om Tryz.underlying133 h b5 hw
 replace ax:=ax.trans abE
 obtain ⟨a0,d_,e5,a3,a4,nh,mc,y8,BE,rfl⟩:=aEJ ax
 obtain ⟨A2,bJ,h5,iI⟩:=aZ.gj I 0 rfl rfl rfl w_ (r:=[a0]) rfl
 obtain ⟨d0,kn,k3⟩:=(aZ.yk Tryz.underlying9) W _ _ _ bJ h5 iI
 have iw:[a0]=_:=kn
 obtain rfl:a0=_:=(List.cons.inj iw).1
 obtain ⟨A3,aC,hd,a6⟩:=aZ.gj I 1 rfl rfl rfl ajL (r:=[d_]) rfl
 obtain ⟨d1,jR,jo⟩:=(aZ.aFV Tryz.underlying4) W _ _ _ aC hd a6
 have bM:[d_]=_:=jR
 obtain rfl:d_=_:=(List.cons.inj bM).1
 obtain ⟨OX,aS,lY,qf⟩:=aZ.gj I 2 rfl rfl rfl ajA (r:=[e5]) rfl
 obtain ⟨d2,nM,k4⟩:=(aFY) W _ _ _ aS lY qf
 obtain ⟨gv,ej,b7⟩:=aZ.fT nM
 obtain rfl:e5=_:=(List.cons.inj b7).1
 obtain ⟨OY,bV,sB,o5⟩:=aZ.gj I 3 rfl rfl rfl KE (r:=[a3,a4]) rfl
 obtain ⟨d3,m5,q6⟩:=XI W _ _ _ bV sB o5
 have ez:[a3,a4]=_:=m5
 simp only [List.cons.injEq,and_true] at ez
 obtain ⟨rfl,rfl⟩:=ez
 obtain ⟨agQ,er,HS,Il⟩:=aZ.gj I 4 rfl rfl rfl nn (r:=[nh]) rfl
 obtain ⟨d4,C9,Hy⟩:=(aZ.nQ Tryz.underlying3) W _ _ _ er HS Il
 have hl:[nh]=_:=C9
 obtain rfl:nh=_:=(List.cons.inj hl).1
 obtain ⟨aHP,iP,WK,X2⟩:=aZ.gj I 5 rfl rfl rfl nn (r:=[mc]) rfl
 obtain ⟨d5,MC,Wc⟩:=(aZ.nQ Tryz.underlying3) W _ _ _ iP WK X2
 have j5:[mc]=_:=MC
 obtain rfl:mc=_:=(List.cons.inj j5).1
 obtain ⟨aHQ,tA,WL,X3⟩:=aZ.gj I 6 rfl rfl rfl w_ (r:=[y8]) rfl
 obtain ⟨d6,Xw,Wd⟩:=(aZ.yk Tryz.underlying9) W _ _ _ tA WL X3
 have zk:[y8]=_:=Xw
 obtain rfl:y8=_:=(List.cons.inj zk).1
 obtain ⟨aKz,zs,aFj,aG2⟩:=aZ.gj I 7 rfl rfl rfl ajB (r:=[BE]) rfl
 obtain ⟨d7,afi,aEx⟩:=(aFZ) W _ _ _ zs aFj aG2
 obtain ⟨ahg,aib,ajX⟩:=aZ.fT afi
 obtain rfl:BE=_:=(List.cons.inj ajX).1
 exact ⟨⟨d0,d1,d2,d3,d4,d5,d6,d7⟩,⟨gv,ej,ahg,aib,rfl,nM,afi⟩,⟨k3,jo,k4,q6,Hy,Wc,Wd,aEx⟩⟩
theorem aF0:aZ.hU Tryz.prog enc N 134 (aZ.aG J.b4) (fun l=>l.length* 128 <=N/\ ∀ e1 ∈ l,JR N e1):=by
 have h:=aZ.rp (enc:=enc) (N:=N) Tryz.underlying134 abE (by decide) aFT
 rw [ahH] at h
 exact h
def Ev (N:Nat) (d:J.aM):Prop:=d.Name.length<=N/\d.bZ.length<=N/\(d.Fields.length* 40 <=N/\ ∀ e1 ∈ d.Fields,Ew N e1)/\(d.aQ.length* 128 <=N/\ ∀ e1 ∈ d.aQ,JR N e1)
theorem aFO:aZ.hU Tryz.prog enc N 136 J.a' (Ev N):=by
 intro W n cs x h b5 hw
 obtain ⟨kg,ax,I⟩:=aZ.om Tryz.underlying136 h b5 hw
 replace ax:=ax.trans abF
 obtain ⟨a0,d_,e5,a3,rfl⟩:=aeK ax
 obtain ⟨A2,bJ,h5,iI⟩:=aZ.gj I 0 rfl rfl rfl w_ (r:=[a0]) rfl
 obtain ⟨d0,kn,k3⟩:=(aZ.yk Tryz.underlying9) W _ _ _ bJ h5 iI
 have iw:[a0]=_:=kn
 obtain rfl:a0=_:=(List.cons.inj iw).1
 obtain ⟨A3,aC,hd,a6⟩:=aZ.gj I 1 rfl rfl rfl w_ (r:=[d_]) rfl
 obtain ⟨d1,jR,jo⟩:=(aZ.yk Tryz.underlying9) W _ _ _ aC hd a6
 have bM:[d_]=_:=jR
 obtain rfl:d_=_:=(List.cons.inj bM).1
 obtain ⟨OX,aS,lY,qf⟩:=aZ.gj I 2 rfl rfl rfl abD (r:=[e5]) rfl
 obtain ⟨d2,nM,k4⟩:=(afu) W _ _ _ aS lY qf
 obtain ⟨gv,ej,b7⟩:=aZ.fT nM
 obtain rfl:e5=_:=(List.cons.inj b7).1
 obtain ⟨OY,bV,sB,o5⟩:=aZ.gj I 3 rfl rfl rfl ajC (r:=[a3]) rfl
 obtain ⟨d3,m5,q6⟩:=(aF0) W _ _ _ bV sB o5
 obtain ⟨rK,fN,ez⟩:=aZ.fT m5
 obtain rfl:a3=_:=(List.cons.inj ez).1
 exact ⟨⟨d0,d1,d2,d3⟩,⟨gv,ej,rK,fN,rfl,nM,m5⟩,⟨k3,jo,k4,q6⟩⟩
theorem aF1:aZ.hU Tryz.prog enc N 25 (aZ.aG J.a') (fun l=>l.length* 80 <=N/\ ∀ e1 ∈ l,Ev N e1):=by
 have h:=aZ.rp (enc:=enc) (N:=N) Tryz.underlying25 abF (by decide) aFO
 rw [ahI] at h
 exact h
theorem aF2:aZ.hU Tryz.prog enc N 26 (aZ.aG (aZ.aG J.aW)) (fun l=>l.length* 24 <=N/\ ∀ e1 ∈ l,(e1.length* 40 <=N/\ ∀ jt ∈ e1,Ew N jt)):=by
 have h:=aZ.rp (enc:=enc) (N:=N) Tryz.underlying26 abD (by decide) (afu)
 rw [ahE] at h
 exact h
theorem aFW:aZ.hU Tryz.prog enc N 125 (aZ.aG aZ.bE) (fun l=>l.length* 16 <=N/\ ∀ e1 ∈ l,e1.length<=N):=by
 have h:=aZ.rp (enc:=enc) (N:=N) Tryz.underlying125 w_ (by decide) (aZ.yk Tryz.underlying9)
 rw [ahM] at h
 exact h
theorem aF3:aZ.hU Tryz.prog enc N 27 (aZ.aG (aZ.aG aZ.bE)) (fun l=>l.length* 24 <=N/\ ∀ e1 ∈ l,(e1.length* 16 <=N/\ ∀ jt ∈ e1,jt.length<=N)):=by
 have h:=aZ.rp (enc:=enc) (N:=N) Tryz.underlying27 ajy (by decide) (aFW)
 rw [ahF] at h
 exact h
def JS (N:Nat) (d:J.Target):Prop:=aZ.jg d.aM/\aZ.jg d.Method
theorem aFU:aZ.hU Tryz.prog enc N 159 J.bS (JS N):=by
 intro W n cs x h b5 hw
 obtain ⟨kg,ax,I⟩:=aZ.om Tryz.underlying159 h b5 hw
 replace ax:=ax.trans abJ
 obtain ⟨a0,d_,rfl⟩:=aeJ ax
 obtain ⟨A2,bJ,h5,iI⟩:=aZ.gj I 0 rfl rfl rfl nn (r:=[a0]) rfl
 obtain ⟨d0,kn,k3⟩:=(aZ.nQ Tryz.underlying3) W _ _ _ bJ h5 iI
 have iw:[a0]=_:=kn
 obtain rfl:a0=_:=(List.cons.inj iw).1
 obtain ⟨A3,aC,hd,a6⟩:=aZ.gj I 1 rfl rfl rfl nn (r:=[d_]) rfl
 obtain ⟨d1,jR,jo⟩:=(aZ.nQ Tryz.underlying3) W _ _ _ aC hd a6
 have bM:[d_]=_:=jR
 obtain rfl:d_=_:=(List.cons.inj bM).1
 exact ⟨⟨d0,d1⟩,rfl,⟨k3,jo⟩⟩
theorem aFX:aZ.hU Tryz.prog enc N 126 (aZ.aG J.bS) (fun l=>l.length* 16 <=N/\ ∀ e1 ∈ l,JS N e1):=by
 have h:=aZ.rp (enc:=enc) (N:=N) Tryz.underlying126 abJ (by decide) aFU
 rw [ahK] at h
 exact h
theorem aF4:aZ.hU Tryz.prog enc N 28 (aZ.aG (aZ.aG J.bS)) (fun l=>l.length* 24 <=N/\ ∀ e1 ∈ l,(e1.length* 16 <=N/\ ∀ jt ∈ e1,JS N jt)):=by
 have h:=aZ.rp (enc:=enc) (N:=N) Tryz.underlying28 ajz (by decide) (aFX)
 rw [ahG] at h
 exact h
def JQ (N:Nat) (d:J.bs):Prop:=(d.aD.length* 80 <=N/\ ∀ e1 ∈ d.aD,Ev N e1)/\(d.aA.length* 8 <=N/\ ∀ e1 ∈ d.aA,aZ.jg e1)/\(d.Fields.length* 24 <=N/\ ∀ e1 ∈ d.Fields,(e1.length* 40 <=N/\ ∀ jt ∈ e1,Ew N jt))/\(d.Names.length* 24 <=N/\ ∀ e1 ∈ d.Names,(e1.length* 16 <=N/\ ∀ jt ∈ e1,jt.length<=N))/\(d.az.length* 24 <=N/\ ∀ e1 ∈ d.az,(e1.length* 16 <=N/\ ∀ jt ∈ e1,JS N jt))
theorem aFS:aZ.hU Tryz.prog enc N 30 J.aGW (JQ N):=by
 intro W n cs x h b5 hw
 obtain ⟨kg,ax,I⟩:=aZ.om Tryz.underlying30 h b5 hw
 replace ax:=ax.trans ajK
 obtain ⟨a0,d_,e5,a3,a4,rfl⟩:=aEH ax
 obtain ⟨A2,bJ,h5,iI⟩:=aZ.gj I 0 rfl rfl rfl ajG (r:=[a0]) rfl
 obtain ⟨d0,kn,k3⟩:=(aF1) W _ _ _ bJ h5 iI
 obtain ⟨qk,y',iw⟩:=aZ.fT kn
 obtain rfl:a0=_:=(List.cons.inj iw).1
 obtain ⟨A3,aC,hd,a6⟩:=aZ.gj I 1 rfl rfl rfl Qi (r:=[d_]) rfl
 obtain ⟨d1,jR,jo⟩:=(XJ) W _ _ _ aC hd a6
 obtain ⟨gu,dV,bM⟩:=aZ.fT jR
 obtain rfl:d_=_:=(List.cons.inj bM).1
 obtain ⟨OX,aS,lY,qf⟩:=aZ.gj I 2 rfl rfl rfl ajH (r:=[e5]) rfl
 obtain ⟨d2,nM,k4⟩:=(aF2) W _ _ _ aS lY qf
 obtain ⟨gv,ej,b7⟩:=aZ.fT nM
 obtain rfl:e5=_:=(List.cons.inj b7).1
 obtain ⟨OY,bV,sB,o5⟩:=aZ.gj I 3 rfl rfl rfl ajI (r:=[a3]) rfl
 obtain ⟨d3,m5,q6⟩:=(aF3) W _ _ _ bV sB o5
 obtain ⟨rK,fN,ez⟩:=aZ.fT m5
 obtain rfl:a3=_:=(List.cons.inj ez).1
 obtain ⟨agQ,er,HS,Il⟩:=aZ.gj I 4 rfl rfl rfl ajJ (r:=[a4]) rfl
 obtain ⟨d4,C9,Hy⟩:=(aF4) W _ _ _ er HS Il
 obtain ⟨vB,jA,hl⟩:=aZ.fT C9
 obtain rfl:a4=_:=(List.cons.inj hl).1
 exact ⟨⟨d0,d1,d2,d3,d4⟩,⟨qk,y',gu,dV,gv,ej,rK,fN,vB,jA,rfl,kn,jR,nM,m5,C9⟩,⟨k3,jo,k4,q6,Hy⟩⟩
end
end Go.Proofs.YtpkhpagplommoaaGreat
namespace J
def gU (bU:Int) (k8:Int) (k9:Int):Option (Bool):=
 some ((decide (k8<=bU)) && (decide (bU<=k9)))
def mO (bU:Int) (k8:Int) (k9:Int):Option (Bool):=
 some ((decide (k8<=bU)) && (decide (bU<=k9)))
def Lx (aa:Int):Option (Bool):=
 some ((decide (aa= 3)) || (decide (aa= 4)))
def Ab (oJ:List UInt8):Nat->Int->Option (Way (Bool) (Unit))
 | 0,_=>none
 | bu+ 1,p3=>
   cond (decide (p3 <(oJ.length:Int))) ((idx oJ p3).bind fun l4=>
   cond (((((decide ((l4.toNat:Int) < 97)) || (decide (122 <(l4.toNat:Int)))) && ((decide ((l4.toNat:Int) < 65)) || (decide (90 <(l4.toNat:Int))))) && ((decide ((l4.toNat:Int) < 48)) || (decide (57 <(l4.toNat:Int))))) && (!decide ((l4.toNat:Int)= 95))) (some (.out false)) (Ab oJ bu (ap (p3+ 1)))) (some (.go ()))
def nC (F:Nat) (s_:List UInt8):Option (Bool):=
 (bytesOf s_).bind fun oJ=>
 dr (α:=Unit) (Ab oJ F 0) fun (_:Unit)=>
 some ((!decide (s_= [])) && (decide ((s_.length:Int)<= 20)))
def ua (F:Nat) (aa:Kind):Option (Bool):=
 (Lx aa.Kind).bind fun Av=>
 cond (Av) ((nC F aa.aM).bind fun Ax=>
 some Ax) (some (((decide (aa.Kind= 1)) || (decide (aa.Kind= 2))) && (decide (aa.aM= []))))
def qw (s_:List UInt8):Nat->Int->Option (Way (Bool) (Unit))
 | 0,_=>none
 | bu+ 1,pX=>
   cond (decide (pX <(s_.length:Int))) ((idx s_ pX).bind fun lx=>
   cond (!(((((decide (97 <=(lx.toNat:Int))) && (decide ((lx.toNat:Int)<= 122))) || ((decide (65 <=(lx.toNat:Int))) && (decide ((lx.toNat:Int)<= 90)))) || ((decide (48 <=(lx.toNat:Int))) && (decide ((lx.toNat:Int)<= 57)))) || (decide ((lx.toNat:Int)= 95)))) (some (.out false)) (qw s_ bu (ap (pX+ 1)))) (some (.go ()))
def n8 (F:Nat) (s_:List UInt8):Option (Bool):=
 dr (α:=Unit) (qw s_ F 0) fun (_:Unit)=>
 some ((decide (1 <=(s_.length:Int))) && (decide ((s_.length:Int)<= 20)))
def s7 (F:Nat) (aa:Kind):Option (Bool):=
 cond ((decide (aa.Kind= 1)) || (decide (aa.Kind= 2))) (some (decide (aa.aM= []))) (cond ((decide (aa.Kind= 3)) || (decide (aa.Kind= 4))) ((n8 F aa.aM).bind fun h6=>
 some h6) (some false))
end J
namespace Go.Proofs.YtpkhpagplommoaaGreat
open Go Go.RowKit aZ
set_option maxHeartbeats 4000000
set_option maxRecDepth 20000
theorem oj {W:World} {X:List Nat} {bU:Int} {k8:Int} {k9:Int} {r:Bool} {M0:List Nat} (hm:ar W M0 X W [] []) (h:J.gU bU k8 k9=some r) :
 Calls Tryz.prog 41 [.i bU,.i k8,.i k9].toArray W (fun e aF=>e= .returned (.bool r)/\ar W M0 X aF [] []):=by
 refine enter Tryz.func41 rfl Tryz.ntmps41 rfl fun a I=>?_;rw [J.gU] at h;refine bb [] [] I fun a I=>bt [0,0,0,0] [(6,.bool ((decide (k8<=bU)) && (decide (bU<=k9))))] I fun a I=>wp_ret ?_;obtain rfl:=ay h;refine bq Tryz.results41 I rfl ?_;exact ⟨rfl,hm.aX [] []⟩
theorem w8 {W:World} {X:List Nat} {bU:Int} {k8:Int} {k9:Int} {r:Bool} {M0:List Nat} (hm:ar W M0 X W [] []) (h:J.mO bU k8 k9=some r) :
 Calls Tryz.prog 145 [.i bU,.i k8,.i k9].toArray W (fun e aF=>e= .returned (.bool r)/\ar W M0 X aF [] []):=by
 refine enter Tryz.func145 rfl Tryz.ntmps145 rfl fun a I=>?_;rw [J.mO] at h;refine bb [] [] I fun a I=>bt [0,0,0,0] [(6,.bool ((decide (k8<=bU)) && (decide (bU<=k9))))] I fun a I=>wp_ret ?_;obtain rfl:=ay h;refine bq Tryz.results145 I rfl ?_;exact ⟨rfl,hm.aX [] []⟩
theorem aiW {W:World} {X:List Nat} {aa:Int} {r:Bool} {M0:List Nat} (hm:ar W M0 X W [] []) (h:J.Lx aa=some r) :
 Calls Tryz.prog 144 [.i aa].toArray W (fun e aF=>e= .returned (.bool r)/\ar W M0 X aF [] []):=by
 refine enter Tryz.func144 rfl Tryz.ntmps144 rfl fun a I=>?_;rw [J.Lx] at h;refine bb [] [] I fun a I=>bt [0,0,0] [(2,.bool ((decide (aa= 3)) || (decide (aa= 4))))] I fun a I=>wp_ret ?_;obtain rfl:=ay h;refine bq Tryz.results144 I rfl ?_;exact ⟨rfl,hm.aX [] []⟩
theorem w7 {W:World} {X:List Nat} {F:Nat} {s_:List UInt8} {r:Bool} {M0:List Nat} (hm:ar W M0 X W [] []) (h:J.nC F s_=some r) :
 Calls Tryz.prog 130 [ao s_].toArray W (fun e aF=>e= .returned (.bool r)/\ar W M0 X aF [] []):=by
 refine enter Tryz.func130 rfl Tryz.ntmps130 rfl fun a I=>?_;rw [J.nC] at h;refine bb [] [] I fun a I=>wp_seq_k fun K bN=>wp_seq_k fun K cb=>aY <| aN 1 [] [(5,ao s_)] I fun a I=>?_;obtain ⟨oJ,ayD,h⟩:=J.aH h;refine aE5 ayD Tryz.underlying9 Tryz.underlying186 Tryz.underlying5 wn rfl (I.g rfl) I hm rfl rfl fun a aK aO w _ I hm=>aN 2 [] [(7,.i (oJ.length:Int)),(8,.i 0)] I fun a I=>wpList_nil (cb _ _ ?_);obtain ⟨Vm,h,SH⟩:=J.dZ h
 refine ca (fun a w=>Fr ⟨46,[]⟩ [(0,ao s_)] a/\ar W M0 X w [] [U M5 aK aO oJ]/\Vm=(.go ())) (fun K c3=>?_) ?_
 · refine cw (fun (bu:Nat) a w=>∃ (p3:Int),Fr ⟨46,[]⟩ [(0,ao s_),(6,.q aK aO oJ),(7,.i (oJ.length:Int)),(8,.i p3)] a/\ar W M0 X w [] [U M5 aK aO oJ]/\J.Ab oJ bu p3=some Vm) F ⟨0,I.cut,hm,h⟩ ?_ ?_
   · rintro a w ⟨p3,I,hm,h⟩;exact absurd h (by simp [J.Ab])
   rintro bu a w ⟨p3,I,hm,h⟩ K cp;rw [J.Ab] at h;refine bb [] [(9,.bool (decide (p3 <(oJ.length:Int))))] I fun a I=>wp_seq_k fun K dl=>bk (I.g rfl) h (fun aqg h=>?_) (fun aqg h=>?_)
   · refine wp_skip <| dl _ _ <| wp_seq_k fun K cN=>wp_block <| wp_seq_k fun K dq=>aY ?_;obtain ⟨l4,aDb,h⟩:=J.aH h;obtain ⟨ams,axk,_,rfl,as7⟩:=bX _ (hm.d 0 rfl) aDb;refine bQ wn (bF Tryz.underlying186 Tryz.sizeOf5 rfl (I.g rfl) (I.g rfl) ams axk) I rfl rfl fun a I=>bi 2 [0,0] [(4,.int .u8 (l4.toNat:Int))] [bG aK,bH aK+(p3).toNat* 1] (av as7 aw) I fun a I=>wpList_nil (dq _ _ ?_);refine wp_seq_k fun K dc=>?_
     refine cg [0,0,0,0,0,0,0,0,0,0,0,0,0,0,0,0,0,0,0,0,0,0] [(37,.bool (((((decide ((l4.toNat:Int) < 97)) || (decide (122 <(l4.toNat:Int)))) && ((decide ((l4.toNat:Int) < 65)) || (decide (90 <(l4.toNat:Int))))) && ((decide ((l4.toNat:Int) < 48)) || (decide (57 <(l4.toNat:Int))))) && (!decide ((l4.toNat:Int)= 95))))] I fun a I=>dc _ _ <| bk (I.g rfl) h (fun aqD h=>?_) (fun aqD h=>?_)
     · refine bt [] [(2,.bool false)] I fun a I=>wp_ret ?_;obtain rfl:=ay h;obtain rfl:=ay SH;refine a8 (aj (aj (a8 (aj (aj ?_)))));refine bq Tryz.results130 I rfl ?_;exact ⟨rfl,hm.aX [] []⟩
     refine wp_skip <| cN _ _ <| cg [] [(8,.i (J.ap (p3+ 1)))] I fun a I=>?_;exact cp _ _ ⟨J.ap (p3+ 1),I.cut,hm,h⟩
   refine wp_exit <| bz (bz (cr ?_));exact c3 _ _ ⟨I.cut,hm,(os h)⟩
 rintro a w ⟨I,hm,bc⟩;subst Vm;have h:=SH;clear SH;dsimp only [J.dW] at h;refine bN _ _ <| bt [0,0,0,0] [(2,.bool ((!decide (s_= [])) && (decide ((s_.length:Int)<= 20))))] I fun a I=>wp_ret ?_;obtain rfl:=ay h;refine bq Tryz.results130 I rfl ?_;exact ⟨rfl,hm.aX [] []⟩
theorem KB {W:World} {X:List Nat} {F:Nat} {aa:J.Kind} {r:Bool} {M0:List Nat} (hm:ar W M0 X W [] []) (h:J.ua F aa=some r) :
 Calls Tryz.prog 131 [.agg #[.i aa.Kind,ao aa.aM]].toArray W (fun e aF=>e= .returned (.bool r)/\ar W M0 X aF [] []):=by
 refine enter Tryz.func131 rfl Tryz.ntmps131 rfl fun a I=>?_;rw [J.ua] at h;refine wp_seq_k fun K c6=>aY <| cD (cs:=[.i aa.Kind,ao aa.aM]) wn (ei rfl rfl (I.g rfl)) I hm rfl rfl fun a a7 w _ I hm=>aN 1 [] [] I fun a I=>wpList_nil (c6 _ _ ?_);refine wp_seq_k fun K bN=>wp_seq_k fun K cb=>aY <| bi 2 [0,0] [(4,.i aa.Kind)] [a7,0] (av (a2 (hm.e 0 rfl)) aw) I fun a I=>?_;obtain ⟨Av,Ug,h⟩:=J.aH h;have hc:=hm;refine bP (vs:=[.i aa.Kind]) wn rfl Tryz.call144 ⟨(I.g rfl),trivial⟩ (aiW ((hc.into 0).pick trivial) Ug) I rfl rfl ?_;rintro _ w ⟨rfl,af⟩
 refine ⟨_,rfl,fun a I=>?_⟩;have hm:=hc.back 0 af;clear af hc;refine wpList_nil <| cb _ _ <| bk (I.g rfl) h (fun tL h=>?_) (fun tL h=>?_)
 · refine wp_seq_k fun K c3=>aY <| jT 2 [0,1] [(7,ao aa.aM)] [a7,1] (av (a2 (hm.e 0 rfl)) aw) I fun a I=>?_;obtain ⟨Ax,Uk,h⟩:=J.aH h;have hc:=hm;refine bP (vs:=[ao aa.aM]) wn rfl Tryz.call130 ⟨(I.g rfl),trivial⟩ (w7 ((hc.into 0).pick trivial) Uk) I rfl rfl ?_;rintro _ w ⟨rfl,af⟩;refine ⟨_,rfl,fun a I=>?_⟩;have hm:=hc.back 0 af;clear af hc;refine eu 1 [] [(2,.bool Ax)] I fun a I=>wpList_nil (c3 _ _ ?_);refine wp_ret ?_;obtain rfl:=ay h;refine aj <| bq Tryz.results131 I rfl ?_;exact ⟨rfl,hm.aX [] []⟩
 refine wp_skip <| bN _ _ <| wp_seq_k fun K cp=>rg [0,0,0,0,0,0,0,0,0,0,0,1,0,0] [(2,.bool (((decide (aa.Kind= 1)) || (decide (aa.Kind= 2))) && (decide (aa.aM= []))))] [a7,1,a7,0,a7,0] (av (a2 (hm.e 0 rfl)) aw) I fun a I=>cp _ _ <| wp_ret ?_;obtain rfl:=ay h;refine bq Tryz.results131 I rfl ?_;exact ⟨rfl,hm.aX [] []⟩
theorem zj {W:World} {X:List Nat} {F:Nat} {s_:List UInt8} {r:Bool} {M0:List Nat} (hm:ar W M0 X W [] []) (h:J.n8 F s_=some r) :
 Calls Tryz.prog 146 [ao s_].toArray W (fun e aF=>e= .returned (.bool r)/\ar W M0 X aF [] []):=by
 refine enter Tryz.func146 rfl Tryz.ntmps146 rfl fun a I=>?_;rw [J.n8] at h;refine bb [] [] I fun a I=>wp_seq_k fun K bN=>bb [] [(3,.i 0)] I fun a I=>?_;obtain ⟨UW,h,Sk⟩:=J.dZ h;refine ca (fun a w=>Fr ⟨49,[]⟩ [(0,ao s_)] a/\ar W M0 X w [] []/\UW=(.go ())) (fun K c3=>?_) ?_
 · refine cw (fun (bu:Nat) a w=>∃ (pX:Int),Fr ⟨49,[]⟩ [(0,ao s_),(3,.i pX)] a/\ar W M0 X w [] []/\J.qw s_ bu pX=some UW) F ⟨0,I.cut,hm,h⟩ ?_ ?_
   · rintro a w ⟨pX,I,hm,h⟩;exact absurd h (by simp [J.qw])
   rintro bu a w ⟨pX,I,hm,h⟩ K cp;rw [J.qw] at h;refine wp_seq_k fun K dE=>bb [] [(8,.bool (decide (pX <(s_.length:Int))))] I fun a I=>bk (I.g rfl) h (fun tK h=>?_) (fun tK h=>?_)
   · refine wp_skip <| dE _ _ <| wp_seq_k fun K cN=>wp_block <| wp_seq_k fun K dq=>aY <| aN 2 [] [(11,ao s_),(12,.i pX)] I fun a I=>?_;obtain ⟨lx,Lu,h⟩:=J.aH h;refine bQ wn (aH_ Tryz.underlying9 rfl (I.g rfl) (I.g rfl) Lu) I rfl rfl fun a I=>aN 1 [] [(4,.int .u8 (lx.toNat:Int))] I fun a I=>wpList_nil (dq _ _ ?_);refine wp_seq_k fun K dc=>?_
     refine cg [0,0,0,0,0,0,0,0,0,0,0,0,0,0,0,0,0,0,0,0,0,0] [(40,.bool (!(((((decide (97 <=(lx.toNat:Int))) && (decide ((lx.toNat:Int)<= 122))) || ((decide (65 <=(lx.toNat:Int))) && (decide ((lx.toNat:Int)<= 90)))) || ((decide (48 <=(lx.toNat:Int))) && (decide ((lx.toNat:Int)<= 57)))) || (decide ((lx.toNat:Int)= 95)))))] I fun a I=>dc _ _ <| bk (I.g rfl) h (fun qR h=>?_) (fun qR h=>?_)
     · refine bt [] [(2,.bool false)] I fun a I=>wp_ret ?_;obtain rfl:=ay h;obtain rfl:=ay Sk;refine a8 (aj (aj (a8 (aj (aj ?_)))));refine bq Tryz.results146 I rfl ?_;exact ⟨rfl,hm.aX [] []⟩
     refine wp_skip <| cN _ _ <| cg [] [(3,.i (J.ap (pX+ 1)))] I fun a I=>?_;exact cp _ _ ⟨J.ap (pX+ 1),I.cut,hm,h⟩
   refine wp_exit <| bz (bz (cr ?_));exact c3 _ _ ⟨I.cut,hm,(os h)⟩
 rintro a w ⟨I,hm,bc⟩;subst UW;have h:=Sk;clear Sk;dsimp only [J.dW] at h;refine bN _ _ <| bt [0,0,0,0] [(2,.bool ((decide (1 <=(s_.length:Int))) && (decide ((s_.length:Int)<= 20))))] I fun a I=>wp_ret ?_;obtain rfl:=ay h;refine bq Tryz.results146 I rfl ?_;exact ⟨rfl,hm.aX [] []⟩
theorem Kx {W:World} {X:List Nat} {F:Nat} {aa:J.Kind} {r:Bool} {M0:List Nat} (hm:ar W M0 X W [] []) (h:J.s7 F aa=some r) :
 Calls Tryz.prog 147 [.agg #[.i aa.Kind,ao aa.aM]].toArray W (fun e aF=>e= .returned (.bool r)/\ar W M0 X aF [] []):=by
 refine enter Tryz.func147 rfl Tryz.ntmps147 rfl fun a I=>?_;rw [J.s7] at h;refine wp_seq_k fun K c6=>aY <| cD (cs:=[.i aa.Kind,ao aa.aM]) wn (ei rfl rfl (I.g rfl)) I hm rfl rfl fun a a7 w _ I hm=>aN 1 [] [] I fun a I=>wpList_nil (c6 _ _ ?_);refine wp_seq_k fun K bN=>wp_seq_k fun K cb=>eE [0,0,0,0,0,0,0,0] [(10,.bool ((decide (aa.Kind= 1)) || (decide (aa.Kind= 2))))] [a7,0,a7,0] (av (a2 (hm.e 0 rfl)) aw) I fun a I=>cb _ _ <| bk (I.g rfl) h (fun apu h=>?_) (fun apu h=>?_)
 · refine wp_seq_k fun K c3=>rg [0,1] [(2,.bool (decide (aa.aM= [])))] [a7,1] (av (a2 (hm.e 0 rfl)) aw) I fun a I=>c3 _ _ <| wp_ret ?_;obtain rfl:=ay h;refine aj <| bq Tryz.results147 I rfl ?_;exact ⟨rfl,hm.aX [] []⟩
 refine wp_skip <| bN _ _ <| wp_seq_k fun K cp=>aY <| bi 9 [0,0,0,0,0,0,0,0] [(22,.bool ((decide (aa.Kind= 3)) || (decide (aa.Kind= 4))))] [a7,0,a7,0] (av (a2 (hm.e 0 rfl)) aw) I fun a I=>?_;rcases Bool.eq_false_or_eq_true ((decide (aa.Kind= 3)) || (decide (aa.Kind= 4))) with kY | kY
 · have h:=J.dj kY h;have I:=I.b6 22 rfl kY;refine bi 2 [1,1,0,1] [(24,ao aa.aM)] [a7,1] (av (a2 (hm.e 0 rfl)) aw) I fun a I=>?_;obtain ⟨h6,z5,h⟩:=J.aH h;have hc:=hm;refine bP (vs:=[ao aa.aM]) (cV I rfl rfl rfl rfl) rfl Tryz.call146 ⟨(I.g rfl),trivial⟩ (zj ((hc.into 0).pick trivial) z5) I rfl rfl ?_;rintro _ w ⟨rfl,af⟩;refine ⟨_,rfl,fun a I=>?_⟩;have hm:=hc.back 0 af;clear af hc;refine eu 2 [1] [(2,.bool h6)] I fun a I=>wpList_nil (cp _ _ ?_);refine wp_ret ?_;obtain rfl:=ay h;refine bq Tryz.results147 I rfl ?_;exact ⟨rfl,hm.aX [] []⟩
 have h:=J.di kY h;have I:=I.b6 22 rfl kY;refine eu 5 [1,1,1,1] [(2,.bool false)] I fun a I=>wpList_nil (cp _ _ ?_);refine wp_ret ?_;obtain rfl:=ay h;refine bq Tryz.results147 I rfl ?_;exact ⟨rfl,hm.aX [] []⟩
end Go.Proofs.YtpkhpagplommoaaGreat
namespace J
def xO (F:Nat) (m_:Method):Nat->Int->Option (Way (Int) (Unit))
 | 0,_=>none
 | bu+ 1,p7=>
   cond (decide (p7 <(m_.bI.length:Int))) ((idx m_.bI p7).bind fun rE=>
   (ua F (⟨rE.Kind,rE.aM⟩:Kind)).bind fun XB=>
   cond (!XB) (some (.out 7)) (xO F m_ bu (ap (p7+ 1)))) (some (.go ()))
def xP (F:Nat) (m_:Method):Nat->Int->Option (Way (Int) (Unit))
 | 0,_=>none
 | c7+ 1,h1=>
   cond (decide (h1 <(m_.bK.length:Int))) ((idx m_.bK h1).bind fun jv=>
   (nC F jv.aM).bind fun HZ=>
   cond (!HZ) (some (.out 1)) ((mO jv.From 0 200).bind fun kp=>
   cond (!kp) (some (.out 3)) ((mO jv.To 0 200).bind fun C8=>
   cond (!C8) (some (.out 3)) ((mO jv.gT 0 200).bind fun H0=>
   cond (!H0) (some (.out 3)) (xP F m_ c7 (ap (h1+ 1))))))) (some (.go ()))
def xQ (F:Nat) (m_:Method):Nat->Int->Option (Way (Int) (Unit))
 | 0,_=>none
 | et+ 1,p0=>
   cond (decide (p0 <(m_.bK.length:Int))) ((idx m_.bK p0).bind fun jw=>
   (nC F jw.aM).bind fun Xb=>
   cond (!Xb) (some (.out 1)) ((mO jw.From 0 200).bind fun Mx=>
   cond (!Mx) (some (.out 3)) ((mO jw.To 0 200).bind fun My=>
   cond (!My) (some (.out 3)) ((mO jw.gT 0 200).bind fun Xc=>
   cond (!Xc) (some (.out 3)) (xQ F m_ et (ap (p0+ 1))))))) (some (.go ()))
def Ac (F:Nat) (m_:Method):Option (Int):=
 (nC F m_.Name).bind fun dv=>
 cond (!dv) (some 1) (cond (((decide (4 <(m_.bI.length:Int))) || (decide (200 <(m_.Code.length:Int)))) || (decide (4 <(m_.bK.length:Int)))) (some 2) ((mO m_.cR 0 10).bind fun hf=>
 cond (!hf) (some 3) ((mO m_.cQ 0 10).bind fun l0=>
 cond (!l0) (some 3) (dr (α:=Unit) (xO F m_ F 0) fun (_:Unit)=>
 cond (!decide ((⟨m_.Returns.Kind,m_.Returns.aM⟩:Kind)=(⟨0,[]⟩:Kind))) ((ua F (⟨m_.Returns.Kind,m_.Returns.aM⟩:Kind)).bind fun XC=>
 cond (!XC) (some 7) (dr (α:=Unit) (xP F m_ F 0) fun (_:Unit)=>
 some 0)) (dr (α:=Unit) (xQ F m_ F 0) fun (_:Unit)=>
 some 0)))))
def xK (F:Nat) (c_:aM):Nat->Int->Option (Way (Int) (Unit))
 | 0,_=>none
 | bu+ 1,eO=>
   cond (decide (eO <(c_.Fields.length:Int))) ((idx c_.Fields eO).bind fun il=>
   (nC F il.Name).bind fun Az=>
   cond (!Az) (some (.out 1)) ((ua F (⟨il.Kind.Kind,il.Kind.aM⟩:Kind)).bind fun ko=>
   cond (!ko) (some (.out 7)) (xK F c_ bu (ap (eO+ 1))))) (some (.go ()))
def xL (F:Nat) (c_:aM):Nat->Int->Option (Way (Int) (Unit))
 | 0,_=>none
 | c7+ 1,h1=>
   cond (decide (h1 <(c_.aQ.length:Int))) ((idx c_.aQ h1).bind fun e2=>
   (Ac F (⟨e2.Name,e2.Static,e2.bI,(⟨e2.Returns.Kind,e2.Returns.aM⟩:Kind),e2.cR,e2.cQ,e2.Code,e2.bK⟩:Method)).bind fun kp=>
   cond (!decide (kp= 0)) (some (.out kp)) (xL F c_ c7 (ap (h1+ 1)))) (some (.go ()))
def xM (F:Nat) (c_:aM):Nat->Int->Option (Way (Int) (Unit))
 | 0,_=>none
 | et+ 1,pZ=>
   cond (decide (pZ <(c_.Fields.length:Int))) ((idx c_.Fields pZ).bind fun l3=>
   (nC F l3.Name).bind fun W7=>
   cond (!W7) (some (.out 1)) ((ua F (⟨l3.Kind.Kind,l3.Kind.aM⟩:Kind)).bind fun W8=>
   cond (!W8) (some (.out 7)) (xM F c_ et (ap (pZ+ 1))))) (some (.go ()))
def xN (F:Nat) (c_:aM):Nat->Int->Option (Way (Int) (Unit))
 | 0,_=>none
 | fy+ 1,p1=>
   cond (decide (p1 <(c_.aQ.length:Int))) ((idx c_.aQ p1).bind fun e3=>
   (Ac F (⟨e3.Name,e3.Static,e3.bI,(⟨e3.Returns.Kind,e3.Returns.aM⟩:Kind),e3.cR,e3.cQ,e3.Code,e3.bK⟩:Method)).bind fun C_=>
   cond (!decide (C_= 0)) (some (.out C_)) (xN F c_ fy (ap (p1+ 1)))) (some (.go ()))
def Hu (F:Nat) (c_:aM):Option (Int):=
 (nC F c_.Name).bind fun dv=>
 cond (!dv) (some 1) (cond (!decide (c_.bZ= [])) ((nC F c_.bZ).bind fun hf=>
 cond (!hf) (some 1) (cond ((decide (6 <(c_.Fields.length:Int))) || (decide (8 <(c_.aQ.length:Int)))) (some 2) (dr (α:=Unit) (xK F c_ F 0) fun (_:Unit)=>
 dr (α:=Unit) (xL F c_ F 0) fun (_:Unit)=>
 some 0))) (cond ((decide (6 <(c_.Fields.length:Int))) || (decide (8 <(c_.aQ.length:Int)))) (some 2) (dr (α:=Unit) (xM F c_ F 0) fun (_:Unit)=>
 dr (α:=Unit) (xN F c_ F 0) fun (_:Unit)=>
 some 0)))
def xJ (F:Nat) (aJ:List aM):Nat->Int->Option (Way (Int) (Unit))
 | 0,_=>none
 | bu+ 1,p8=>
   cond (decide (p8 <(aJ.length:Int))) ((idx aJ p8).bind fun iK=>
   (Hu F (⟨iK.Name,iK.bZ,iK.Fields,iK.aQ⟩:aM)).bind fun C6=>
   cond (!decide (C6= 0)) (some (.out C6)) (xJ F aJ bu (ap (p8+ 1)))) (some (.go ()))
def Ht (F:Nat) (aJ:List aM):Option (Int):=
 cond (decide (10 <(aJ.length:Int))) (some 2) (dr (α:=Unit) (xJ F aJ F 0) fun (_:Unit)=>
 some 0)
def wk (F:Nat) (m_:Method):Nat->Int->Option (Way (Int) (Unit))
 | 0,_=>none
 | bu+ 1,oY=>
   cond (decide (oY <(m_.bI.length:Int))) ((idx m_.bI oY).bind fun DB=>
   (s7 F DB).bind fun XA=>
   cond (!XA) (some (.out 7)) (wk F m_ bu (ap (oY+ 1)))) (some (.go ()))
def wl (F:Nat) (m_:Method):Nat->Int->Option (Way (Int) (Unit))
 | 0,_=>none
 | c7+ 1,oQ=>
   cond (decide (oQ <(m_.bK.length:Int))) ((idx m_.bK oQ).bind fun ju=>
   (n8 F ju.aM).bind fun W2=>
   cond (!W2) (some (.out 1)) ((gU ju.From 0 200).bind fun Mu=>
   cond (!Mu) (some (.out 3)) ((gU ju.To 0 200).bind fun Mv=>
   cond (!Mv) (some (.out 3)) ((gU ju.gT 0 200).bind fun W3=>
   cond (!W3) (some (.out 3)) (wl F m_ c7 (ap (oQ+ 1))))))) (some (.go ()))
def y2 (F:Nat) (m_:Method):Option (Int):=
 (n8 F m_.Name).bind fun dv=>
 cond (!dv) (some 1) (cond (((decide (4 <(m_.bI.length:Int))) || (decide (200 <(m_.Code.length:Int)))) || (decide (4 <(m_.bK.length:Int)))) (some 2) ((gU m_.cR 0 10).bind fun hf=>
 cond (!hf) (some 3) ((gU m_.cQ 0 10).bind fun l0=>
 cond (!l0) (some 3) (dr (α:=Unit) (wk F m_ F 0) fun (_:Unit)=>
 (s7 F (⟨m_.Returns.Kind,m_.Returns.aM⟩:Kind)).bind fun m7=>
 cond ((!m7) && ((!decide (m_.Returns.Kind= 0)) || (!decide (m_.Returns.aM= [])))) (some 7) (dr (α:=Unit) (wl F m_ F 0) fun (_:Unit)=>
 some 0)))))
def vQ (F:Nat) (cv:aM):Nat->Int->Option (Way (Int) (Unit))
 | 0,_=>none
 | c7+ 1,lU=>
   cond (decide (lU <(cv.Fields.length:Int))) ((idx cv.Fields lU).bind fun NM=>
   (n8 F NM.Name).bind fun Xp=>
   cond (!Xp) (some (.out 1)) ((idx cv.Fields lU).bind fun AU=>
   (s7 F (⟨AU.Kind.Kind,AU.Kind.aM⟩:Kind)).bind fun Xq=>
   cond (!Xq) (some (.out 7)) (vQ F cv c7 (ap (lU+ 1))))) (some (.go ()))
def vR (F:Nat) (cv:aM):Nat->Int->Option (Way (Int) (Unit))
 | 0,_=>none
 | et+ 1,oV=>
   cond (decide (oV <(cv.aQ.length:Int))) ((idx cv.aQ oV).bind fun jb=>
   (y2 F jb).bind fun Da=>
   cond (!decide (Da= 0)) (some (.out Da)) (vR F cv et (ap (oV+ 1)))) (some (.go ()))
def vS (F:Nat) (cv:aM):Nat->Int->Option (Way (Int) (Unit))
 | 0,_=>none
 | fy+ 1,lV=>
   cond (decide (lV <(cv.Fields.length:Int))) ((idx cv.Fields lV).bind fun NN=>
   (n8 F NN.Name).bind fun Xs=>
   cond (!Xs) (some (.out 1)) ((idx cv.Fields lV).bind fun AV=>
   (s7 F (⟨AV.Kind.Kind,AV.Kind.aM⟩:Kind)).bind fun Xt=>
   cond (!Xt) (some (.out 7)) (vS F cv fy (ap (lV+ 1))))) (some (.go ()))
def vT (F:Nat) (cv:aM):Nat->Int->Option (Way (Int) (Unit))
 | 0,_=>none
 | hZ+ 1,oW=>
   cond (decide (oW <(cv.aQ.length:Int))) ((idx cv.aQ oW).bind fun jc=>
   (y2 F jc).bind fun Db=>
   cond (!decide (Db= 0)) (some (.out Db)) (vT F cv hZ (ap (oW+ 1)))) (some (.go ()))
def vP (F:Nat) (aJ:List aM):Nat->Int->Option (Way (Int) (Unit))
 | 0,_=>none
 | bu+ 1,iX=>
   cond (decide (iX <(aJ.length:Int))) (dY (α:=Unit) ((idx aJ iX).bind fun cv=>
   (n8 F cv.Name).bind fun MD=>
   cond (!MD) (some (.out 1)) (cond (!decide (cv.bZ= [])) ((n8 F cv.bZ).bind fun Xn=>
   cond (!Xn) (some (.out 1)) (cond ((decide (6 <(cv.Fields.length:Int))) || (decide (8 <(cv.aQ.length:Int)))) (some (.out 2)) (dY (α:=Unit) (vQ F cv F 0) fun (_:Unit)=>
   dY (α:=Unit) (vR F cv F 0) fun (_:Unit)=>
   some (.go ())))) (cond ((decide (6 <(cv.Fields.length:Int))) || (decide (8 <(cv.aQ.length:Int)))) (some (.out 2)) (dY (α:=Unit) (vS F cv F 0) fun (_:Unit)=>
   dY (α:=Unit) (vT F cv F 0) fun (_:Unit)=>
   some (.go ()))))) fun (_:Unit)=>
   vP F aJ bu (ap (iX+ 1))) (some (.go ()))
def Ey (F:Nat) (aJ:List aM):Option (Int):=
 cond (decide (10 <(aJ.length:Int))) (some 2) (dr (α:=Unit) (vP F aJ F 0) fun (_:Unit)=>
 some 0)
end J
namespace Go.Proofs.YtpkhpagplommoaaGreat
open Go Go.RowKit aZ
set_option maxHeartbeats 4000000
set_option maxRecDepth 20000
theorem abo {W:World} {X:List Nat} {F:Nat} {m_:J.Method} {r:Int} {ag:aP} {ah:Nat} {aK:aP} {aO:Nat} {M0:List Nat} (hm:ar W M0 X W [] [U J.dt ag ah m_.bI,U J.eg aK aO m_.bK]) (h:J.Ac F m_=some r) :
 Calls Tryz.prog 132 [.agg #[ao m_.Name,.bool m_.Static,.q ag ah m_.bI,.i m_.Returns.Kind,ao m_.Returns.aM,.i m_.cR,.i m_.cQ,ao m_.Code,.q aK aO m_.bK]].toArray W (fun e aF=>e= .returned (.i r)/\ar W M0 X aF [] []):=by
 refine enter Tryz.func132 rfl Tryz.ntmps132 rfl fun a I=>?_;rw [J.Ac] at h;refine wp_seq_k fun K c6=>aY <| cD (cs:=[ao m_.Name,.bool m_.Static,.q ag ah m_.bI,.i m_.Returns.Kind,ao m_.Returns.aM,.i m_.cR,.i m_.cQ,ao m_.Code,.q aK aO m_.bK]) wn (ei rfl rfl (I.g rfl)) I hm rfl rfl fun a cY w _ I hm=>aN 1 [] [] I fun a I=>wpList_nil (c6 _ _ ?_);refine wp_seq_k fun K bN=>wp_block <| wp_seq_k fun K cb=>aY <| bi 2 [0,0] [(9,ao m_.Name)] [cY,0] (av (a2 (hm.e 0 rfl)) aw) I fun a I=>?_;obtain ⟨dv,tZ,h⟩:=J.aH h;have hc:=hm
 refine bP (vs:=[ao m_.Name]) wn rfl Tryz.call130 ⟨(I.g rfl),trivial⟩ (w7 ((hc.into 0).pick trivial) tZ) I rfl rfl ?_;rintro _ w ⟨rfl,af⟩;refine ⟨_,rfl,fun a I=>?_⟩;have hm:=hc.back 0 af;clear af hc;refine aN 2 [] [(7,.bool (!dv))] I fun a I=>wpList_nil (cb _ _ ?_);refine bk (I.g rfl) h (fun kZ h=>?_) (fun kZ h=>?_)
 · refine bt [] [(2,.i 1)] I fun a I=>wp_ret ?_;obtain rfl:=ay h;refine a8 (aj ?_);refine bq Tryz.results132 I rfl ?_;exact ⟨rfl,hm.aX [] []⟩
 refine wp_seq_k fun K cp=>eE [0,2,0,0,0,7,0,0,0,0,0,0,8,0,0,0] [(12,.bool (((decide (4 <(m_.bI.length:Int))) || (decide (200 <(m_.Code.length:Int)))) || (decide (4 <(m_.bK.length:Int)))))] [cY,8,cY,7,cY,2] (av (a2 (hm.e 0 rfl)) aw) I fun a I=>cp _ _ <| bk (I.g rfl) h (fun qT h=>?_) (fun qT h=>?_)
 · refine bt [] [(2,.i 2)] I fun a I=>wp_ret ?_;obtain rfl:=ay h;refine a8 (aj ?_);refine bq Tryz.results132 I rfl ?_;exact ⟨rfl,hm.aX [] []⟩
 refine wp_seq_k fun K dl=>aY <| bi 2 [0,5] [(31,.i m_.cR)] [cY,5] (av (a2 (hm.e 0 rfl)) aw) I fun a I=>?_;obtain ⟨hf,zZ,h⟩:=J.aH h;have hc:=hm;refine bP (vs:=[.i m_.cR,.i 0,.i 10]) wn rfl Tryz.call145 ⟨(I.g rfl),(cW _ _),(cW _ _),trivial⟩ (w8 ((hc.into 0).pick trivial) zZ) I rfl rfl ?_;rintro _ w ⟨rfl,af⟩;refine ⟨_,rfl,fun a I=>?_⟩;have hm:=hc.back 0 af;clear af hc;refine aN 2 [] [(34,.bool (!hf))] I fun a I=>?_;rcases Bool.eq_false_or_eq_true (!hf) with gy | gy
 · have h:=J.dj gy h;have I:=I.b6 34 rfl gy;refine aN 6 [1,1,1,1,1] [(29,.bool true)] I fun a I=>wpList_nil (dl _ _ ?_);refine eG (I.g rfl) rfl <| bt [] [(2,.i 3)] I fun a I=>wp_ret ?_;obtain rfl:=ay h;refine a8 (aj ?_);refine bq Tryz.results132 I rfl ?_;exact ⟨rfl,hm.aX [] []⟩
 have h:=J.di gy h;have I:=I.b6 34 rfl gy;refine bi 2 [1,1,0,6] [(36,.i m_.cQ)] [cY,6] (av (a2 (hm.e 0 rfl)) aw) I fun a I=>?_;obtain ⟨l0,z1,h⟩:=J.aH h;have hc:=hm;refine bP (vs:=[.i m_.cQ,.i 0,.i 10]) (cV I rfl rfl rfl rfl) rfl Tryz.call145 ⟨(I.g rfl),(cW _ _),(cW _ _),trivial⟩ (w8 ((hc.into 0).pick trivial) z1) I rfl rfl ?_;rintro _ w ⟨rfl,af⟩;refine ⟨_,rfl,fun a I=>?_⟩;have hm:=hc.back 0 af;clear af hc;refine aN 3 [1,1] [(29,.bool (!l0))] I fun a I=>wpList_nil (dl _ _ ?_);refine bk (I.g rfl) h (fun jn h=>?_) (fun jn h=>?_)
 · refine bt [] [(2,.i 3)] I fun a I=>wp_ret ?_;obtain rfl:=ay h;refine a8 (aj ?_);refine bq Tryz.results132 I rfl ?_;exact ⟨rfl,hm.aX [] []⟩
 refine wp_skip <| bN _ _ <| wp_seq_k fun K dc=>wp_seq_k fun K dC=>eE [0,2] [(41,.q ag ah m_.bI),(42,.i (m_.bI.length:Int)),(43,.i 0)] [cY,2] (av (a2 (hm.e 0 rfl)) aw) I fun a I=>dC _ _ ?_;obtain ⟨VJ,h,S9⟩:=J.dZ h;refine ca (fun a w=>Fr ⟨91,[]⟩ [(1,.aL cY)] a/\ar W M0 X w [aq.br cY 133 [ao m_.Name,.bool m_.Static,.q ag ah m_.bI,.i m_.Returns.Kind,ao m_.Returns.aM,.i m_.cR,.i m_.cQ,ao m_.Code,.q aK aO m_.bK]] [U J.dt ag ah m_.bI,U J.eg aK aO m_.bK]/\VJ=(.go ())) (fun K dS=>?_) ?_
 · refine cw (fun (bu:Nat) a w=>∃ (p7:Int),Fr ⟨91,[]⟩ [(1,.aL cY),(41,.q ag ah m_.bI),(42,.i (m_.bI.length:Int)),(43,.i p7)] a/\ar W M0 X w [aq.br cY 133 [ao m_.Name,.bool m_.Static,.q ag ah m_.bI,.i m_.Returns.Kind,ao m_.Returns.aM,.i m_.cR,.i m_.cQ,ao m_.Code,.q aK aO m_.bK]] [U J.dt ag ah m_.bI,U J.eg aK aO m_.bK]/\J.xO F m_ bu p7=some VJ) F ⟨0,I.cut,hm,h⟩ ?_ ?_
   · rintro a w ⟨p7,I,hm,h⟩;exact absurd h (by simp [J.xO])
   rintro bu a w ⟨p7,I,hm,h⟩ K dL;rw [J.xO] at h;refine bb [] [(44,.bool (decide (p7 <(m_.bI.length:Int))))] I fun a I=>wp_seq_k fun K eX=>bk (I.g rfl) h (fun aq3 h=>?_) (fun aq3 h=>?_)
   · refine wp_skip <| eX _ _ <| wp_seq_k fun K gx=>wp_block <| wp_seq_k fun K g9=>aY ?_;obtain ⟨rE,aDH,h⟩:=J.aH h;obtain ⟨amZ,axR,_,rfl,atC⟩:=bX _ (hm.d 0 rfl) aDH;refine bQ wn (bF Tryz.underlying130 Tryz.sizeOf103 rfl (I.g rfl) (I.g rfl) amZ axR) I rfl rfl fun a I=>bi 1 [0,0] [(46,.agg #[.i rE.Kind,ao rE.aM])] [bG ag,bH ag+(p7).toNat* 2] (av atC aw) I fun a I=>cD (cs:=[.i 0,ao []]) wn (eQ Tryz.zeroValue103 rfl rfl) I hm rfl rfl fun a akD w _ I hm=>cX (vs:=[.i rE.Kind,ao rE.aM]) 0 hm rfl wn rfl Tryz.sizeOf103 rfl rfl rfl rfl (I.g rfl) (I.g rfl) rfl fun w hm=>?_
     refine wpList_nil <| g9 _ _ <| wp_seq_k fun K fu=>aY <| bi 1 [0,0] [(47,.agg #[.i rE.Kind,ao rE.aM])] [akD,0] (av (a2 (hm.e 0 rfl)) aw) I fun a I=>?_;obtain ⟨XB,aA0,h⟩:=J.aH h;have hc:=hm;refine bP (vs:=[.agg #[.i rE.Kind,ao rE.aM]]) wn rfl Tryz.call131 ⟨(I.g rfl),trivial⟩ (KB ((hc.into 0).pick trivial) aA0) I rfl rfl ?_;rintro _ w ⟨rfl,af⟩;refine ⟨_,rfl,fun a I=>?_⟩;have hm:=hc.back 0 af;clear af hc
     refine aN 1 [] [(49,.bool (!XB))] I fun a I=>wpList_nil (fu _ _ ?_);refine bk (I.g rfl) h (fun aq8 h=>?_) (fun aq8 h=>?_)
     · refine bt [] [(2,.i 7)] I fun a I=>wp_ret ?_;obtain rfl:=ay h;obtain rfl:=ay S9;refine a8 (aj (aj (a8 (aj (aj ?_)))));refine bq Tryz.results132 I rfl ?_;exact ⟨rfl,hm.aX [] []⟩
     refine wp_skip <| gx _ _ <| cg [] [(43,.i (J.ap (p7+ 1)))] I fun a I=>?_;exact dL _ _ ⟨J.ap (p7+ 1),I.cut,(hm.kM [1] rfl rfl),h⟩
   refine wp_exit <| bz (bz (cr ?_));exact dS _ _ ⟨I.cut,hm,(os h)⟩
 rintro a w ⟨I,hm,bc⟩;subst VJ;have h:=S9;clear S9;dsimp only [J.dW] at h;refine dc _ _ <| wp_seq_k fun K fR=>wp_seq_k fun K gm=>aY <| bi 2 [0,3] [(52,.agg #[.i m_.Returns.Kind,ao m_.Returns.aM])] [cY,3] (av (a2 (hm.e 0 rfl)) aw) I fun a I=>bQ wn (gG (vs:=[]) (cs:=[.i 0,ao []]) Tryz.zeroValue103 Tryz.underlying103 ae' rfl trivial (by kernel_rfl)) I rfl rfl fun a I=>bQ wn (Fv (X:=m_.Returns) (Y:=(⟨0,[]⟩:J.Kind)) rfl (I.g rfl) (I.g rfl)) I rfl rfl fun a I=>aN 1 [] [(55,.bool (!decide (m_.Returns=(⟨0,[]⟩:J.Kind))))] I fun a I=>?_
 rcases Bool.eq_false_or_eq_true (!decide (m_.Returns=(⟨0,[]⟩:J.Kind))) with Gy | Gy
 · have h:=J.dj Gy h;have I:=I.b6 55 rfl Gy;refine bi 2 [1,1,0,3] [(57,.agg #[.i m_.Returns.Kind,ao m_.Returns.aM])] [cY,3] (av (a2 (hm.e 0 rfl)) aw) I fun a I=>?_;obtain ⟨XC,aA3,h⟩:=J.aH h;have hc:=hm;refine bP (vs:=[.agg #[.i m_.Returns.Kind,ao m_.Returns.aM]]) (cV I rfl rfl rfl rfl) rfl Tryz.call131 ⟨(I.g rfl),trivial⟩ (KB ((hc.into 0).pick trivial) aA3) I rfl rfl ?_;rintro _ w ⟨rfl,af⟩;refine ⟨_,rfl,fun a I=>?_⟩;have hm:=hc.back 0 af;clear af hc;refine aN 2 [1,1] [(60,.bool (!XC))] I fun a I=>wpList_nil (gm _ _ ?_)
   refine bk (I.g rfl) h (fun arc h=>?_) (fun arc h=>?_)
   · refine bt [] [(2,.i 7)] I fun a I=>wp_ret ?_;obtain rfl:=ay h;refine aj <| bq Tryz.results132 I rfl ?_;exact ⟨rfl,hm.aX [] []⟩
   refine wp_skip <| fR _ _ <| wp_seq_k fun K hB=>wp_seq_k fun K hX=>rg [0,8] [(62,.q aK aO m_.bK),(63,.i (m_.bK.length:Int)),(64,.i 0)] [cY,8] (av (a2 (hm.e 0 rfl)) aw) I fun a I=>hX _ _ ?_;obtain ⟨UT,h,Cv⟩:=J.dZ h;refine ca (fun a w=>Fr ⟨91,[]⟩ [] a/\ar W M0 X w [aq.br cY 133 [ao m_.Name,.bool m_.Static,.q ag ah m_.bI,.i m_.Returns.Kind,ao m_.Returns.aM,.i m_.cR,.i m_.cQ,ao m_.Code,.q aK aO m_.bK]] [U J.dt ag ah m_.bI,U J.eg aK aO m_.bK]/\UT=(.go ())) (fun K ho=>?_) ?_
   · refine cw (fun (c7:Nat) a w=>∃ (h1:Int),Fr ⟨91,[]⟩ [(62,.q aK aO m_.bK),(63,.i (m_.bK.length:Int)),(64,.i h1)] a/\ar W M0 X w [aq.br cY 133 [ao m_.Name,.bool m_.Static,.q ag ah m_.bI,.i m_.Returns.Kind,ao m_.Returns.aM,.i m_.cR,.i m_.cQ,ao m_.Code,.q aK aO m_.bK]] [U J.dt ag ah m_.bI,U J.eg aK aO m_.bK]/\J.xP F m_ c7 h1=some UT) F ⟨0,I.cut,hm,h⟩ ?_ ?_
     · rintro a w ⟨h1,I,hm,h⟩;exact absurd h (by simp [J.xP])
     rintro c7 a w ⟨h1,I,hm,h⟩ K hp;rw [J.xP] at h;refine bb [] [(65,.bool (decide (h1 <(m_.bK.length:Int))))] I fun a I=>wp_seq_k fun K jC=>bk (I.g rfl) h (fun ao' h=>?_) (fun ao' h=>?_)
     · refine wp_skip <| jC _ _ <| wp_seq_k fun K jl=>wp_block <| wp_seq_k fun K my=>aY ?_;obtain ⟨jv,aB9,h⟩:=J.aH h;obtain ⟨alj,awb,_,rfl,arW⟩:=bX _ (hm.d 1 rfl) aB9;refine bQ wn (bF Tryz.underlying131 Tryz.sizeOf150 rfl (I.g rfl) (I.g rfl) alj awb) I rfl rfl fun a I=>bi 1 [0,0] [(67,.agg #[.i jv.From,.i jv.To,.i jv.gT,ao jv.aM])] [bG aK,bH aK+(h1).toNat* 4] (av arW aw) I fun a I=>cD (cs:=[.i 0,.i 0,.i 0,ao []]) wn (eQ Tryz.zeroValue150 rfl rfl) I hm rfl rfl fun a KR w _ I hm=>?_
       refine cX (vs:=[.i jv.From,.i jv.To,.i jv.gT,ao jv.aM]) 0 hm rfl wn rfl Tryz.sizeOf150 rfl rfl rfl rfl (I.g rfl) (I.g rfl) rfl fun w hm=>wpList_nil <| my _ _ <| wp_block <| wp_seq_k fun K jD=>aY <| bi 2 [0,3] [(70,ao jv.aM)] [KR,3] (av (a2 (hm.e 0 rfl)) aw) I fun a I=>?_;obtain ⟨HZ,azR,h⟩:=J.aH h;have hc:=hm;refine bP (vs:=[ao jv.aM]) wn rfl Tryz.call130 ⟨(I.g rfl),trivial⟩ (w7 ((hc.into 0).pick trivial) azR) I rfl rfl ?_;rintro _ w ⟨rfl,af⟩;refine ⟨_,rfl,fun a I=>?_⟩;have ad:ba [] _ w:=af.ev;have hm:=hc.back 0 af
       clear af hc;clear ad;refine aN 2 [] [(68,.bool (!HZ))] I fun a I=>wpList_nil (jD _ _ ?_);refine bk (I.g rfl) h (fun apg h=>?_) (fun apg h=>?_)
       · refine bt [] [(2,.i 1)] I fun a I=>wp_ret ?_;obtain rfl:=ay h;obtain rfl:=ay Cv;refine a8 (a8 (aj (aj (a8 (aj (aj ?_))))));refine bq Tryz.results132 I rfl ?_;exact ⟨rfl,hm.aX [] []⟩
       refine wp_seq_k fun K j9=>aY <| bi 2 [0,0] [(75,.i jv.From)] [KR,0] (av (a2 (hm.e 0 rfl)) aw) I fun a I=>?_;obtain ⟨kp,T5,h⟩:=J.aH h;have hc:=hm;refine bP (vs:=[.i jv.From,.i 0,.i 200]) wn rfl Tryz.call145 ⟨(I.g rfl),(cW _ _),(cW _ _),trivial⟩ (w8 ((hc.into 0).pick trivial) T5) I rfl rfl ?_;rintro _ w ⟨rfl,af⟩;refine ⟨_,rfl,fun a I=>?_⟩;have hm:=hc.back 0 af;clear af hc;refine aN 2 [] [(78,.bool (!kp))] I fun a I=>?_;rcases Bool.eq_false_or_eq_true (!kp) with zD | zD
       · have h:=J.dj zD h;have I:=I.b6 78 rfl zD;refine aN 12 [1,1,1,1,1,1,1,1,1,1] [(73,.bool true)] I fun a I=>wpList_nil (j9 _ _ ?_);refine eG (I.g rfl) rfl <| bt [] [(2,.i 3)] I fun a I=>wp_ret ?_;obtain rfl:=ay h;obtain rfl:=ay Cv;refine a8 (a8 (aj (aj (a8 (aj (aj ?_))))));refine bq Tryz.results132 I rfl ?_;exact ⟨rfl,hm.aX [] []⟩
       have h:=J.di zD h;have I:=I.b6 78 rfl zD;refine bi 2 [1,1,0,1] [(80,.i jv.To)] [KR,1] (av (a2 (hm.e 0 rfl)) aw) I fun a I=>?_;obtain ⟨C8,azU,h⟩:=J.aH h;have hc:=hm;refine bP (vs:=[.i jv.To,.i 0,.i 200]) (cV I rfl rfl rfl rfl) rfl Tryz.call145 ⟨(I.g rfl),(cW _ _),(cW _ _),trivial⟩ (w8 ((hc.into 0).pick trivial) azU) I rfl rfl ?_;rintro _ w ⟨rfl,af⟩;refine ⟨_,rfl,fun a I=>?_⟩;have hm:=hc.back 0 af;clear af hc;refine aN 3 [1,1] [(84,.bool (!C8))] I fun a I=>?_;rcases Bool.eq_false_or_eq_true (!C8) with F2 | F2
       · have h:=J.dj F2 h;have I:=I.b6 84 rfl F2;refine aN 6 [1,1,1,1,1] [(73,.bool true)] I fun a I=>wpList_nil (j9 _ _ ?_);refine eG (I.g rfl) rfl <| bt [] [(2,.i 3)] I fun a I=>wp_ret ?_;obtain rfl:=ay h;obtain rfl:=ay Cv;refine a8 (a8 (aj (aj (a8 (aj (aj ?_))))));refine bq Tryz.results132 I rfl ?_;exact ⟨rfl,hm.aX [] []⟩
       have h:=J.di F2 h;have I:=I.b6 84 rfl F2;refine bi 2 [1,1,0,2] [(86,.i jv.gT)] [KR,2] (av (a2 (hm.e 0 rfl)) aw) I fun a I=>?_;obtain ⟨H0,azV,h⟩:=J.aH h;have hc:=hm;refine bP (vs:=[.i jv.gT,.i 0,.i 200]) (cV I rfl rfl rfl rfl) rfl Tryz.call145 ⟨(I.g rfl),(cW _ _),(cW _ _),trivial⟩ (w8 ((hc.into 0).pick trivial) azV) I rfl rfl ?_;rintro _ w ⟨rfl,af⟩;refine ⟨_,rfl,fun a I=>?_⟩;have hm:=hc.back 0 af;clear af hc;refine aN 3 [1,1] [(73,.bool (!H0))] I fun a I=>wpList_nil (j9 _ _ ?_)
       refine bk (I.g rfl) h (fun apj h=>?_) (fun apj h=>?_)
       · refine bt [] [(2,.i 3)] I fun a I=>wp_ret ?_;obtain rfl:=ay h;obtain rfl:=ay Cv;refine a8 (a8 (aj (aj (a8 (aj (aj ?_))))));refine bq Tryz.results132 I rfl ?_;exact ⟨rfl,hm.aX [] []⟩
       refine wp_skip <| jl _ _ <| cg [] [(64,.i (J.ap (h1+ 1)))] I fun a I=>?_;exact hp _ _ ⟨J.ap (h1+ 1),I.cut,(hm.kM [1] rfl rfl),h⟩
     refine wp_exit <| bz (bz (cr ?_));exact ho _ _ ⟨I.cut,hm,(os h)⟩
   rintro a w ⟨I,hm,bc⟩;subst UT;have h:=Cv;clear Cv;dsimp only [J.dW] at h;refine hB _ _ <| bt [] [(2,.i 0)] I fun a I=>wp_ret ?_;obtain rfl:=ay h;refine bq Tryz.results132 I rfl ?_;exact ⟨rfl,hm.aX [] []⟩
 have h:=J.di Gy h;have I:=I.b6 55 rfl Gy;refine aN 5 [1,1,1,1,1] [(60,.bool false)] I fun a I=>wpList_nil (gm _ _ ?_);refine hW (I.g rfl) rfl <| wp_skip <| fR _ _ <| wp_seq_k fun K ou=>wp_seq_k fun K lG=>rg [0,8] [(62,.q aK aO m_.bK),(63,.i (m_.bK.length:Int)),(64,.i 0)] [cY,8] (av (a2 (hm.e 0 rfl)) aw) I fun a I=>lG _ _ ?_;obtain ⟨Vh,h,Cz⟩:=J.dZ h
 refine ca (fun a w=>Fr ⟨91,[]⟩ [] a/\ar W M0 X w [aq.br cY 133 [ao m_.Name,.bool m_.Static,.q ag ah m_.bI,.i m_.Returns.Kind,ao m_.Returns.aM,.i m_.cR,.i m_.cQ,ao m_.Code,.q aK aO m_.bK]] [U J.dt ag ah m_.bI,U J.eg aK aO m_.bK]/\Vh=(.go ())) (fun K mz=>?_) ?_
 · refine cw (fun (et:Nat) a w=>∃ (p0:Int),Fr ⟨91,[]⟩ [(62,.q aK aO m_.bK),(63,.i (m_.bK.length:Int)),(64,.i p0)] a/\ar W M0 X w [aq.br cY 133 [ao m_.Name,.bool m_.Static,.q ag ah m_.bI,.i m_.Returns.Kind,ao m_.Returns.aM,.i m_.cR,.i m_.cQ,ao m_.Code,.q aK aO m_.bK]] [U J.dt ag ah m_.bI,U J.eg aK aO m_.bK]/\J.xQ F m_ et p0=some Vh) F ⟨0,I.cut,hm,h⟩ ?_ ?_
   · rintro a w ⟨p0,I,hm,h⟩;exact absurd h (by simp [J.xQ])
   rintro et a w ⟨p0,I,hm,h⟩ K qN;rw [J.xQ] at h;refine bb [] [(65,.bool (decide (p0 <(m_.bK.length:Int))))] I fun a I=>wp_seq_k fun K mA=>bk (I.g rfl) h (fun apA h=>?_) (fun apA h=>?_)
   · refine wp_skip <| mA _ _ <| wp_seq_k fun K tB=>wp_block <| wp_seq_k fun K qO=>aY ?_;obtain ⟨jw,aCr,h⟩:=J.aH h;obtain ⟨alI,awy,_,rfl,asg⟩:=bX _ (hm.d 1 rfl) aCr;refine bQ wn (bF Tryz.underlying131 Tryz.sizeOf150 rfl (I.g rfl) (I.g rfl) alI awy) I rfl rfl fun a I=>bi 1 [0,0] [(67,.agg #[.i jw.From,.i jw.To,.i jw.gT,ao jw.aM])] [bG aK,bH aK+(p0).toNat* 4] (av asg aw) I fun a I=>cD (cs:=[.i 0,.i 0,.i 0,ao []]) wn (eQ Tryz.zeroValue150 rfl rfl) I hm rfl rfl fun a KT w _ I hm=>?_
     refine cX (vs:=[.i jw.From,.i jw.To,.i jw.gT,ao jw.aM]) 0 hm rfl wn rfl Tryz.sizeOf150 rfl rfl rfl rfl (I.g rfl) (I.g rfl) rfl fun w hm=>wpList_nil <| qO _ _ <| wp_block <| wp_seq_k fun K ov=>aY <| bi 2 [0,3] [(70,ao jw.aM)] [KT,3] (av (a2 (hm.e 0 rfl)) aw) I fun a I=>?_;obtain ⟨Xb,az8,h⟩:=J.aH h;have hc:=hm;refine bP (vs:=[ao jw.aM]) wn rfl Tryz.call130 ⟨(I.g rfl),trivial⟩ (w7 ((hc.into 0).pick trivial) az8) I rfl rfl ?_;rintro _ w ⟨rfl,af⟩;refine ⟨_,rfl,fun a I=>?_⟩;have ad:ba [] _ w:=af.ev;have hm:=hc.back 0 af
     clear af hc;clear ad;refine aN 2 [] [(68,.bool (!Xb))] I fun a I=>wpList_nil (ov _ _ ?_);refine bk (I.g rfl) h (fun apB h=>?_) (fun apB h=>?_)
     · refine bt [] [(2,.i 1)] I fun a I=>wp_ret ?_;obtain rfl:=ay h;obtain rfl:=ay Cz;refine a8 (a8 (aj (aj (a8 (aj (aj ?_))))));refine bq Tryz.results132 I rfl ?_;exact ⟨rfl,hm.aX [] []⟩
     refine wp_seq_k fun K mB=>aY <| bi 2 [0,0] [(75,.i jw.From)] [KT,0] (av (a2 (hm.e 0 rfl)) aw) I fun a I=>?_;obtain ⟨Mx,az9,h⟩:=J.aH h;have hc:=hm;refine bP (vs:=[.i jw.From,.i 0,.i 200]) wn rfl Tryz.call145 ⟨(I.g rfl),(cW _ _),(cW _ _),trivial⟩ (w8 ((hc.into 0).pick trivial) az9) I rfl rfl ?_;rintro _ w ⟨rfl,af⟩;refine ⟨_,rfl,fun a I=>?_⟩;have hm:=hc.back 0 af;clear af hc;refine aN 2 [] [(78,.bool (!Mx))] I fun a I=>?_;rcases Bool.eq_false_or_eq_true (!Mx) with F' | F'
     · have h:=J.dj F' h;have I:=I.b6 78 rfl F';refine aN 12 [1,1,1,1,1,1,1,1,1,1] [(73,.bool true)] I fun a I=>wpList_nil (mB _ _ ?_);refine eG (I.g rfl) rfl <| bt [] [(2,.i 3)] I fun a I=>wp_ret ?_;obtain rfl:=ay h;obtain rfl:=ay Cz;refine a8 (a8 (aj (aj (a8 (aj (aj ?_))))));refine bq Tryz.results132 I rfl ?_;exact ⟨rfl,hm.aX [] []⟩
     have h:=J.di F' h;have I:=I.b6 78 rfl F';refine bi 2 [1,1,0,1] [(80,.i jw.To)] [KT,1] (av (a2 (hm.e 0 rfl)) aw) I fun a I=>?_;obtain ⟨My,az_,h⟩:=J.aH h;have hc:=hm;refine bP (vs:=[.i jw.To,.i 0,.i 200]) (cV I rfl rfl rfl rfl) rfl Tryz.call145 ⟨(I.g rfl),(cW _ _),(cW _ _),trivial⟩ (w8 ((hc.into 0).pick trivial) az_) I rfl rfl ?_;rintro _ w ⟨rfl,af⟩;refine ⟨_,rfl,fun a I=>?_⟩;have hm:=hc.back 0 af;clear af hc;refine aN 3 [1,1] [(84,.bool (!My))] I fun a I=>?_;rcases Bool.eq_false_or_eq_true (!My) with Ga | Ga
     · have h:=J.dj Ga h;have I:=I.b6 84 rfl Ga;refine aN 6 [1,1,1,1,1] [(73,.bool true)] I fun a I=>wpList_nil (mB _ _ ?_);refine eG (I.g rfl) rfl <| bt [] [(2,.i 3)] I fun a I=>wp_ret ?_;obtain rfl:=ay h;obtain rfl:=ay Cz;refine a8 (a8 (aj (aj (a8 (aj (aj ?_))))));refine bq Tryz.results132 I rfl ?_;exact ⟨rfl,hm.aX [] []⟩
     have h:=J.di Ga h;have I:=I.b6 84 rfl Ga;refine bi 2 [1,1,0,2] [(86,.i jw.gT)] [KT,2] (av (a2 (hm.e 0 rfl)) aw) I fun a I=>?_;obtain ⟨Xc,az',h⟩:=J.aH h;have hc:=hm;refine bP (vs:=[.i jw.gT,.i 0,.i 200]) (cV I rfl rfl rfl rfl) rfl Tryz.call145 ⟨(I.g rfl),(cW _ _),(cW _ _),trivial⟩ (w8 ((hc.into 0).pick trivial) az') I rfl rfl ?_;rintro _ w ⟨rfl,af⟩;refine ⟨_,rfl,fun a I=>?_⟩;have hm:=hc.back 0 af;clear af hc;refine aN 3 [1,1] [(73,.bool (!Xc))] I fun a I=>wpList_nil (mB _ _ ?_)
     refine bk (I.g rfl) h (fun apE h=>?_) (fun apE h=>?_)
     · refine bt [] [(2,.i 3)] I fun a I=>wp_ret ?_;obtain rfl:=ay h;obtain rfl:=ay Cz;refine a8 (a8 (aj (aj (a8 (aj (aj ?_))))));refine bq Tryz.results132 I rfl ?_;exact ⟨rfl,hm.aX [] []⟩
     refine wp_skip <| tB _ _ <| cg [] [(64,.i (J.ap (p0+ 1)))] I fun a I=>?_;exact qN _ _ ⟨J.ap (p0+ 1),I.cut,(hm.kM [1] rfl rfl),h⟩
   refine wp_exit <| bz (bz (cr ?_));exact mz _ _ ⟨I.cut,hm,(os h)⟩
 rintro a w ⟨I,hm,bc⟩;subst Vh;have h:=Cz;clear Cz;dsimp only [J.dW] at h;refine ou _ _ <| bt [] [(2,.i 0)] I fun a I=>wp_ret ?_;obtain rfl:=ay h;refine bq Tryz.results132 I rfl ?_;exact ⟨rfl,hm.aX [] []⟩
theorem aiV {W:World} {X:List Nat} {F:Nat} {c_:J.aM} {r:Int} {ag:aP} {ah:Nat} {aK:aP} {aO:Nat} {M0:List Nat} (hm:ar W M0 X W [] [U J.aW ag ah c_.Fields,U J.b4 aK aO c_.aQ]) (h:J.Hu F c_=some r) :
 Calls Tryz.prog 98 [.agg #[ao c_.Name,ao c_.bZ,.q ag ah c_.Fields,.q aK aO c_.aQ]].toArray W (fun e aF=>e= .returned (.i r)/\ar W M0 X aF [] []):=by
 refine enter Tryz.func98 rfl Tryz.ntmps98 rfl fun a I=>?_;rw [J.Hu] at h;refine wp_seq_k fun K c6=>aY <| cD (cs:=[ao c_.Name,ao c_.bZ,.q ag ah c_.Fields,.q aK aO c_.aQ]) wn (ei rfl rfl (I.g rfl)) I hm rfl rfl fun a cY w _ I hm=>aN 1 [] [] I fun a I=>wpList_nil (c6 _ _ ?_);refine wp_seq_k fun K bN=>wp_block <| wp_seq_k fun K cb=>aY <| bi 2 [0,0] [(10,ao c_.Name)] [cY,0] (av (a2 (hm.e 0 rfl)) aw) I fun a I=>?_;obtain ⟨dv,tZ,h⟩:=J.aH h;have hc:=hm
 refine bP (vs:=[ao c_.Name]) wn rfl Tryz.call130 ⟨(I.g rfl),trivial⟩ (w7 ((hc.into 0).pick trivial) tZ) I rfl rfl ?_;rintro _ w ⟨rfl,af⟩;refine ⟨_,rfl,fun a I=>?_⟩;have hm:=hc.back 0 af;clear af hc;refine aN 2 [] [(13,.bool (!dv))] I fun a I=>?_;rcases Bool.eq_false_or_eq_true (!dv) with kZ | kZ
 · have h:=J.dj kZ h;have I:=I.b6 13 rfl kZ;refine aN 11 [1,1,1,1,1,1,1,1,1,1] [(8,.bool true)] I fun a I=>wpList_nil (cb _ _ ?_);refine eG (I.g rfl) rfl <| bt [] [(2,.i 1)] I fun a I=>wp_ret ?_;obtain rfl:=ay h;refine a8 (aj ?_);refine bq Tryz.results98 I rfl ?_;exact ⟨rfl,hm.aX [] []⟩
 have h:=J.di kZ h;have I:=I.b6 13 rfl kZ;refine bi 4 [1,1,0,1,1,1] [(17,.bool (!decide (c_.bZ= [])))] [cY,1] (av (a2 (hm.e 0 rfl)) aw) I fun a I=>?_;rcases Bool.eq_false_or_eq_true (!decide (c_.bZ= [])) with qT | qT
 · have h:=J.dj qT h;have I:=I.b6 17 rfl qT;refine bi 2 [1,1,0,1] [(19,ao c_.bZ)] [cY,1] (av (a2 (hm.e 0 rfl)) aw) I fun a I=>?_;obtain ⟨hf,zZ,h⟩:=J.aH h;have hc:=hm;refine bP (vs:=[ao c_.bZ]) (cV I rfl rfl rfl rfl) rfl Tryz.call130 ⟨(I.g rfl),trivial⟩ (w7 ((hc.into 0).pick trivial) zZ) I rfl rfl ?_;rintro _ w ⟨rfl,af⟩;refine ⟨_,rfl,fun a I=>?_⟩;have hm:=hc.back 0 af;clear af hc;refine aN 4 [1,1,1,1] [(8,.bool (!hf))] I fun a I=>wpList_nil (cb _ _ ?_);refine bk (I.g rfl) h (fun gy h=>?_) (fun gy h=>?_)
   · refine bt [] [(2,.i 1)] I fun a I=>wp_ret ?_;obtain rfl:=ay h;refine a8 (aj ?_);refine bq Tryz.results98 I rfl ?_;exact ⟨rfl,hm.aX [] []⟩
   refine wp_seq_k fun K dE=>eE [0,2,0,0,0,3,0,0,0] [(24,.bool ((decide (6 <(c_.Fields.length:Int))) || (decide (8 <(c_.aQ.length:Int)))))] [cY,3,cY,2] (av (a2 (hm.e 0 rfl)) aw) I fun a I=>dE _ _ <| bk (I.g rfl) h (fun oz h=>?_) (fun oz h=>?_)
   · refine bt [] [(2,.i 2)] I fun a I=>wp_ret ?_;obtain rfl:=ay h;refine a8 (aj ?_);refine bq Tryz.results98 I rfl ?_;exact ⟨rfl,hm.aX [] []⟩
   refine wp_skip <| bN _ _ <| wp_seq_k fun K cN=>wp_seq_k fun K dq=>eE [0,2] [(36,.q ag ah c_.Fields),(37,.i (c_.Fields.length:Int)),(38,.i 0)] [cY,2] (av (a2 (hm.e 0 rfl)) aw) I fun a I=>dq _ _ ?_;obtain ⟨Af,h,xy⟩:=J.dZ h;refine ca (fun a w=>Fr ⟨66,[]⟩ [(1,.aL cY)] a/\ar W M0 X w [aq.br cY 136 [ao c_.Name,ao c_.bZ,.q ag ah c_.Fields,.q aK aO c_.aQ]] [U J.aW ag ah c_.Fields,U J.b4 aK aO c_.aQ]/\Af=(.go ())) (fun K dc=>?_) ?_
   · refine cw (fun (bu:Nat) a w=>∃ (eO:Int),Fr ⟨66,[]⟩ [(1,.aL cY),(36,.q ag ah c_.Fields),(37,.i (c_.Fields.length:Int)),(38,.i eO)] a/\ar W M0 X w [aq.br cY 136 [ao c_.Name,ao c_.bZ,.q ag ah c_.Fields,.q aK aO c_.aQ]] [U J.aW ag ah c_.Fields,U J.b4 aK aO c_.aQ]/\J.xK F c_ bu eO=some Af) F ⟨0,I.cut,hm,h⟩ ?_ ?_
     · rintro a w ⟨eO,I,hm,h⟩;exact absurd h (by simp [J.xK])
     rintro bu a w ⟨eO,I,hm,h⟩ K dC;rw [J.xK] at h;refine bb [] [(39,.bool (decide (eO <(c_.Fields.length:Int))))] I fun a I=>wp_seq_k fun K dL=>bk (I.g rfl) h (fun Gz h=>?_) (fun Gz h=>?_)
     · refine wp_skip <| dL _ _ <| wp_seq_k fun K ft=>wp_block <| wp_seq_k fun K eX=>aY ?_;obtain ⟨il,UA,h⟩:=J.aH h;obtain ⟨QQ,R8,_,rfl,Ry⟩:=bX _ (hm.d 0 rfl) UA;refine bQ wn (bF Tryz.underlying106 Tryz.sizeOf105 rfl (I.g rfl) (I.g rfl) QQ R8) I rfl rfl fun a I=>bi 1 [0,0] [(41,.agg #[ao il.Name,.i il.Kind.Kind,ao il.Kind.aM])] [bG ag,bH ag+(eO).toNat* 3] (av Ry aw) I fun a I=>cD (cs:=[ao [],.i 0,ao []]) wn (eQ Tryz.zeroValue105 rfl rfl) I hm rfl rfl fun a acr w _ I hm=>?_
       refine cX (vs:=[ao il.Name,.i il.Kind.Kind,ao il.Kind.aM]) 0 hm rfl wn rfl Tryz.sizeOf105 rfl rfl rfl rfl (I.g rfl) (I.g rfl) rfl fun w hm=>wpList_nil <| eX _ _ <| wp_block <| wp_seq_k fun K gx=>aY <| bi 2 [0,0] [(44,ao il.Name)] [acr,0] (av (a2 (hm.e 0 rfl)) aw) I fun a I=>?_;obtain ⟨Az,aA6,h⟩:=J.aH h;have hc:=hm;refine bP (vs:=[ao il.Name]) wn rfl Tryz.call130 ⟨(I.g rfl),trivial⟩ (w7 ((hc.into 0).pick trivial) aA6) I rfl rfl ?_;rintro _ w ⟨rfl,af⟩;refine ⟨_,rfl,fun a I=>?_⟩;have ad:ba [] _ w:=af.ev;have hm:=hc.back 0 af
       clear af hc;clear ad;refine aN 2 [] [(42,.bool (!Az))] I fun a I=>wpList_nil (gx _ _ ?_);refine bk (I.g rfl) h (fun arh h=>?_) (fun arh h=>?_)
       · refine bt [] [(2,.i 1)] I fun a I=>wp_ret ?_;obtain rfl:=ay h;obtain rfl:=ay xy;refine a8 (a8 (aj (aj (a8 (aj (aj ?_))))));refine bq Tryz.results98 I rfl ?_;exact ⟨rfl,hm.aX [] []⟩
       refine wp_seq_k fun K fu=>aY <| bi 2 [0,1] [(49,.agg #[.i il.Kind.Kind,ao il.Kind.aM])] [acr,1] (av (a2 (hm.e 0 rfl)) aw) I fun a I=>?_;obtain ⟨ko,T1,h⟩:=J.aH h;have hc:=hm;refine bP (vs:=[.agg #[.i il.Kind.Kind,ao il.Kind.aM]]) wn rfl Tryz.call131 ⟨(I.g rfl),trivial⟩ (KB ((hc.into 0).pick trivial) T1) I rfl rfl ?_;rintro _ w ⟨rfl,af⟩;refine ⟨_,rfl,fun a I=>?_⟩;have hm:=hc.back 0 af;clear af hc;refine aN 2 [] [(47,.bool (!ko))] I fun a I=>wpList_nil (fu _ _ ?_);refine bk (I.g rfl) h (fun tJ h=>?_) (fun tJ h=>?_)
       · refine bt [] [(2,.i 7)] I fun a I=>wp_ret ?_;obtain rfl:=ay h;obtain rfl:=ay xy;refine a8 (a8 (aj (aj (a8 (aj (aj ?_))))));refine bq Tryz.results98 I rfl ?_;exact ⟨rfl,hm.aX [] []⟩
       refine wp_skip <| ft _ _ <| cg [] [(38,.i (J.ap (eO+ 1)))] I fun a I=>?_;exact dC _ _ ⟨J.ap (eO+ 1),I.cut,(hm.kM [1] rfl rfl),h⟩
     refine wp_exit <| bz (bz (cr ?_));exact dc _ _ ⟨I.cut,hm,(os h)⟩
   rintro a w ⟨I,hm,bc⟩;subst Af;have h:=xy;clear xy;dsimp only [J.dW] at h;refine cN _ _ <| wp_seq_k fun K fR=>wp_seq_k fun K gm=>rg [0,3] [(54,.q aK aO c_.aQ),(55,.i (c_.aQ.length:Int)),(56,.i 0)] [cY,3] (av (a2 (hm.e 0 rfl)) aw) I fun a I=>gm _ _ ?_;obtain ⟨UU,h,Sj⟩:=J.dZ h;refine ca (fun a w=>Fr ⟨66,[]⟩ [] a/\ar W M0 X w [aq.br cY 136 [ao c_.Name,ao c_.bZ,.q ag ah c_.Fields,.q aK aO c_.aQ]] [U J.aW ag ah c_.Fields,U J.b4 aK aO c_.aQ]/\UU=(.go ())) (fun K gK=>?_) ?_
   · refine cw (fun (c7:Nat) a w=>∃ (h1:Int),Fr ⟨66,[]⟩ [(54,.q aK aO c_.aQ),(55,.i (c_.aQ.length:Int)),(56,.i h1)] a/\ar W M0 X w [aq.br cY 136 [ao c_.Name,ao c_.bZ,.q ag ah c_.Fields,.q aK aO c_.aQ]] [U J.aW ag ah c_.Fields,U J.b4 aK aO c_.aQ]/\J.xL F c_ c7 h1=some UU) F ⟨0,I.cut,hm,h⟩ ?_ ?_
     · rintro a w ⟨h1,I,hm,h⟩;exact absurd h (by simp [J.xL])
     rintro c7 a w ⟨h1,I,hm,h⟩ K hB;rw [J.xL] at h;refine bb [] [(57,.bool (decide (h1 <(c_.aQ.length:Int))))] I fun a I=>wp_seq_k fun K ho=>bk (I.g rfl) h (fun ao_ h=>?_) (fun ao_ h=>?_)
     · refine wp_skip <| ho _ _ <| wp_seq_k fun K hp=>wp_block <| wp_seq_k fun K hq=>aY ?_;obtain ⟨e2,aB7,h⟩:=J.aH h;obtain ⟨alh,av',_,⟨DX,EP,vx,wS,rfl,auh,aui⟩,arV⟩:=bX _ (hm.d 1 rfl) aB7;have hm:=hm.more (y:=U J.dt DX EP e2.bI) auh;have hm:=hm.more (y:=U J.eg vx wS e2.bK) aui;refine bQ wn (bF Tryz.underlying134 Tryz.sizeOf133 rfl (I.g rfl) (I.g rfl) alh av') I rfl rfl fun a I=>?_
       refine bi 1 [0,0] [(59,.agg #[ao e2.Name,.bool e2.Static,.q DX EP e2.bI,.i e2.Returns.Kind,ao e2.Returns.aM,.i e2.cR,.i e2.cQ,ao e2.Code,.q vx wS e2.bK])] [bG aK,bH aK+(h1).toNat* 9] (av arV aw) I fun a I=>cD (cs:=[ao [],.bool false,.slice none 0 0,.i 0,ao [],.i 0,.i 0,ao [],.slice none 0 0]) wn (eQ Tryz.zeroValue133 rfl rfl) I hm rfl rfl fun a aks w _ I hm=>?_
       refine cX (vs:=[ao e2.Name,.bool e2.Static,.q DX EP e2.bI,.i e2.Returns.Kind,ao e2.Returns.aM,.i e2.cR,.i e2.cQ,ao e2.Code,.q vx wS e2.bK]) 0 hm rfl wn rfl Tryz.sizeOf133 rfl rfl rfl rfl (I.g rfl) (I.g rfl) rfl fun w hm=>wpList_nil <| hq _ _ <| wp_seq_k fun K jC=>aY ?_
       refine bi 1 [0,0] [(60,.agg #[ao e2.Name,.bool e2.Static,.q DX EP e2.bI,.i e2.Returns.Kind,ao e2.Returns.aM,.i e2.cR,.i e2.cQ,ao e2.Code,.q vx wS e2.bK])] [aks,0] (av (a2 (hm.e 0 rfl)) aw) I fun a I=>?_;obtain ⟨kp,T5,h⟩:=J.aH h;have hc:=hm
       refine bP (vs:=[.agg #[ao e2.Name,.bool e2.Static,.q DX EP e2.bI,.i e2.Returns.Kind,ao e2.Returns.aM,.i e2.cR,.i e2.cQ,ao e2.Code,.q vx wS e2.bK]]) wn rfl Tryz.call132 ⟨(I.g rfl),trivial⟩ (abo (m_:=e2) ((hc.into 0).pick ⟨⟨1,rfl⟩,⟨0,rfl⟩,trivial⟩) T5) I rfl rfl ?_;rintro _ w ⟨rfl,af⟩;refine ⟨_,rfl,fun a I=>?_⟩;have hm:=hc.back 0 af;clear af hc
       refine aN 1 [] [(7,.i kp)] I fun a I=>wpList_nil (jC _ _ ?_);refine bb [] [(63,.bool (!decide (kp= 0)))] I fun a I=>bk (I.g rfl) h (fun zD h=>?_) (fun zD h=>?_)
       · refine bt [] [(2,.i kp)] I fun a I=>wp_ret ?_;obtain rfl:=ay h;obtain rfl:=ay Sj;refine a8 (aj (aj (a8 (aj (aj ?_)))));refine bq Tryz.results98 I rfl ?_;exact ⟨rfl,hm.aX [] []⟩
       refine wp_skip <| hp _ _ <| cg [] [(56,.i (J.ap (h1+ 1)))] I fun a I=>?_;exact hB _ _ ⟨J.ap (h1+ 1),I.cut,hm.aX [1] [2,3],h⟩
     refine wp_exit <| bz (bz (cr ?_));exact gK _ _ ⟨I.cut,hm,(os h)⟩
   rintro a w ⟨I,hm,bc⟩;subst UU;have h:=Sj;clear Sj;dsimp only [J.dW] at h;refine fR _ _ <| bt [] [(2,.i 0)] I fun a I=>wp_ret ?_;obtain rfl:=ay h;refine bq Tryz.results98 I rfl ?_;exact ⟨rfl,hm.aX [] []⟩
 have h:=J.di qT h;have I:=I.b6 17 rfl qT;refine aN 7 [1,1,1,1,1,1,1] [(8,.bool false)] I fun a I=>wpList_nil (cb _ _ ?_);refine hW (I.g rfl) rfl <| wp_seq_k fun K jE=>eE [0,2,0,0,0,3,0,0,0] [(24,.bool ((decide (6 <(c_.Fields.length:Int))) || (decide (8 <(c_.aQ.length:Int)))))] [cY,3,cY,2] (av (a2 (hm.e 0 rfl)) aw) I fun a I=>jE _ _ <| bk (I.g rfl) h (fun api h=>?_) (fun api h=>?_)
 · refine bt [] [(2,.i 2)] I fun a I=>wp_ret ?_;obtain rfl:=ay h;refine a8 (aj ?_);refine bq Tryz.results98 I rfl ?_;exact ⟨rfl,hm.aX [] []⟩
 refine wp_skip <| bN _ _ <| wp_seq_k fun K j_=>wp_seq_k fun K ny=>eE [0,2] [(36,.q ag ah c_.Fields),(37,.i (c_.Fields.length:Int)),(38,.i 0)] [cY,2] (av (a2 (hm.e 0 rfl)) aw) I fun a I=>ny _ _ ?_;obtain ⟨Vb,h,K'⟩:=J.dZ h;refine ca (fun a w=>Fr ⟨66,[]⟩ [(1,.aL cY)] a/\ar W M0 X w [aq.br cY 136 [ao c_.Name,ao c_.bZ,.q ag ah c_.Fields,.q aK aO c_.aQ]] [U J.aW ag ah c_.Fields,U J.b4 aK aO c_.aQ]/\Vb=(.go ())) (fun K ot=>?_) ?_
 · refine cw (fun (et:Nat) a w=>∃ (pZ:Int),Fr ⟨66,[]⟩ [(1,.aL cY),(36,.q ag ah c_.Fields),(37,.i (c_.Fields.length:Int)),(38,.i pZ)] a/\ar W M0 X w [aq.br cY 136 [ao c_.Name,ao c_.bZ,.q ag ah c_.Fields,.q aK aO c_.aQ]] [U J.aW ag ah c_.Fields,U J.b4 aK aO c_.aQ]/\J.xM F c_ et pZ=some Vb) F ⟨0,I.cut,hm,h⟩ ?_ ?_
   · rintro a w ⟨pZ,I,hm,h⟩;exact absurd h (by simp [J.xM])
   rintro et a w ⟨pZ,I,hm,h⟩ K lF;rw [J.xM] at h;refine bb [] [(39,.bool (decide (pZ <(c_.Fields.length:Int))))] I fun a I=>wp_seq_k fun K lG=>bk (I.g rfl) h (fun apt h=>?_) (fun apt h=>?_)
   · refine wp_skip <| lG _ _ <| wp_seq_k fun K mz=>wp_block <| wp_seq_k fun K qN=>aY ?_;obtain ⟨l3,aCm,h⟩:=J.aH h;obtain ⟨alC,aws,_,rfl,asa⟩:=bX _ (hm.d 0 rfl) aCm;refine bQ wn (bF Tryz.underlying106 Tryz.sizeOf105 rfl (I.g rfl) (I.g rfl) alC aws) I rfl rfl fun a I=>bi 1 [0,0] [(41,.agg #[ao l3.Name,.i l3.Kind.Kind,ao l3.Kind.aM])] [bG ag,bH ag+(pZ).toNat* 3] (av asa aw) I fun a I=>cD (cs:=[ao [],.i 0,ao []]) wn (eQ Tryz.zeroValue105 rfl rfl) I hm rfl rfl fun a ach w _ I hm=>?_
     refine cX (vs:=[ao l3.Name,.i l3.Kind.Kind,ao l3.Kind.aM]) 0 hm rfl wn rfl Tryz.sizeOf105 rfl rfl rfl rfl (I.g rfl) (I.g rfl) rfl fun w hm=>wpList_nil <| qN _ _ <| wp_block <| wp_seq_k fun K zv=>aY <| bi 2 [0,0] [(44,ao l3.Name)] [ach,0] (av (a2 (hm.e 0 rfl)) aw) I fun a I=>?_;obtain ⟨W7,azZ,h⟩:=J.aH h;have hc:=hm;refine bP (vs:=[ao l3.Name]) wn rfl Tryz.call130 ⟨(I.g rfl),trivial⟩ (w7 ((hc.into 0).pick trivial) azZ) I rfl rfl ?_;rintro _ w ⟨rfl,af⟩;refine ⟨_,rfl,fun a I=>?_⟩;have ad:ba [] _ w:=af.ev;have hm:=hc.back 0 af
     clear af hc;clear ad;refine aN 2 [] [(42,.bool (!W7))] I fun a I=>wpList_nil (zv _ _ ?_);refine bk (I.g rfl) h (fun Rb h=>?_) (fun Rb h=>?_)
     · refine bt [] [(2,.i 1)] I fun a I=>wp_ret ?_;obtain rfl:=ay h;obtain rfl:=ay K';refine a8 (a8 (aj (aj (a8 (aj (aj ?_))))));refine bq Tryz.results98 I rfl ?_;exact ⟨rfl,hm.aX [] []⟩
     refine wp_seq_k fun K tB=>aY <| bi 2 [0,1] [(49,.agg #[.i l3.Kind.Kind,ao l3.Kind.aM])] [ach,1] (av (a2 (hm.e 0 rfl)) aw) I fun a I=>?_;obtain ⟨W8,az0,h⟩:=J.aH h;have hc:=hm;refine bP (vs:=[.agg #[.i l3.Kind.Kind,ao l3.Kind.aM]]) wn rfl Tryz.call131 ⟨(I.g rfl),trivial⟩ (KB ((hc.into 0).pick trivial) az0) I rfl rfl ?_;rintro _ w ⟨rfl,af⟩;refine ⟨_,rfl,fun a I=>?_⟩;have hm:=hc.back 0 af;clear af hc;refine aN 2 [] [(47,.bool (!W8))] I fun a I=>wpList_nil (tB _ _ ?_);refine bk (I.g rfl) h (fun Rc h=>?_) (fun Rc h=>?_)
     · refine bt [] [(2,.i 7)] I fun a I=>wp_ret ?_;obtain rfl:=ay h;obtain rfl:=ay K';refine a8 (a8 (aj (aj (a8 (aj (aj ?_))))));refine bq Tryz.results98 I rfl ?_;exact ⟨rfl,hm.aX [] []⟩
     refine wp_skip <| mz _ _ <| cg [] [(38,.i (J.ap (pZ+ 1)))] I fun a I=>?_;exact lF _ _ ⟨J.ap (pZ+ 1),I.cut,(hm.kM [1] rfl rfl),h⟩
   refine wp_exit <| bz (bz (cr ?_));exact ot _ _ ⟨I.cut,hm,(os h)⟩
 rintro a w ⟨I,hm,bc⟩;subst Vb;have h:=K';clear K';dsimp only [J.dW] at h;refine j_ _ _ <| wp_seq_k fun K ov=>wp_seq_k fun K ow=>rg [0,3] [(54,.q aK aO c_.aQ),(55,.i (c_.aQ.length:Int)),(56,.i 0)] [cY,3] (av (a2 (hm.e 0 rfl)) aw) I fun a I=>ow _ _ ?_;obtain ⟨Vp,h,SL⟩:=J.dZ h;refine ca (fun a w=>Fr ⟨66,[]⟩ [] a/\ar W M0 X w [aq.br cY 136 [ao c_.Name,ao c_.bZ,.q ag ah c_.Fields,.q aK aO c_.aQ]] [U J.aW ag ah c_.Fields,U J.b4 aK aO c_.aQ]/\Vp=(.go ())) (fun K mB=>?_) ?_
 · refine cw (fun (fy:Nat) a w=>∃ (p1:Int),Fr ⟨66,[]⟩ [(54,.q aK aO c_.aQ),(55,.i (c_.aQ.length:Int)),(56,.i p1)] a/\ar W M0 X w [aq.br cY 136 [ao c_.Name,ao c_.bZ,.q ag ah c_.Fields,.q aK aO c_.aQ]] [U J.aW ag ah c_.Fields,U J.b4 aK aO c_.aQ]/\J.xN F c_ fy p1=some Vp) F ⟨0,I.cut,hm,h⟩ ?_ ?_
   · rintro a w ⟨p1,I,hm,h⟩;exact absurd h (by simp [J.xN])
   rintro fy a w ⟨p1,I,hm,h⟩ K r_;rw [J.xN] at h;refine bb [] [(57,.bool (decide (p1 <(c_.aQ.length:Int))))] I fun a I=>wp_seq_k fun K tD=>bk (I.g rfl) h (fun apQ h=>?_) (fun apQ h=>?_)
   · refine wp_skip <| tD _ _ <| wp_seq_k fun K r'=>wp_block <| wp_seq_k fun K tE=>aY ?_;obtain ⟨e3,aCF,h⟩:=J.aH h;obtain ⟨alW,awM,_,⟨D6,EZ,D7,E0,rfl,auA,auB⟩,asw⟩:=bX _ (hm.d 1 rfl) aCF;have hm:=hm.more (y:=U J.dt D6 EZ e3.bI) auA;have hm:=hm.more (y:=U J.eg D7 E0 e3.bK) auB;refine bQ wn (bF Tryz.underlying134 Tryz.sizeOf133 rfl (I.g rfl) (I.g rfl) alW awM) I rfl rfl fun a I=>?_
     refine bi 1 [0,0] [(59,.agg #[ao e3.Name,.bool e3.Static,.q D6 EZ e3.bI,.i e3.Returns.Kind,ao e3.Returns.aM,.i e3.cR,.i e3.cQ,ao e3.Code,.q D7 E0 e3.bK])] [bG aK,bH aK+(p1).toNat* 9] (av asw aw) I fun a I=>cD (cs:=[ao [],.bool false,.slice none 0 0,.i 0,ao [],.i 0,.i 0,ao [],.slice none 0 0]) wn (eQ Tryz.zeroValue133 rfl rfl) I hm rfl rfl fun a akv w _ I hm=>?_
     refine cX (vs:=[ao e3.Name,.bool e3.Static,.q D6 EZ e3.bI,.i e3.Returns.Kind,ao e3.Returns.aM,.i e3.cR,.i e3.cQ,ao e3.Code,.q D7 E0 e3.bK]) 0 hm rfl wn rfl Tryz.sizeOf133 rfl rfl rfl rfl (I.g rfl) (I.g rfl) rfl fun w hm=>wpList_nil <| tE _ _ <| wp_seq_k fun K xl=>aY ?_
     refine bi 1 [0,0] [(60,.agg #[ao e3.Name,.bool e3.Static,.q D6 EZ e3.bI,.i e3.Returns.Kind,ao e3.Returns.aM,.i e3.cR,.i e3.cQ,ao e3.Code,.q D7 E0 e3.bK])] [akv,0] (av (a2 (hm.e 0 rfl)) aw) I fun a I=>?_;obtain ⟨C_,aAf,h⟩:=J.aH h;have hc:=hm
     refine bP (vs:=[.agg #[ao e3.Name,.bool e3.Static,.q D6 EZ e3.bI,.i e3.Returns.Kind,ao e3.Returns.aM,.i e3.cR,.i e3.cQ,ao e3.Code,.q D7 E0 e3.bK]]) wn rfl Tryz.call132 ⟨(I.g rfl),trivial⟩ (abo (m_:=e3) ((hc.into 0).pick ⟨⟨1,rfl⟩,⟨0,rfl⟩,trivial⟩) aAf) I rfl rfl ?_;rintro _ w ⟨rfl,af⟩;refine ⟨_,rfl,fun a I=>?_⟩;have hm:=hc.back 0 af;clear af hc
     refine aN 1 [] [(7,.i C_)] I fun a I=>wpList_nil (xl _ _ ?_);refine bb [] [(63,.bool (!decide (C_= 0)))] I fun a I=>bk (I.g rfl) h (fun apV h=>?_) (fun apV h=>?_)
     · refine bt [] [(2,.i C_)] I fun a I=>wp_ret ?_;obtain rfl:=ay h;obtain rfl:=ay SL;refine a8 (aj (aj (a8 (aj (aj ?_)))));refine bq Tryz.results98 I rfl ?_;exact ⟨rfl,hm.aX [] []⟩
     refine wp_skip <| r' _ _ <| cg [] [(56,.i (J.ap (p1+ 1)))] I fun a I=>?_;exact r_ _ _ ⟨J.ap (p1+ 1),I.cut,hm.aX [1] [2,3],h⟩
   refine wp_exit <| bz (bz (cr ?_));exact mB _ _ ⟨I.cut,hm,(os h)⟩
 rintro a w ⟨I,hm,bc⟩;subst Vp;have h:=SL;clear SL;dsimp only [J.dW] at h;refine ov _ _ <| bt [] [(2,.i 0)] I fun a I=>wp_ret ?_;obtain rfl:=ay h;refine bq Tryz.results98 I rfl ?_;exact ⟨rfl,hm.aX [] []⟩
theorem aiU {W:World} {X:List Nat} {F:Nat} {aJ:List J.aM} {r:Int} {ag:aP} {ah:Nat} {M0:List Nat} (hm:ar W M0 X W [] [U J.a' ag ah aJ]) (h:J.Ht F aJ=some r) :
 Calls Tryz.prog 73 [.q ag ah aJ].toArray W (fun e aF=>e= .returned (.i r)/\ar W M0 X aF [] []):=by
 refine enter Tryz.func73 rfl Tryz.ntmps73 rfl fun a I=>?_;rw [J.Ht] at h;refine bb [] [] I fun a I=>wp_seq_k fun K bN=>bb [] [(8,.bool (decide (10 <(aJ.length:Int))))] I fun a I=>bk (I.g rfl) h (fun kY h=>?_) (fun kY h=>?_)
 · refine bt [] [(2,.i 2)] I fun a I=>wp_ret ?_;obtain rfl:=ay h;refine aj <| bq Tryz.results73 I rfl ?_;exact ⟨rfl,hm.aX [] []⟩
 refine wp_skip <| bN _ _ <| wp_seq_k fun K cp=>bt [] [(9,.q ag ah aJ),(10,.i (aJ.length:Int)),(11,.i 0)] I fun a I=>?_;obtain ⟨q4,h,qX⟩:=J.dZ h;refine ca (fun a w=>Fr ⟨21,[]⟩ [] a/\ar W M0 X w [] [U J.a' ag ah aJ]/\q4=(.go ())) (fun K dl=>?_) ?_
 · refine cw (fun (bu:Nat) a w=>∃ (p8:Int),Fr ⟨21,[]⟩ [(9,.q ag ah aJ),(10,.i (aJ.length:Int)),(11,.i p8)] a/\ar W M0 X w [] [U J.a' ag ah aJ]/\J.xJ F aJ bu p8=some q4) F ⟨0,I.cut,hm,h⟩ ?_ ?_
   · rintro a w ⟨p8,I,hm,h⟩;exact absurd h (by simp [J.xJ])
   rintro bu a w ⟨p8,I,hm,h⟩ K cN;rw [J.xJ] at h;refine bb [] [(12,.bool (decide (p8 <(aJ.length:Int))))] I fun a I=>wp_seq_k fun K dc=>bk (I.g rfl) h (fun k0 h=>?_) (fun k0 h=>?_)
   · refine wp_skip <| dc _ _ <| wp_seq_k fun K dC=>wp_block <| wp_seq_k fun K dS=>aY ?_;obtain ⟨iK,aD1,h⟩:=J.aH h;obtain ⟨anl,aya,_,⟨l5,mf,ql,qD,rfl,at4,at5⟩,atX⟩:=bX _ (hm.d 0 rfl) aD1;have hm:=hm.more (y:=U J.aW l5 mf iK.Fields) at4;have hm:=hm.more (y:=U J.b4 ql qD iK.aQ) at5;refine bQ wn (bF Tryz.underlying25 Tryz.sizeOf136 rfl (I.g rfl) (I.g rfl) anl aya) I rfl rfl fun a I=>?_
     refine bi 1 [0,0] [(14,.agg #[ao iK.Name,ao iK.bZ,.q l5 mf iK.Fields,.q ql qD iK.aQ])] [bG ag,bH ag+(p8).toNat* 4] (av atX aw) I fun a I=>cD (cs:=[ao [],ao [],.slice none 0 0,.slice none 0 0]) wn (eQ Tryz.zeroValue136 rfl rfl) I hm rfl rfl fun a akp w _ I hm=>cX (vs:=[ao iK.Name,ao iK.bZ,.q l5 mf iK.Fields,.q ql qD iK.aQ]) 0 hm rfl wn rfl Tryz.sizeOf136 rfl rfl rfl rfl (I.g rfl) (I.g rfl) rfl fun w hm=>wpList_nil <| dS _ _ <| wp_seq_k fun K dL=>aY ?_
     refine bi 1 [0,0] [(15,.agg #[ao iK.Name,ao iK.bZ,.q l5 mf iK.Fields,.q ql qD iK.aQ])] [akp,0] (av (a2 (hm.e 0 rfl)) aw) I fun a I=>?_;obtain ⟨C6,azp,h⟩:=J.aH h;have hc:=hm;refine bP (vs:=[.agg #[ao iK.Name,ao iK.bZ,.q l5 mf iK.Fields,.q ql qD iK.aQ]]) wn rfl Tryz.call98 ⟨(I.g rfl),trivial⟩ (aiV ((hc.into 0).pick ⟨⟨1,rfl⟩,⟨0,rfl⟩,trivial⟩) azp) I rfl rfl ?_;rintro _ w ⟨rfl,af⟩;refine ⟨_,rfl,fun a I=>?_⟩;have hm:=hc.back 0 af;clear af hc
     refine aN 1 [] [(5,.i C6)] I fun a I=>wpList_nil (dL _ _ ?_);refine bb [] [(18,.bool (!decide (C6= 0)))] I fun a I=>bk (I.g rfl) h (fun aov h=>?_) (fun aov h=>?_)
     · refine bt [] [(2,.i C6)] I fun a I=>wp_ret ?_;obtain rfl:=ay h;obtain rfl:=ay qX;refine a8 (aj (aj (a8 (aj (aj ?_)))));refine bq Tryz.results73 I rfl ?_;exact ⟨rfl,hm.aX [] []⟩
     refine wp_skip <| dC _ _ <| cg [] [(11,.i (J.ap (p8+ 1)))] I fun a I=>?_;exact cN _ _ ⟨J.ap (p8+ 1),I.cut,hm.aX [] [2],h⟩
   refine wp_exit <| bz (bz (cr ?_));exact dl _ _ ⟨I.cut,hm,(os h)⟩
 rintro a w ⟨I,hm,bc⟩;subst q4;have h:=qX;clear qX;dsimp only [J.dW] at h;refine cp _ _ <| bt [] [(2,.i 0)] I fun a I=>wp_ret ?_;obtain rfl:=ay h;refine bq Tryz.results73 I rfl ?_;exact ⟨rfl,hm.aX [] []⟩
theorem aa_ {W:World} {X:List Nat} {F:Nat} {m_:J.Method} {r:Int} {ag:aP} {ah:Nat} {aK:aP} {aO:Nat} {M0:List Nat} (hm:ar W M0 X W [] [U J.dt ag ah m_.bI,U J.eg aK aO m_.bK]) (h:J.y2 F m_=some r) :
 Calls Tryz.prog 148 [.agg #[ao m_.Name,.bool m_.Static,.q ag ah m_.bI,.i m_.Returns.Kind,ao m_.Returns.aM,.i m_.cR,.i m_.cQ,ao m_.Code,.q aK aO m_.bK]].toArray W (fun e aF=>e= .returned (.i r)/\ar W M0 X aF [] []):=by
 refine enter Tryz.func148 rfl Tryz.ntmps148 rfl fun a I=>?_;rw [J.y2] at h;refine wp_seq_k fun K c6=>aY <| cD (cs:=[ao m_.Name,.bool m_.Static,.q ag ah m_.bI,.i m_.Returns.Kind,ao m_.Returns.aM,.i m_.cR,.i m_.cQ,ao m_.Code,.q aK aO m_.bK]) wn (ei rfl rfl (I.g rfl)) I hm rfl rfl fun a cY w _ I hm=>aN 1 [] [] I fun a I=>wpList_nil (c6 _ _ ?_);refine wp_seq_k fun K bN=>wp_seq_k fun K cb=>aY <| bi 2 [0,0] [(7,ao m_.Name)] [cY,0] (av (a2 (hm.e 0 rfl)) aw) I fun a I=>?_;obtain ⟨dv,tZ,h⟩:=J.aH h;have hc:=hm
 refine bP (vs:=[ao m_.Name]) wn rfl Tryz.call146 ⟨(I.g rfl),trivial⟩ (zj ((hc.into 0).pick trivial) tZ) I rfl rfl ?_;rintro _ w ⟨rfl,af⟩;refine ⟨_,rfl,fun a I=>?_⟩;have hm:=hc.back 0 af;clear af hc;refine aN 1 [] [(9,.bool (!dv))] I fun a I=>wpList_nil (cb _ _ ?_);refine bk (I.g rfl) h (fun kZ h=>?_) (fun kZ h=>?_)
 · refine bt [] [(2,.i 1)] I fun a I=>wp_ret ?_;obtain rfl:=ay h;refine aj <| bq Tryz.results148 I rfl ?_;exact ⟨rfl,hm.aX [] []⟩
 refine wp_skip <| bN _ _ <| wp_seq_k fun K cp=>wp_seq_k fun K dE=>eE [0,2,0,0,0,7,0,0,0,0,0,0,8,0,0,0] [(25,.bool (((decide (4 <(m_.bI.length:Int))) || (decide (200 <(m_.Code.length:Int)))) || (decide (4 <(m_.bK.length:Int)))))] [cY,8,cY,7,cY,2] (av (a2 (hm.e 0 rfl)) aw) I fun a I=>dE _ _ <| bk (I.g rfl) h (fun qT h=>?_) (fun qT h=>?_)
 · refine bt [] [(2,.i 2)] I fun a I=>wp_ret ?_;obtain rfl:=ay h;refine aj <| bq Tryz.results148 I rfl ?_;exact ⟨rfl,hm.aX [] []⟩
 refine wp_skip <| cp _ _ <| wp_seq_k fun K cN=>wp_seq_k fun K dq=>aY <| bi 2 [0,5] [(27,.i m_.cR)] [cY,5] (av (a2 (hm.e 0 rfl)) aw) I fun a I=>?_;obtain ⟨hf,zZ,h⟩:=J.aH h;have hc:=hm;refine bP (vs:=[.i m_.cR,.i 0,.i 10]) wn rfl Tryz.call41 ⟨(I.g rfl),(cW _ _),(cW _ _),trivial⟩ (oj ((hc.into 0).pick trivial) zZ) I rfl rfl ?_;rintro _ w ⟨rfl,af⟩;refine ⟨_,rfl,fun a I=>?_⟩;have hm:=hc.back 0 af;clear af hc;refine aN 2 [] [(30,.bool (!hf))] I fun a I=>?_;rcases Bool.eq_false_or_eq_true (!hf) with gy | gy
 · have h:=J.dj gy h;have I:=I.b6 30 rfl gy;refine aN 5 [1,1,1,1,1] [(35,.bool true)] I fun a I=>wpList_nil (dq _ _ ?_);refine eG (I.g rfl) rfl <| bt [] [(2,.i 3)] I fun a I=>wp_ret ?_;obtain rfl:=ay h;refine aj <| bq Tryz.results148 I rfl ?_;exact ⟨rfl,hm.aX [] []⟩
 have h:=J.di gy h;have I:=I.b6 30 rfl gy;refine bi 2 [1,1,0,6] [(32,.i m_.cQ)] [cY,6] (av (a2 (hm.e 0 rfl)) aw) I fun a I=>?_;obtain ⟨l0,z1,h⟩:=J.aH h;have hc:=hm;refine bP (vs:=[.i m_.cQ,.i 0,.i 10]) (cV I rfl rfl rfl rfl) rfl Tryz.call41 ⟨(I.g rfl),(cW _ _),(cW _ _),trivial⟩ (oj ((hc.into 0).pick trivial) z1) I rfl rfl ?_;rintro _ w ⟨rfl,af⟩;refine ⟨_,rfl,fun a I=>?_⟩;have hm:=hc.back 0 af;clear af hc;refine aN 2 [1,1] [(35,.bool (!l0))] I fun a I=>wpList_nil (dq _ _ ?_);refine bk (I.g rfl) h (fun jn h=>?_) (fun jn h=>?_)
 · refine bt [] [(2,.i 3)] I fun a I=>wp_ret ?_;obtain rfl:=ay h;refine aj <| bq Tryz.results148 I rfl ?_;exact ⟨rfl,hm.aX [] []⟩
 refine wp_skip <| cN _ _ <| wp_seq_k fun K dS=>bb [] [(3,.i 0)] I fun a I=>?_;obtain ⟨VE,h,S5⟩:=J.dZ h;refine ca (fun a w=>Fr ⟨98,[]⟩ [(1,.aL cY)] a/\ar W M0 X w [aq.br cY 133 [ao m_.Name,.bool m_.Static,.q ag ah m_.bI,.i m_.Returns.Kind,ao m_.Returns.aM,.i m_.cR,.i m_.cQ,ao m_.Code,.q aK aO m_.bK]] [U J.dt ag ah m_.bI,U J.eg aK aO m_.bK]/\VE=(.go ())) (fun K ft=>?_) ?_
 · refine cw (fun (bu:Nat) a w=>∃ (oY:Int),Fr ⟨98,[]⟩ [(1,.aL cY),(3,.i oY)] a/\ar W M0 X w [aq.br cY 133 [ao m_.Name,.bool m_.Static,.q ag ah m_.bI,.i m_.Returns.Kind,ao m_.Returns.aM,.i m_.cR,.i m_.cQ,ao m_.Code,.q aK aO m_.bK]] [U J.dt ag ah m_.bI,U J.eg aK aO m_.bK]/\J.wk F m_ bu oY=some VE) F ⟨0,I.cut,hm,h⟩ ?_ ?_
   · rintro a w ⟨oY,I,hm,h⟩;exact absurd h (by simp [J.wk])
   rintro bu a w ⟨oY,I,hm,h⟩ K eX;rw [J.wk] at h;refine wp_seq_k fun K gx=>wp_seq_k fun K g9=>eE [0,2] [(40,.bool (decide (oY <(m_.bI.length:Int))))] [cY,2] (av (a2 (hm.e 0 rfl)) aw) I fun a I=>g9 _ _ <| bk (I.g rfl) h (fun aqX h=>?_) (fun aqX h=>?_)
   · refine wp_skip <| gx _ _ <| wp_seq_k fun K fu=>wp_block <| wp_seq_k fun K fK=>aY <| bi 3 [0,2] [(44,.q ag ah m_.bI),(45,.i oY)] [cY,2] (av (a2 (hm.e 0 rfl)) aw) I fun a I=>?_;obtain ⟨DB,aDF,h⟩:=J.aH h;obtain ⟨amX,axN,_,rfl,atx⟩:=bX _ (hm.d 0 rfl) aDF;refine bQ wn (bF Tryz.underlying130 Tryz.sizeOf103 rfl (I.g rfl) (I.g rfl) amX axN) I rfl rfl fun a I=>bi 1 [0,0] [(47,.agg #[.i DB.Kind,ao DB.aM])] [bG ag,bH ag+(oY).toNat* 2] (av atx aw) I fun a I=>?_;obtain ⟨XA,aAW,h⟩:=J.aH h;have hc:=hm
     refine bP (vs:=[.agg #[.i DB.Kind,ao DB.aM]]) wn rfl Tryz.call147 ⟨(I.g rfl),trivial⟩ (Kx ((hc.into 0).pick trivial) aAW) I rfl rfl ?_;rintro _ w ⟨rfl,af⟩;refine ⟨_,rfl,fun a I=>?_⟩;have hm:=hc.back 0 af;clear af hc;refine aN 1 [] [(49,.bool (!XA))] I fun a I=>wpList_nil (fK _ _ ?_);refine bk (I.g rfl) h (fun Rh h=>?_) (fun Rh h=>?_)
     · refine bt [] [(2,.i 7)] I fun a I=>wp_ret ?_;obtain rfl:=ay h;obtain rfl:=ay S5;refine a8 (aj (aj (a8 (aj (aj ?_)))));refine bq Tryz.results148 I rfl ?_;exact ⟨rfl,hm.aX [] []⟩
     refine wp_skip <| fu _ _ <| cg [] [(3,.i (J.ap (oY+ 1)))] I fun a I=>?_;exact eX _ _ ⟨J.ap (oY+ 1),I.cut,hm,h⟩
   refine wp_exit <| bz (bz (cr ?_));exact ft _ _ ⟨I.cut,hm,(os h)⟩
 rintro a w ⟨I,hm,bc⟩;subst VE;have h:=S5;clear S5;dsimp only [J.dW] at h;refine dS _ _ <| wp_seq_k fun K gm=>wp_seq_k fun K gK=>aY <| bi 2 [0,3] [(51,.agg #[.i m_.Returns.Kind,ao m_.Returns.aM])] [cY,3] (av (a2 (hm.e 0 rfl)) aw) I fun a I=>?_;obtain ⟨m7,Ul,h⟩:=J.aH h;have hc:=hm;refine bP (vs:=[.agg #[.i m_.Returns.Kind,ao m_.Returns.aM]]) wn rfl Tryz.call147 ⟨(I.g rfl),trivial⟩ (Kx ((hc.into 0).pick trivial) Ul) I rfl rfl ?_;rintro _ w ⟨rfl,af⟩;refine ⟨_,rfl,fun a I=>?_⟩;have hm:=hc.back 0 af;clear af hc
 refine bi 13 [0,0,0,0,3,0,0,0,0,0,0,4,0,0,0,0] [(65,.bool ((!m7) && ((!decide (m_.Returns.Kind= 0)) || (!decide (m_.Returns.aM= [])))))] [cY,4,cY,3] (av (a2 (hm.e 0 rfl)) aw) I fun a I=>wpList_nil (gK _ _ ?_);refine bk (I.g rfl) h (fun aq7 h=>?_) (fun aq7 h=>?_)
 · refine bt [] [(2,.i 7)] I fun a I=>wp_ret ?_;obtain rfl:=ay h;refine aj <| bq Tryz.results148 I rfl ?_;exact ⟨rfl,hm.aX [] []⟩
 refine wp_skip <| gm _ _ <| wp_seq_k fun K hX=>bb [] [(4,.i 0)] I fun a I=>?_;obtain ⟨US,h,Cu⟩:=J.dZ h;refine ca (fun a w=>Fr ⟨98,[]⟩ [] a/\ar W M0 X w [aq.br cY 133 [ao m_.Name,.bool m_.Static,.q ag ah m_.bI,.i m_.Returns.Kind,ao m_.Returns.aM,.i m_.cR,.i m_.cQ,ao m_.Code,.q aK aO m_.bK]] [U J.dt ag ah m_.bI,U J.eg aK aO m_.bK]/\US=(.go ())) (fun K hp=>?_) ?_
 · refine cw (fun (c7:Nat) a w=>∃ (oQ:Int),Fr ⟨98,[]⟩ [(1,.aL cY),(4,.i oQ)] a/\ar W M0 X w [aq.br cY 133 [ao m_.Name,.bool m_.Static,.q ag ah m_.bI,.i m_.Returns.Kind,ao m_.Returns.aM,.i m_.cR,.i m_.cQ,ao m_.Code,.q aK aO m_.bK]] [U J.dt ag ah m_.bI,U J.eg aK aO m_.bK]/\J.wl F m_ c7 oQ=some US) F ⟨0,I.cut,hm,h⟩ ?_ ?_
   · rintro a w ⟨oQ,I,hm,h⟩;exact absurd h (by simp [J.wl])
   rintro c7 a w ⟨oQ,I,hm,h⟩ K hq;rw [J.wl] at h;refine wp_seq_k fun K jC=>wp_seq_k fun K jl=>eE [0,8] [(70,.bool (decide (oQ <(m_.bK.length:Int))))] [cY,8] (av (a2 (hm.e 0 rfl)) aw) I fun a I=>jl _ _ <| bk (I.g rfl) h (fun ao7 h=>?_) (fun ao7 h=>?_)
   · refine wp_skip <| jC _ _ <| wp_seq_k fun K my=>wp_block <| wp_seq_k fun K jD=>aY <| bi 3 [0,8] [(74,.q aK aO m_.bK),(75,.i oQ)] [cY,8] (av (a2 (hm.e 0 rfl)) aw) I fun a I=>?_;obtain ⟨ju,aB6,h⟩:=J.aH h;obtain ⟨alg,av_,_,rfl,arT⟩:=bX _ (hm.d 1 rfl) aB6;refine bQ wn (bF Tryz.underlying131 Tryz.sizeOf150 rfl (I.g rfl) (I.g rfl) alg av_) I rfl rfl fun a I=>bi 1 [0,0] [(77,.agg #[.i ju.From,.i ju.To,.i ju.gT,ao ju.aM])] [bG aK,bH aK+(oQ).toNat* 4] (av arT aw) I fun a I=>?_
     refine cD (cs:=[.i 0,.i 0,.i 0,ao []]) wn (eQ Tryz.zeroValue150 rfl rfl) I hm rfl rfl fun a KQ w _ I hm=>cX (vs:=[.i ju.From,.i ju.To,.i ju.gT,ao ju.aM]) 0 hm rfl wn rfl Tryz.sizeOf150 rfl rfl rfl rfl (I.g rfl) (I.g rfl) rfl fun w hm=>wpList_nil <| jD _ _ <| wp_seq_k fun K jE=>wp_seq_k fun K j9=>aY <| bi 2 [0,3] [(79,ao ju.aM)] [KQ,3] (av (a2 (hm.e 0 rfl)) aw) I fun a I=>?_;obtain ⟨W2,azN,h⟩:=J.aH h;have hc:=hm
     refine bP (vs:=[ao ju.aM]) wn rfl Tryz.call146 ⟨(I.g rfl),trivial⟩ (zj ((hc.into 0).pick trivial) azN) I rfl rfl ?_;rintro _ w ⟨rfl,af⟩;refine ⟨_,rfl,fun a I=>?_⟩;have hm:=hc.back 0 af;clear af hc;refine aN 1 [] [(81,.bool (!W2))] I fun a I=>wpList_nil (j9 _ _ ?_);refine bk (I.g rfl) h (fun apd h=>?_) (fun apd h=>?_)
     · refine bt [] [(2,.i 1)] I fun a I=>wp_ret ?_;obtain rfl:=ay h;obtain rfl:=ay Cu;refine aj (a8 (aj (aj (a8 (aj (aj ?_))))));refine bq Tryz.results148 I rfl ?_;exact ⟨rfl,hm.aX [] []⟩
     refine wp_skip <| jE _ _ <| wp_seq_k fun K ny=>aY <| bi 2 [0,0] [(83,.i ju.From)] [KQ,0] (av (a2 (hm.e 0 rfl)) aw) I fun a I=>?_;obtain ⟨Mu,azP,h⟩:=J.aH h;have hc:=hm;refine bP (vs:=[.i ju.From,.i 0,.i 200]) wn rfl Tryz.call41 ⟨(I.g rfl),(cW _ _),(cW _ _),trivial⟩ (oj ((hc.into 0).pick trivial) azP) I rfl rfl ?_;rintro _ w ⟨rfl,af⟩;refine ⟨_,rfl,fun a I=>?_⟩;have hm:=hc.back 0 af;clear af hc;refine aN 2 [] [(86,.bool (!Mu))] I fun a I=>?_;rcases Bool.eq_false_or_eq_true (!Mu) with F0 | F0
     · have h:=J.dj F0 h;have I:=I.b6 86 rfl F0;refine aN 11 [1,1,1,1,1,1,1,1,1,1] [(97,.bool true)] I fun a I=>wpList_nil (ny _ _ ?_);refine eG (I.g rfl) rfl <| bt [] [(2,.i 3)] I fun a I=>wp_ret ?_;obtain rfl:=ay h;obtain rfl:=ay Cu;refine a8 (aj (aj (a8 (aj (aj ?_)))));refine bq Tryz.results148 I rfl ?_;exact ⟨rfl,hm.aX [] []⟩
     have h:=J.di F0 h;have I:=I.b6 86 rfl F0;refine bi 2 [1,1,0,1] [(88,.i ju.To)] [KQ,1] (av (a2 (hm.e 0 rfl)) aw) I fun a I=>?_;obtain ⟨Mv,azQ,h⟩:=J.aH h;have hc:=hm;refine bP (vs:=[.i ju.To,.i 0,.i 200]) (cV I rfl rfl rfl rfl) rfl Tryz.call41 ⟨(I.g rfl),(cW _ _),(cW _ _),trivial⟩ (oj ((hc.into 0).pick trivial) azQ) I rfl rfl ?_;rintro _ w ⟨rfl,af⟩;refine ⟨_,rfl,fun a I=>?_⟩;have hm:=hc.back 0 af;clear af hc;refine aN 3 [1,1] [(92,.bool (!Mv))] I fun a I=>?_;rcases Bool.eq_false_or_eq_true (!Mv) with F1 | F1
     · have h:=J.dj F1 h;have I:=I.b6 92 rfl F1;refine aN 5 [1,1,1,1,1] [(97,.bool true)] I fun a I=>wpList_nil (ny _ _ ?_);refine eG (I.g rfl) rfl <| bt [] [(2,.i 3)] I fun a I=>wp_ret ?_;obtain rfl:=ay h;obtain rfl:=ay Cu;refine a8 (aj (aj (a8 (aj (aj ?_)))));refine bq Tryz.results148 I rfl ?_;exact ⟨rfl,hm.aX [] []⟩
     have h:=J.di F1 h;have I:=I.b6 92 rfl F1;refine bi 2 [1,1,0,2] [(94,.i ju.gT)] [KQ,2] (av (a2 (hm.e 0 rfl)) aw) I fun a I=>?_;obtain ⟨W3,azS,h⟩:=J.aH h;have hc:=hm;refine bP (vs:=[.i ju.gT,.i 0,.i 200]) (cV I rfl rfl rfl rfl) rfl Tryz.call41 ⟨(I.g rfl),(cW _ _),(cW _ _),trivial⟩ (oj ((hc.into 0).pick trivial) azS) I rfl rfl ?_;rintro _ w ⟨rfl,af⟩;refine ⟨_,rfl,fun a I=>?_⟩;have hm:=hc.back 0 af;clear af hc;refine aN 2 [1,1] [(97,.bool (!W3))] I fun a I=>wpList_nil (ny _ _ ?_);refine bk (I.g rfl) h (fun aph h=>?_) (fun aph h=>?_)
     · refine bt [] [(2,.i 3)] I fun a I=>wp_ret ?_;obtain rfl:=ay h;obtain rfl:=ay Cu;refine a8 (aj (aj (a8 (aj (aj ?_)))));refine bq Tryz.results148 I rfl ?_;exact ⟨rfl,hm.aX [] []⟩
     refine wp_skip <| my _ _ <| cg [] [(4,.i (J.ap (oQ+ 1)))] I fun a I=>?_;exact hq _ _ ⟨J.ap (oQ+ 1),I.cut,(hm.kM [1] rfl rfl),h⟩
   refine wp_exit <| bz (bz (cr ?_));exact hp _ _ ⟨I.cut,hm,(os h)⟩
 rintro a w ⟨I,hm,bc⟩;subst US;have h:=Cu;clear Cu;dsimp only [J.dW] at h;refine hX _ _ <| bt [] [(2,.i 0)] I fun a I=>wp_ret ?_;obtain rfl:=ay h;refine bq Tryz.results148 I rfl ?_;exact ⟨rfl,hm.aX [] []⟩
theorem aip {W:World} {X:List Nat} {F:Nat} {aJ:List J.aM} {r:Int} {ag:aP} {ah:Nat} {M0:List Nat} (hm:ar W M0 X W [] [U J.a' ag ah aJ]) (h:J.Ey F aJ=some r) :
 Calls Tryz.prog 135 [.q ag ah aJ].toArray W (fun e aF=>e= .returned (.i r)/\ar W M0 X aF [] []):=by
 refine enter Tryz.func135 rfl Tryz.ntmps135 rfl fun a I=>?_;rw [J.Ey] at h;refine bb [] [] I fun a I=>wp_seq_k fun K bN=>bb [] [(10,.bool (decide (10 <(aJ.length:Int))))] I fun a I=>bk (I.g rfl) h (fun kY h=>?_) (fun kY h=>?_)
 · refine bt [] [(2,.i 2)] I fun a I=>wp_ret ?_;obtain rfl:=ay h;refine aj <| bq Tryz.results135 I rfl ?_;exact ⟨rfl,hm.aX [] []⟩
 refine wp_skip <| bN _ _ <| wp_seq_k fun K cp=>bb [] [(3,.i 0)] I fun a I=>?_;obtain ⟨Vg,h,pn⟩:=J.dZ h;refine ca (fun a w=>Fr ⟨85,[]⟩ [] a/\ar W M0 X w [] [U J.a' ag ah aJ]/\Vg=(.go ())) (fun K dl=>?_) ?_
 · refine cw (fun (bu:Nat) a w=>∃ (iX:Int),Fr ⟨85,[]⟩ [(0,.q ag ah aJ),(3,.i iX)] a/\ar W M0 X w [] [U J.a' ag ah aJ]/\J.vP F aJ bu iX=some Vg) F ⟨0,I.cut,hm,h⟩ ?_ ?_
   · rintro a w ⟨iX,I,hm,h⟩;exact absurd h (by simp [J.vP])
   rintro bu a w ⟨iX,I,hm,h⟩ K cN;rw [J.vP] at h;refine wp_seq_k fun K dq=>bb [] [(14,.bool (decide (iX <(aJ.length:Int))))] I fun a I=>bk (I.g rfl) h (fun aqa h=>?_) (fun aqa h=>?_)
   · refine wp_skip <| dq _ _ <| wp_seq_k fun K dC=>?_;obtain ⟨aem,h,po⟩:=J.eT h;refine ca (fun a w=>Fr ⟨85,[]⟩ [(0,.q ag ah aJ),(3,.i iX)] a/\ar W M0 X w [] [U J.a' ag ah aJ]/\aem=(.go ())) (fun K dS=>?_) ?_
     · refine wp_seq_k fun K dL=>aY <| aN 2 [] [(17,.q ag ah aJ),(18,.i iX)] I fun a I=>?_;obtain ⟨cv,aC6,h⟩:=J.aH h;obtain ⟨amk,axa,_,⟨gS,iu,hT,ji,rfl,auP,auQ⟩,asW⟩:=bX _ (hm.d 0 rfl) aC6;have hm:=hm.more (y:=U J.aW gS iu cv.Fields) auP;have hm:=hm.more (y:=U J.b4 hT ji cv.aQ) auQ;refine bQ wn (bF Tryz.underlying25 Tryz.sizeOf136 rfl (I.g rfl) (I.g rfl) amk axa) I rfl rfl fun a I=>?_
       refine bi 1 [0,0] [(20,.agg #[ao cv.Name,ao cv.bZ,.q gS iu cv.Fields,.q hT ji cv.aQ])] [bG ag,bH ag+(iX).toNat* 4] (av asW aw) I fun a I=>cD (cs:=[ao [],ao [],.slice none 0 0,.slice none 0 0]) wn (eQ Tryz.zeroValue136 rfl rfl) I hm rfl rfl fun a gX w _ I hm=>cX (vs:=[ao cv.Name,ao cv.bZ,.q gS iu cv.Fields,.q hT ji cv.aQ]) 0 hm rfl wn rfl Tryz.sizeOf136 rfl rfl rfl rfl (I.g rfl) (I.g rfl) rfl fun w hm=>wpList_nil <| dL _ _ <| wp_seq_k fun K ft=>?_
       refine wp_seq_k fun K eX=>aY <| bi 2 [0,0] [(22,ao cv.Name)] [gX,0] (av (a2 (hm.e 0 rfl)) aw) I fun a I=>?_;obtain ⟨MD,aAw,h⟩:=J.aH h;have hc:=hm;refine bP (vs:=[ao cv.Name]) wn rfl Tryz.call146 ⟨(I.g rfl),trivial⟩ (zj ((hc.into 0).pick trivial) aAw) I rfl rfl ?_;rintro _ w ⟨rfl,af⟩;refine ⟨_,rfl,fun a I=>?_⟩;have hm:=hc.back 0 af;clear af hc;refine aN 2 [] [(25,.bool (!MD))] I fun a I=>?_;rcases Bool.eq_false_or_eq_true (!MD) with Gq | Gq
       · have h:=J.dj Gq h;have I:=I.b6 25 rfl Gq;refine aN 10 [1,1,1,1,1,1,1,1,1,1] [(35,.bool true)] I fun a I=>wpList_nil (eX _ _ ?_);refine eG (I.g rfl) rfl <| bt [] [(2,.i 1)] I fun a I=>wp_ret ?_;obtain rfl:=ay h;obtain rfl:=ay po;obtain rfl:=ay pn;refine aj (a8 (aj (aj (aj (a8 (aj (aj ?_)))))));refine bq Tryz.results135 I rfl ?_;exact ⟨rfl,hm.aX [] []⟩
       have h:=J.di Gq h;have I:=I.b6 25 rfl Gq;refine bi 4 [1,1,0,1,1,1] [(29,.bool (!decide (cv.bZ= [])))] [gX,1] (av (a2 (hm.e 0 rfl)) aw) I fun a I=>?_;rcases Bool.eq_false_or_eq_true (!decide (cv.bZ= [])) with Gr | Gr
       · have h:=J.dj Gr h;have I:=I.b6 29 rfl Gr;refine bi 2 [1,1,0,1] [(31,ao cv.bZ)] [gX,1] (av (a2 (hm.e 0 rfl)) aw) I fun a I=>?_;obtain ⟨Xn,aAx,h⟩:=J.aH h;have hc:=hm;refine bP (vs:=[ao cv.bZ]) (cV I rfl rfl rfl rfl) rfl Tryz.call146 ⟨(I.g rfl),trivial⟩ (zj ((hc.into 0).pick trivial) aAx) I rfl rfl ?_;rintro _ w ⟨rfl,af⟩;refine ⟨_,rfl,fun a I=>?_⟩;have hm:=hc.back 0 af;clear af hc;refine aN 3 [1,1,1,1] [(35,.bool (!Xn))] I fun a I=>wpList_nil (eX _ _ ?_);refine bk (I.g rfl) h (fun aqh h=>?_) (fun aqh h=>?_)
         · refine bt [] [(2,.i 1)] I fun a I=>wp_ret ?_;obtain rfl:=ay h;obtain rfl:=ay po;obtain rfl:=ay pn;refine aj (a8 (aj (aj (aj (a8 (aj (aj ?_)))))));refine bq Tryz.results135 I rfl ?_;exact ⟨rfl,hm.aX [] []⟩
         refine wp_skip <| ft _ _ <| wp_seq_k fun K fu=>wp_seq_k fun K fK=>eE [0,2,0,0,0,3,0,0,0] [(45,.bool ((decide (6 <(cv.Fields.length:Int))) || (decide (8 <(cv.aQ.length:Int)))))] [gX,3,gX,2] (av (a2 (hm.e 0 rfl)) aw) I fun a I=>fK _ _ <| bk (I.g rfl) h (fun aqi h=>?_) (fun aqi h=>?_)
         · refine bt [] [(2,.i 2)] I fun a I=>wp_ret ?_;obtain rfl:=ay h;obtain rfl:=ay po;obtain rfl:=ay pn;refine aj (a8 (aj (aj (aj (a8 (aj (aj ?_)))))));refine bq Tryz.results135 I rfl ?_;exact ⟨rfl,hm.aX [] []⟩
         refine wp_skip <| fu _ _ <| wp_seq_k fun K gm=>bb [] [(5,.i 0)] I fun a I=>?_;obtain ⟨VI,h,Lh⟩:=J.eT h;refine ca (fun a w=>Fr ⟨85,[]⟩ [(0,.q ag ah aJ),(3,.i iX),(4,.aL gX)] a/\ar W M0 X w [aq.br gX 136 [ao cv.Name,ao cv.bZ,.q gS iu cv.Fields,.q hT ji cv.aQ]] [U J.b4 hT ji cv.aQ,U J.aW gS iu cv.Fields,U J.a' ag ah aJ]/\VI=(.go ())) (fun K hB=>?_) ?_
         · refine cw (fun (c7:Nat) a w=>∃ (lU:Int),Fr ⟨85,[]⟩ [(0,.q ag ah aJ),(3,.i iX),(4,.aL gX),(5,.i lU)] a/\ar W M0 X w [aq.br gX 136 [ao cv.Name,ao cv.bZ,.q gS iu cv.Fields,.q hT ji cv.aQ]] [U J.b4 hT ji cv.aQ,U J.aW gS iu cv.Fields,U J.a' ag ah aJ]/\J.vQ F cv c7 lU=some VI) F ⟨0,I.cut,hm,h⟩ ?_ ?_
           · rintro a w ⟨lU,I,hm,h⟩;exact absurd h (by simp [J.vQ])
           rintro c7 a w ⟨lU,I,hm,h⟩ K hX;rw [J.vQ] at h;refine wp_seq_k fun K ho=>wp_seq_k fun K hp=>eE [0,2] [(50,.bool (decide (lU <(cv.Fields.length:Int))))] [gX,2] (av (a2 (hm.e 0 rfl)) aw) I fun a I=>hp _ _ <| bk (I.g rfl) h (fun aql h=>?_) (fun aql h=>?_)
           · refine wp_skip <| ho _ _ <| wp_seq_k fun K hq=>wp_block <| wp_seq_k fun K jC=>wp_seq_k fun K jl=>aY <| bi 3 [0,2] [(54,.q gS iu cv.Fields),(55,.i lU)] [gX,2] (av (a2 (hm.e 0 rfl)) aw) I fun a I=>?_;obtain ⟨NM,aC_,h⟩:=J.aH h;obtain ⟨amn,axd,_,rfl,asZ⟩:=bX _ (hm.d 1 rfl) aC_;refine bQ wn (bF Tryz.underlying106 Tryz.sizeOf105 rfl (I.g rfl) (I.g rfl) amn axd) I rfl rfl fun a I=>bi 2 [0,0] [(58,ao NM.Name)] [bG gS,bH gS+(lU).toNat* 3 + 0] (av asZ aw) I fun a I=>?_;obtain ⟨Xp,aAA,h⟩:=J.aH h;have hc:=hm
             refine bP (vs:=[ao NM.Name]) wn rfl Tryz.call146 ⟨(I.g rfl),trivial⟩ (zj ((hc.into 0).pick trivial) aAA) I rfl rfl ?_;rintro _ w ⟨rfl,af⟩;refine ⟨_,rfl,fun a I=>?_⟩;have hm:=hc.back 0 af;clear af hc;refine aN 1 [] [(60,.bool (!Xp))] I fun a I=>wpList_nil (jl _ _ ?_);refine bk (I.g rfl) h (fun aqn h=>?_) (fun aqn h=>?_)
             · refine bt [] [(2,.i 1)] I fun a I=>wp_ret ?_;obtain rfl:=ay h;obtain rfl:=ay Lh;obtain rfl:=ay po;obtain rfl:=ay pn;refine aj (a8 (aj (aj (a8 (aj (aj (a8 (aj (aj (aj (a8 (aj (aj ?_)))))))))))));refine bq Tryz.results135 I rfl ?_;exact ⟨rfl,hm.aX [] []⟩
             refine wp_skip <| jC _ _ <| wp_seq_k fun K jD=>aY <| bi 3 [0,2] [(62,.q gS iu cv.Fields),(63,.i lU)] [gX,2] (av (a2 (hm.e 0 rfl)) aw) I fun a I=>?_;obtain ⟨AU,aC',h⟩:=J.aH h;obtain ⟨amo,axe,_,rfl,as0⟩:=bX _ (hm.d 1 rfl) aC';refine bQ wn (bF Tryz.underlying106 Tryz.sizeOf105 rfl (I.g rfl) (I.g rfl) amo axe) I rfl rfl fun a I=>bi 2 [0,1] [(66,.agg #[.i AU.Kind.Kind,ao AU.Kind.aM])] [bG gS,bH gS+(lU).toNat* 3 + 1] (av as0 aw) I fun a I=>?_;obtain ⟨Xq,aAB,h⟩:=J.aH h;have hc:=hm
             refine bP (vs:=[.agg #[.i AU.Kind.Kind,ao AU.Kind.aM]]) wn rfl Tryz.call147 ⟨(I.g rfl),trivial⟩ (Kx ((hc.into 0).pick trivial) aAB) I rfl rfl ?_;rintro _ w ⟨rfl,af⟩;refine ⟨_,rfl,fun a I=>?_⟩;have hm:=hc.back 0 af;clear af hc;refine aN 1 [] [(68,.bool (!Xq))] I fun a I=>wpList_nil (jD _ _ ?_);refine bk (I.g rfl) h (fun aqo h=>?_) (fun aqo h=>?_)
             · refine bt [] [(2,.i 7)] I fun a I=>wp_ret ?_;obtain rfl:=ay h;obtain rfl:=ay Lh;obtain rfl:=ay po;obtain rfl:=ay pn;refine a8 (aj (aj (a8 (aj (aj (a8 (aj (aj (aj (a8 (aj (aj ?_))))))))))));refine bq Tryz.results135 I rfl ?_;exact ⟨rfl,hm.aX [] []⟩
             refine wp_skip <| hq _ _ <| cg [] [(5,.i (J.ap (lU+ 1)))] I fun a I=>?_;exact hX _ _ ⟨J.ap (lU+ 1),I.cut,hm,h⟩
           refine wp_exit <| bz (bz (cr ?_));exact hB _ _ ⟨I.cut,hm,(os h)⟩
         rintro a w ⟨I,hm,bc⟩;subst VI;have h:=Lh;clear Lh;dsimp only [J.eN] at h;refine gm _ _ <| bb [] [(6,.i 0)] I fun a I=>?_;obtain ⟨VK,h,S'⟩:=J.eT h;refine ca (fun a w=>Fr ⟨85,[]⟩ [(0,.q ag ah aJ),(3,.i iX)] a/\ar W M0 X w [aq.br gX 136 [ao cv.Name,ao cv.bZ,.q gS iu cv.Fields,.q hT ji cv.aQ]] [U J.b4 hT ji cv.aQ,U J.aW gS iu cv.Fields,U J.a' ag ah aJ]/\VK=(.go ())) (fun K j_=>?_) ?_
         · refine cw (fun (et:Nat) a w=>∃ (oV:Int),Fr ⟨85,[]⟩ [(0,.q ag ah aJ),(3,.i iX),(4,.aL gX),(6,.i oV)] a/\ar W M0 X w [aq.br gX 136 [ao cv.Name,ao cv.bZ,.q gS iu cv.Fields,.q hT ji cv.aQ]] [U J.b4 hT ji cv.aQ,U J.aW gS iu cv.Fields,U J.a' ag ah aJ]/\J.vR F cv et oV=some VK) F ⟨0,I.cut,hm,h⟩ ?_ ?_
           · rintro a w ⟨oV,I,hm,h⟩;exact absurd h (by simp [J.vR])
           rintro et a w ⟨oV,I,hm,h⟩ K ny;rw [J.vR] at h;refine wp_seq_k fun K ot=>wp_seq_k fun K lF=>eE [0,3] [(73,.bool (decide (oV <(cv.aQ.length:Int))))] [gX,3] (av (a2 (hm.e 0 rfl)) aw) I fun a I=>lF _ _ <| bk (I.g rfl) h (fun aqq h=>?_) (fun aqq h=>?_)
           · refine wp_skip <| ot _ _ <| wp_seq_k fun K ou=>wp_block <| wp_seq_k fun K lG=>aY <| bi 3 [0,3] [(77,.q hT ji cv.aQ),(78,.i oV)] [gX,3] (av (a2 (hm.e 0 rfl)) aw) I fun a I=>?_;obtain ⟨jb,aDc,h⟩:=J.aH h;obtain ⟨amr,axg,_,⟨Pb,PR,Pc,PS,rfl,auV,auW⟩,as2⟩:=bX _ (hm.d 0 rfl) aDc;have hm:=hm.more (y:=U J.dt Pb PR jb.bI) auV;have hm:=hm.more (y:=U J.eg Pc PS jb.bK) auW
             refine bQ wn (bF Tryz.underlying134 Tryz.sizeOf133 rfl (I.g rfl) (I.g rfl) amr axg) I rfl rfl fun a I=>bi 1 [0,0] [(80,.agg #[ao jb.Name,.bool jb.Static,.q Pb PR jb.bI,.i jb.Returns.Kind,ao jb.Returns.aM,.i jb.cR,.i jb.cQ,ao jb.Code,.q Pc PS jb.bK])] [bG hT,bH hT+(oV).toNat* 9] (av as2 aw) I fun a I=>?_;obtain ⟨Da,aAC,h⟩:=J.aH h;have hc:=hm
             refine bP (vs:=[.agg #[ao jb.Name,.bool jb.Static,.q Pb PR jb.bI,.i jb.Returns.Kind,ao jb.Returns.aM,.i jb.cR,.i jb.cQ,ao jb.Code,.q Pc PS jb.bK]]) wn rfl Tryz.call148 ⟨(I.g rfl),trivial⟩ (aa_ ((hc.into 0).pick ⟨⟨1,rfl⟩,⟨0,rfl⟩,trivial⟩) aAC) I rfl rfl ?_;rintro _ w ⟨rfl,af⟩;refine ⟨_,rfl,fun a I=>?_⟩;have hm:=hc.back 0 af;clear af hc;refine aN 1 [] [(7,.i Da)] I fun a I=>wpList_nil (lG _ _ ?_);refine bb [] [(83,.bool (!decide (Da= 0)))] I fun a I=>?_
             refine bk (I.g rfl) h (fun aqr h=>?_) (fun aqr h=>?_)
             · refine bt [] [(2,.i Da)] I fun a I=>wp_ret ?_;obtain rfl:=ay h;obtain rfl:=ay S';obtain rfl:=ay po;obtain rfl:=ay pn;refine a8 (aj (aj (a8 (aj (a8 (aj (aj (aj (a8 (aj (aj ?_)))))))))));refine bq Tryz.results135 I rfl ?_;exact ⟨rfl,hm.aX [] []⟩
             refine wp_skip <| ou _ _ <| cg [] [(6,.i (J.ap (oV+ 1)))] I fun a I=>?_;exact ny _ _ ⟨J.ap (oV+ 1),I.cut,hm.eA [2,3,4],h⟩
           refine wp_exit <| bz (bz (cr ?_));exact j_ _ _ ⟨I.cut,hm,(os h)⟩
         rintro a w ⟨I,hm,bc⟩;subst VK;have h:=S';clear S';dsimp only [J.eN] at h;exact dS _ _ ⟨I.cut,hm.aX [] [2],(os h)⟩
       have h:=J.di Gr h;have I:=I.b6 29 rfl Gr;refine aN 6 [1,1,1,1,1,1,1] [(35,.bool false)] I fun a I=>wpList_nil (eX _ _ ?_);refine hW (I.g rfl) rfl <| wp_skip <| ft _ _ <| wp_seq_k fun K zv=>wp_seq_k fun K mA=>eE [0,2,0,0,0,3,0,0,0] [(45,.bool ((decide (6 <(cv.Fields.length:Int))) || (decide (8 <(cv.aQ.length:Int)))))] [gX,3,gX,2] (av (a2 (hm.e 0 rfl)) aw) I fun a I=>mA _ _ <| bk (I.g rfl) h (fun aqs h=>?_) (fun aqs h=>?_)
       · refine bt [] [(2,.i 2)] I fun a I=>wp_ret ?_;obtain rfl:=ay h;obtain rfl:=ay po;obtain rfl:=ay pn;refine aj (a8 (aj (aj (aj (a8 (aj (aj ?_)))))));refine bq Tryz.results135 I rfl ?_;exact ⟨rfl,hm.aX [] []⟩
       refine wp_skip <| zv _ _ <| wp_seq_k fun K qO=>bb [] [(5,.i 0)] I fun a I=>?_;obtain ⟨VM,h,Li⟩:=J.eT h;refine ca (fun a w=>Fr ⟨85,[]⟩ [(0,.q ag ah aJ),(3,.i iX),(4,.aL gX)] a/\ar W M0 X w [aq.br gX 136 [ao cv.Name,ao cv.bZ,.q gS iu cv.Fields,.q hT ji cv.aQ]] [U J.b4 hT ji cv.aQ,U J.aW gS iu cv.Fields,U J.a' ag ah aJ]/\VM=(.go ())) (fun K ow=>?_) ?_
       · refine cw (fun (fy:Nat) a w=>∃ (lV:Int),Fr ⟨85,[]⟩ [(0,.q ag ah aJ),(3,.i iX),(4,.aL gX),(5,.i lV)] a/\ar W M0 X w [aq.br gX 136 [ao cv.Name,ao cv.bZ,.q gS iu cv.Fields,.q hT ji cv.aQ]] [U J.b4 hT ji cv.aQ,U J.aW gS iu cv.Fields,U J.a' ag ah aJ]/\J.vS F cv fy lV=some VM) F ⟨0,I.cut,hm,h⟩ ?_ ?_
         · rintro a w ⟨lV,I,hm,h⟩;exact absurd h (by simp [J.vS])
         rintro fy a w ⟨lV,I,hm,h⟩ K mB;rw [J.vS] at h;refine wp_seq_k fun K r_=>wp_seq_k fun K tC=>eE [0,2] [(50,.bool (decide (lV <(cv.Fields.length:Int))))] [gX,2] (av (a2 (hm.e 0 rfl)) aw) I fun a I=>tC _ _ <| bk (I.g rfl) h (fun aqt h=>?_) (fun aqt h=>?_)
         · refine wp_skip <| r_ _ _ <| wp_seq_k fun K tD=>wp_block <| wp_seq_k fun K r'=>wp_seq_k fun K tE=>aY <| bi 3 [0,2] [(54,.q gS iu cv.Fields),(55,.i lV)] [gX,2] (av (a2 (hm.e 0 rfl)) aw) I fun a I=>?_;obtain ⟨NN,aDd,h⟩:=J.aH h;obtain ⟨amt,axi,_,rfl,as3⟩:=bX _ (hm.d 1 rfl) aDd;refine bQ wn (bF Tryz.underlying106 Tryz.sizeOf105 rfl (I.g rfl) (I.g rfl) amt axi) I rfl rfl fun a I=>bi 2 [0,0] [(58,ao NN.Name)] [bG gS,bH gS+(lV).toNat* 3 + 0] (av as3 aw) I fun a I=>?_;obtain ⟨Xs,aAE,h⟩:=J.aH h;have hc:=hm
           refine bP (vs:=[ao NN.Name]) wn rfl Tryz.call146 ⟨(I.g rfl),trivial⟩ (zj ((hc.into 0).pick trivial) aAE) I rfl rfl ?_;rintro _ w ⟨rfl,af⟩;refine ⟨_,rfl,fun a I=>?_⟩;have hm:=hc.back 0 af;clear af hc;refine aN 1 [] [(60,.bool (!Xs))] I fun a I=>wpList_nil (tE _ _ ?_);refine bk (I.g rfl) h (fun aqu h=>?_) (fun aqu h=>?_)
           · refine bt [] [(2,.i 1)] I fun a I=>wp_ret ?_;obtain rfl:=ay h;obtain rfl:=ay Li;obtain rfl:=ay po;obtain rfl:=ay pn;refine aj (a8 (aj (aj (a8 (aj (aj (a8 (aj (aj (aj (a8 (aj (aj ?_)))))))))))));refine bq Tryz.results135 I rfl ?_;exact ⟨rfl,hm.aX [] []⟩
           refine wp_skip <| r' _ _ <| wp_seq_k fun K tF=>aY <| bi 3 [0,2] [(62,.q gS iu cv.Fields),(63,.i lV)] [gX,2] (av (a2 (hm.e 0 rfl)) aw) I fun a I=>?_;obtain ⟨AV,aDe,h⟩:=J.aH h;obtain ⟨amu,axj,_,rfl,as4⟩:=bX _ (hm.d 1 rfl) aDe;refine bQ wn (bF Tryz.underlying106 Tryz.sizeOf105 rfl (I.g rfl) (I.g rfl) amu axj) I rfl rfl fun a I=>bi 2 [0,1] [(66,.agg #[.i AV.Kind.Kind,ao AV.Kind.aM])] [bG gS,bH gS+(lV).toNat* 3 + 1] (av as4 aw) I fun a I=>?_;obtain ⟨Xt,aAF,h⟩:=J.aH h;have hc:=hm
           refine bP (vs:=[.agg #[.i AV.Kind.Kind,ao AV.Kind.aM]]) wn rfl Tryz.call147 ⟨(I.g rfl),trivial⟩ (Kx ((hc.into 0).pick trivial) aAF) I rfl rfl ?_;rintro _ w ⟨rfl,af⟩;refine ⟨_,rfl,fun a I=>?_⟩;have hm:=hc.back 0 af;clear af hc;refine aN 1 [] [(68,.bool (!Xt))] I fun a I=>wpList_nil (tF _ _ ?_);refine bk (I.g rfl) h (fun aqv h=>?_) (fun aqv h=>?_)
           · refine bt [] [(2,.i 7)] I fun a I=>wp_ret ?_;obtain rfl:=ay h;obtain rfl:=ay Li;obtain rfl:=ay po;obtain rfl:=ay pn;refine a8 (aj (aj (a8 (aj (aj (a8 (aj (aj (aj (a8 (aj (aj ?_))))))))))));refine bq Tryz.results135 I rfl ?_;exact ⟨rfl,hm.aX [] []⟩
           refine wp_skip <| tD _ _ <| cg [] [(5,.i (J.ap (lV+ 1)))] I fun a I=>?_;exact mB _ _ ⟨J.ap (lV+ 1),I.cut,hm,h⟩
         refine wp_exit <| bz (bz (cr ?_));exact ow _ _ ⟨I.cut,hm,(os h)⟩
       rintro a w ⟨I,hm,bc⟩;subst VM;have h:=Li;clear Li;dsimp only [J.eN] at h;refine qO _ _ <| bb [] [(6,.i 0)] I fun a I=>?_;obtain ⟨VO,h,Tc⟩:=J.eT h;refine ca (fun a w=>Fr ⟨85,[]⟩ [(0,.q ag ah aJ),(3,.i iX)] a/\ar W M0 X w [aq.br gX 136 [ao cv.Name,ao cv.bZ,.q gS iu cv.Fields,.q hT ji cv.aQ]] [U J.b4 hT ji cv.aQ,U J.aW gS iu cv.Fields,U J.a' ag ah aJ]/\VO=(.go ())) (fun K xm=>?_) ?_
       · refine cw (fun (hZ:Nat) a w=>∃ (oW:Int),Fr ⟨85,[]⟩ [(0,.q ag ah aJ),(3,.i iX),(4,.aL gX),(6,.i oW)] a/\ar W M0 X w [aq.br gX 136 [ao cv.Name,ao cv.bZ,.q gS iu cv.Fields,.q hT ji cv.aQ]] [U J.b4 hT ji cv.aQ,U J.aW gS iu cv.Fields,U J.a' ag ah aJ]/\J.vT F cv hZ oW=some VO) F ⟨0,I.cut,hm,h⟩ ?_ ?_
         · rintro a w ⟨oW,I,hm,h⟩;exact absurd h (by simp [J.vT])
         rintro hZ a w ⟨oW,I,hm,h⟩ K zw;rw [J.vT] at h;refine wp_seq_k fun K tG=>wp_seq_k fun K an7=>eE [0,3] [(73,.bool (decide (oW <(cv.aQ.length:Int))))] [gX,3] (av (a2 (hm.e 0 rfl)) aw) I fun a I=>an7 _ _ <| bk (I.g rfl) h (fun aqz h=>?_) (fun aqz h=>?_)
         · refine wp_skip <| tG _ _ <| wp_seq_k fun K zx=>wp_block <| wp_seq_k fun K xn=>aY <| bi 3 [0,3] [(77,.q hT ji cv.aQ),(78,.i oW)] [gX,3] (av (a2 (hm.e 0 rfl)) aw) I fun a I=>?_;obtain ⟨jc,aDf,h⟩:=J.aH h;obtain ⟨amv,axl,_,⟨Pd,PT,Pf,PU,rfl,auZ,au0⟩,as6⟩:=bX _ (hm.d 0 rfl) aDf;have hm:=hm.more (y:=U J.dt Pd PT jc.bI) auZ;have hm:=hm.more (y:=U J.eg Pf PU jc.bK) au0
           refine bQ wn (bF Tryz.underlying134 Tryz.sizeOf133 rfl (I.g rfl) (I.g rfl) amv axl) I rfl rfl fun a I=>bi 1 [0,0] [(80,.agg #[ao jc.Name,.bool jc.Static,.q Pd PT jc.bI,.i jc.Returns.Kind,ao jc.Returns.aM,.i jc.cR,.i jc.cQ,ao jc.Code,.q Pf PU jc.bK])] [bG hT,bH hT+(oW).toNat* 9] (av as6 aw) I fun a I=>?_;obtain ⟨Db,aAH,h⟩:=J.aH h;have hc:=hm
           refine bP (vs:=[.agg #[ao jc.Name,.bool jc.Static,.q Pd PT jc.bI,.i jc.Returns.Kind,ao jc.Returns.aM,.i jc.cR,.i jc.cQ,ao jc.Code,.q Pf PU jc.bK]]) wn rfl Tryz.call148 ⟨(I.g rfl),trivial⟩ (aa_ ((hc.into 0).pick ⟨⟨1,rfl⟩,⟨0,rfl⟩,trivial⟩) aAH) I rfl rfl ?_;rintro _ w ⟨rfl,af⟩;refine ⟨_,rfl,fun a I=>?_⟩;have hm:=hc.back 0 af;clear af hc;refine aN 1 [] [(7,.i Db)] I fun a I=>wpList_nil (xn _ _ ?_);refine bb [] [(83,.bool (!decide (Db= 0)))] I fun a I=>?_
           refine bk (I.g rfl) h (fun aqA h=>?_) (fun aqA h=>?_)
           · refine bt [] [(2,.i Db)] I fun a I=>wp_ret ?_;obtain rfl:=ay h;obtain rfl:=ay Tc;obtain rfl:=ay po;obtain rfl:=ay pn;refine a8 (aj (aj (a8 (aj (a8 (aj (aj (aj (a8 (aj (aj ?_)))))))))));refine bq Tryz.results135 I rfl ?_;exact ⟨rfl,hm.aX [] []⟩
           refine wp_skip <| zx _ _ <| cg [] [(6,.i (J.ap (oW+ 1)))] I fun a I=>?_;exact zw _ _ ⟨J.ap (oW+ 1),I.cut,hm.eA [2,3,4],h⟩
         refine wp_exit <| bz (bz (cr ?_));exact xm _ _ ⟨I.cut,hm,(os h)⟩
       rintro a w ⟨I,hm,bc⟩;subst VO;have h:=Tc;clear Tc;dsimp only [J.eN] at h;exact dS _ _ ⟨I.cut,hm.aX [] [2],(os h)⟩
     rintro a w ⟨I,hm,bc⟩;subst aem;have h:=po;clear po;dsimp only [J.eN] at h;refine dC _ _ <| cg [] [(3,.i (J.ap (iX+ 1)))] I fun a I=>?_;exact cN _ _ ⟨J.ap (iX+ 1),I.cut,hm,h⟩
   refine wp_exit <| bz (bz (cr ?_));exact dl _ _ ⟨I.cut,hm,(os h)⟩
 rintro a w ⟨I,hm,bc⟩;subst Vg;have h:=pn;clear pn;dsimp only [J.dW] at h;refine cp _ _ <| bt [] [(2,.i 0)] I fun a I=>wp_ret ?_;obtain rfl:=ay h;refine bq Tryz.results135 I rfl ?_;exact ⟨rfl,hm.aX [] []⟩
end Go.Proofs.YtpkhpagplommoaaGreat
namespace J
def n9 (a_:List Kind) (b_:List Kind):Nat->Int->Option (Way (Bool) (Unit))
 | 0,_=>none
 | bu+ 1,cd=>
   cond (decide (cd <(a_.length:Int))) ((idx a_ cd).bind fun fa=>
   (idx b_ cd).bind fun fl=>
   cond (!decide (fa=fl)) (some (.out false)) (n9 a_ b_ bu (ap (cd+ 1)))) (some (.go ()))
def s8 (F:Nat) (a_:List Kind) (b_:List Kind):Option (Bool):=
 cond (!decide ((a_.length:Int)=(b_.length:Int))) (some false) (dr (α:=Unit) (n9 a_ b_ F 0) fun (_:Unit)=>
 some true)
def wy (a_:List Field) (b_:List Field):Nat->Int->Option (Way (Bool) (Unit))
 | 0,_=>none
 | bu+ 1,cd=>
   cond (decide (cd <(a_.length:Int))) ((idx a_ cd).bind fun fa=>
   (idx b_ cd).bind fun fl=>
   cond (!decide (fa=fl)) (some (.out false)) (wy a_ b_ bu (ap (cd+ 1)))) (some (.go ()))
def BA (F:Nat) (a_:List Field) (b_:List Field):Option (Bool):=
 cond (!decide ((a_.length:Int)=(b_.length:Int))) (some false) (dr (α:=Unit) (wy a_ b_ F 0) fun (_:Unit)=>
 some true)
def wx (dA:Method) (dF:Method):Nat->Int->Option (Way (Bool) (Unit))
 | 0,_=>none
 | et+ 1,la=>
   cond (decide (la <(dA.bK.length:Int))) ((idx dA.bK la).bind fun AM=>
   (idx dF.bK la).bind fun AN=>
   cond (!decide (AM=AN)) (some (.out false)) (wx dA dF et (ap (la+ 1)))) (some (.go ()))
def ww (F:Nat) (eh:aM) (ew:aM):Nat->Int->Option (Way (Bool) (Unit))
 | 0,_=>none
 | c7+ 1,jM=>
   cond (decide (jM <(eh.aQ.length:Int))) (dY (α:=Unit) ((idx eh.aQ jM).bind fun dA=>
   (idx ew.aQ jM).bind fun dF=>
   cond ((!decide (dA.Name=dF.Name)) || (!(dA.Static == dF.Static))) (some (.out false)) ((s8 F dA.bI dF.bI).bind fun Mq=>
   cond (!Mq) (some (.out false)) (cond (((((!decide ((⟨dA.Returns.Kind,dA.Returns.aM⟩:Kind)=(⟨dF.Returns.Kind,dF.Returns.aM⟩:Kind))) || (!decide (dA.cR=dF.cR))) || (!decide (dA.cQ=dF.cQ))) || (!decide (dA.Code=dF.Code))) || (!decide ((dA.bK.length:Int)=(dF.bK.length:Int)))) (some (.out false)) (dY (α:=Unit) (wx dA dF F 0) fun (_:Unit)=>
   some (.go ()))))) fun (_:Unit)=>
   ww F eh ew c7 (ap (jM+ 1))) (some (.go ()))
def wv (F:Nat) (a_:List aM) (b_:List aM):Nat->Int->Option (Way (Bool) (Unit))
 | 0,_=>none
 | bu+ 1,iC=>
   cond (decide (iC <(a_.length:Int))) (dY (α:=Unit) ((idx a_ iC).bind fun eh=>
   (idx b_ iC).bind fun ew=>
   cond ((!decide (eh.Name=ew.Name)) || (!decide (eh.bZ=ew.bZ))) (some (.out false)) ((BA F eh.Fields ew.Fields).bind fun WW=>
   cond ((!WW) || (!decide ((eh.aQ.length:Int)=(ew.aQ.length:Int)))) (some (.out false)) (dY (α:=Unit) (ww F eh ew F 0) fun (_:Unit)=>
   some (.go ())))) fun (_:Unit)=>
   wv F a_ b_ bu (ap (iC+ 1))) (some (.go ()))
def Bz (F:Nat) (a_:List aM) (b_:List aM):Option (Bool):=
 cond (!decide ((a_.length:Int)=(b_.length:Int))) (some false) (dr (α:=Unit) (wv F a_ b_ F 0) fun (_:Unit)=>
 some true)
def wz (a_:bs) (b_:bs):Nat->Int->Option (Way (Bool) (Unit))
 | 0,_=>none
 | bu+ 1,lX=>
   cond (decide (lX <(a_.aA.length:Int))) ((idx a_.aA lX).bind fun Nb=>
   (idx b_.aA lX).bind fun vh=>
   cond (!decide (Nb=vh)) (some (.out false)) (wz a_ b_ bu (ap (lX+ 1)))) (some (.go ()))
def wA (F:Nat) (a_:bs) (b_:bs):Nat->Int->Option (Way (Bool) (Unit))
 | 0,_=>none
 | c7+ 1,lR=>
   cond (decide (lR <(a_.Fields.length:Int))) ((idx a_.Fields lR).bind fun Dr=>
   (idx b_.Fields lR).bind fun Dt=>
   (BA F Dr Dt).bind fun W5=>
   cond (!W5) (some (.out false)) (wA F a_ b_ c7 (ap (lR+ 1)))) (some (.go ()))
def wC (a_:bs) (b_:bs) (gM:Int):Nat->Int->Option (Way (Bool) (Unit))
 | 0,_=>none
 | fy+ 1,lc=>
   (idx a_.Names gM).bind fun Nr=>
   cond (decide (lc <(Nr.length:Int))) ((idx a_.Names gM).bind fun Ns=>
   (idx Ns lc).bind fun Nv=>
   (idx b_.Names gM).bind fun Nx=>
   (idx Nx lc).bind fun Yc=>
   cond (!decide (Nv=Yc)) (some (.out false)) (wC a_ b_ gM fy (ap (lc+ 1)))) (some (.go ()))
def wB (F:Nat) (a_:bs) (b_:bs):Nat->Int->Option (Way (Bool) (Unit))
 | 0,_=>none
 | et+ 1,gM=>
   cond (decide (gM <(a_.Names.length:Int))) (dY (α:=Unit) ((idx a_.Names gM).bind fun AQ=>
   (idx b_.Names gM).bind fun Du=>
   cond (!decide ((AQ.length:Int)=(Du.length:Int))) (some (.out false)) (dY (α:=Unit) (wC a_ b_ gM F 0) fun (_:Unit)=>
   some (.go ()))) fun (_:Unit)=>
   wB F a_ b_ et (ap (gM+ 1))) (some (.go ()))
def wE (a_:bs) (b_:bs) (gC:Int):Nat->Int->Option (Way (Bool) (Unit))
 | 0,_=>none
 | jG+ 1,ld=>
   (idx a_.az gC).bind fun NW=>
   cond (decide (ld <(NW.length:Int))) ((idx a_.az gC).bind fun NY=>
   (idx NY ld).bind fun Iz=>
   (idx b_.az gC).bind fun NZ=>
   (idx NZ ld).bind fun IA=>
   cond (!decide (Iz=IA)) (some (.out false)) (wE a_ b_ gC jG (ap (ld+ 1)))) (some (.go ()))
def wD (F:Nat) (a_:bs) (b_:bs):Nat->Int->Option (Way (Bool) (Unit))
 | 0,_=>none
 | hZ+ 1,gC=>
   cond (decide (gC <(a_.az.length:Int))) (dY (α:=Unit) ((idx a_.az gC).bind fun AX=>
   (idx b_.az gC).bind fun DA=>
   cond (!decide ((AX.length:Int)=(DA.length:Int))) (some (.out false)) (dY (α:=Unit) (wE a_ b_ gC F 0) fun (_:Unit)=>
   some (.go ()))) fun (_:Unit)=>
   wD F a_ b_ hZ (ap (gC+ 1))) (some (.go ()))
def BB (F:Nat) (a_:bs) (b_:bs):Option (Bool):=
 (Bz F a_.aD b_.aD).bind fun yb=>
 cond (((((!yb) || (!decide ((b_.aA.length:Int)=(a_.aA.length:Int)))) || (!decide ((a_.Fields.length:Int)=(b_.Fields.length:Int)))) || (!decide ((a_.Names.length:Int)=(b_.Names.length:Int)))) || (!decide ((a_.az.length:Int)=(b_.az.length:Int)))) (some false) (dr (α:=Unit) (wz a_ b_ F 0) fun (_:Unit)=>
 dr (α:=Unit) (wA F a_ b_ F 0) fun (_:Unit)=>
 dr (α:=Unit) (wB F a_ b_ F 0) fun (_:Unit)=>
 dr (α:=Unit) (wD F a_ b_ F 0) fun (_:Unit)=>
 some true)
def wm (aJ:List aM) (sy:List UInt8):Nat->Int->Option (Way (Int) (Unit))
 | 0,_=>none
 | bu+ 1,m1=>
   cond (decide (m1 <(aJ.length:Int))) ((idx aJ m1).bind fun IB=>
   cond (decide (IB.Name=sy)) (some (.out m1)) (wm aJ sy bu (ap (m1+ 1)))) (some (.go ()))
def n6 (F:Nat) (aJ:List aM) (sy:List UInt8):Option (Int):=
 dr (α:=Unit) (wm aJ sy F 0) fun (_:Unit)=>
 some (-1)
def wI (F:Nat) (aJ:List aM):Nat->Int->(List Int)->Option (Way (List Int) (List Int))
 | 0,_,_=>none
 | bu+ 1,k_,px=>
   cond (decide (0 <=k_)) (cond (decide ((aJ.length:Int) <(px.length:Int))) (some (.out [])) ((ep 8 [k_] px).bind fun HA=>
   (idx aJ k_).bind fun AO=>
   (n6 F aJ AO.bZ).bind fun Mt=>
   wI F aJ bu Mt HA)) (some (.go px))
def wH (F:Nat) (aJ:List aM) (bU:Int):Option (List Int):=
 dr (α:=List Int) (wI F aJ F bU []) fun (Ah:List Int)=>
 some Ah
def ta (F:Nat) (kinds_:List Kind) (aJ:List aM):Nat->Int->Option (Way (Bool) (Unit))
 | 0,_=>none
 | bu+ 1,kl=>
   cond (decide (kl <(kinds_.length:Int))) ((idx kinds_ kl).bind fun N3=>
   cond (!decide (N3.aM= [])) ((idx kinds_ kl).bind fun Nc=>
   (n6 F aJ Nc.aM).bind fun WT=>
   cond (decide (WT < 0)) (some (.out false)) (ta F kinds_ aJ bu (ap (kl+ 1)))) (ta F kinds_ aJ bu (ap (kl+ 1)))) (some (.go ()))
def y5 (F:Nat) (aJ:List aM) (kinds_:List Kind):Option (Bool):=
 dr (α:=Unit) (ta F kinds_ aJ F 0) fun (_:Unit)=>
 some true
def qv (aJ:List aM) (en:List Int):Nat->(List Field)->Int->Option (List Field)
 | 0,_,_=>none
 | bu+ 1,pG,oS=>
   cond (decide (oS <(en.length:Int))) ((idx en oS).bind fun Nn=>
   (idx aJ Nn).bind fun Iu=>
   (ep 40 pG Iu.Fields).bind fun LQ=>
   qv aJ en bu LQ (ap (oS+ 1))) (some pG)
def y1 (F:Nat) (aJ:List aM) (bU:Int):Option (List Field):=
 (wH F aJ bU).bind fun en=>
 Option.bind (α:=List Field) (qv aJ en F [] 0) fun (ug:List Field)=>
 some ug
def s9 (gA:List (List UInt8)) (iJ:Method):Nat->Int->Option (Int)
 | 0,_=>none
 | et+ 1,kG=>
   cond (decide (kG <(gA.length:Int))) ((idx gA kG).bind fun Yh=>
   cond (!decide (Yh=iJ.Name)) (s9 gA iJ et (ap (kG+ 1))) (some kG)) (some kG)
def wG (F:Nat) (aJ:List aM) (en:List Int) (gZ:Int):Nat->(List Target)->(List (List UInt8))->Int->Option ((List Target) × (List (List UInt8)))
 | 0,_,_,_=>none
 | c7+ 1,iS,gA,h3=>
   (idx en gZ).bind fun NU=>
   (idx aJ NU).bind fun o9=>
   cond (decide (h3 <(o9.aQ.length:Int))) (Option.bind (α:=(List Target) × (List (List UInt8))) ((idx en gZ).bind fun NV=>
   (idx aJ NV).bind fun rD=>
   (idx rD.aQ h3).bind fun iJ=>
   Option.bind (α:=Int) (s9 gA iJ F 0) fun (sx:Int)=>
   Option.bind (α:=(List Target) × (List (List UInt8))) (cond (decide (sx=(gA.length:Int))) ((ep 16 gA [iJ.Name]).bind fun L1=>
   (ep 16 iS [(⟨0,0⟩:Target)]).bind fun L2=>
   some (L2,L1)) (some (iS,gA))) fun ((sq,sr):(List Target) × (List (List UInt8)))=>
   (idx en gZ).bind fun AW=>
   (idx sq sx).bind fun Yi=>
   (some (sq.set (sx).toNat (⟨AW,h3⟩:Target))).bind fun L3=>
   some (L3,sr)) fun ((uE,uF):(List Target) × (List (List UInt8)))=>
   wG F aJ en gZ c7 uE uF (ap (h3+ 1))) (some (iS,gA))
def wF (F:Nat) (aJ:List aM) (en:List Int):Nat->(List Target)->(List (List UInt8))->Int->Option ((List Target) × (List (List UInt8)))
 | 0,_,_,_=>none
 | bu+ 1,pN,pO,gZ=>
   cond (decide (gZ <(en.length:Int))) (Option.bind (α:=(List Target) × (List (List UInt8))) (Option.bind (α:=(List Target) × (List (List UInt8))) (wG F aJ en gZ F pN pO 0) fun ((uC,uD):(List Target) × (List (List UInt8)))=>
   some (uC,uD)) fun ((uA,uB):(List Target) × (List (List UInt8)))=>
   wF F aJ en bu uA uB (ap (gZ+ 1))) (some (pN,pO))
def EB (F:Nat) (aJ:List aM) (bU:Int):Option ((List (List UInt8)) × (List Target)):=
 (wH F aJ bU).bind fun en=>
 Option.bind (α:=(List Target) × (List (List UInt8))) (wF F aJ en F [] [] 0) fun ((uq,ur):(List Target) × (List (List UInt8)))=>
 some (ur,uq)
end J
namespace Go.Proofs.YtpkhpagplommoaaGreat
open Go Go.RowKit aZ
set_option maxHeartbeats 4000000
set_option maxRecDepth 20000
theorem aba {W:World} {X:List Nat} {F:Nat} {a_:List J.Kind} {b_:List J.Kind} {r:Bool} {ag:aP} {ah:Nat} {aK:aP} {aO:Nat} {M0:List Nat} (hm:ar W M0 X W [] [U J.dt ag ah a_,U J.dt aK aO b_]) (h:J.s8 F a_ b_=some r) :
 Calls Tryz.prog 138 [.q ag ah a_,.q aK aO b_].toArray W (fun e aF=>e= .returned (.bool r)/\ar W M0 X aF [] []):=by
 refine enter Tryz.func138 rfl Tryz.ntmps138 rfl fun a I=>?_;rw [J.s8] at h;refine bb [] [] I fun a I=>wp_seq_k fun K bN=>bb [] [(10,.bool (!decide ((a_.length:Int)=(b_.length:Int))))] I fun a I=>bk (I.g rfl) h (fun hY h=>?_) (fun hY h=>?_)
 · refine bt [] [(4,.bool false)] I fun a I=>wp_ret ?_;obtain rfl:=ay h;refine aj <| bq Tryz.results138 I rfl ?_;exact ⟨rfl,hm.aX [] []⟩
 refine wp_skip <| bN _ _ <| wp_seq_k fun K cp=>bb [] [(5,.i 0)] I fun a I=>?_;obtain ⟨gp,h,f_⟩:=J.dZ h;refine ca (fun a w=>Fr ⟨26,[]⟩ [] a/\ar W M0 X w [] [U J.dt ag ah a_,U J.dt aK aO b_]/\gp=(.go ())) (fun K dl=>?_) ?_
 · refine cw (fun (bu:Nat) a w=>∃ (cd:Int),Fr ⟨26,[]⟩ [(0,.q ag ah a_),(1,.q aK aO b_),(5,.i cd)] a/\ar W M0 X w [] [U J.dt ag ah a_,U J.dt aK aO b_]/\J.n9 a_ b_ bu cd=some gp) F ⟨0,I.cut,hm,h⟩ ?_ ?_
   · rintro a w ⟨cd,I,hm,h⟩;exact absurd h (by simp [J.n9])
   rintro bu a w ⟨cd,I,hm,h⟩ K cN;rw [J.n9] at h;refine wp_seq_k fun K dq=>bb [] [(14,.bool (decide (cd <(a_.length:Int))))] I fun a I=>bk (I.g rfl) h (fun mD h=>?_) (fun mD h=>?_)
   · refine wp_skip <| dq _ _ <| wp_seq_k fun K dC=>wp_block <| wp_seq_k fun K dS=>hA (by kernel_rfl) (by kernel_rfl) <| dB 2 [] [(17,.q ag ah a_),(18,.i cd)] [] (fun a6 ad=>aw) I fun a I=>?_;obtain ⟨fa,mM,h⟩:=J.aH h;obtain ⟨mw,mJ,_,rfl,mE⟩:=bX _ (hm.d 0 rfl) mM;refine ek wn (fun a6 ad=>bF Tryz.underlying130 Tryz.sizeOf103 rfl (I.g rfl) (I.g rfl) mw mJ) I rfl rfl fun a I=>dB 3 [0,0] [(20,.agg #[.i fa.Kind,ao fa.aM]),(21,.q aK aO b_),(22,.i cd)] [bG ag,bH ag+(cd).toNat* 2] (fun a6 ad=>(av (b2 ad mE) aw)) I fun a I=>?_;obtain ⟨fl,mN,h⟩:=J.aH h
     obtain ⟨mx,mK,_,rfl,mF⟩:=bX _ (hm.d 1 rfl) mN;refine ek wn (fun a6 ad=>bF Tryz.underlying130 Tryz.sizeOf103 rfl (I.g rfl) (I.g rfl) mx mK) I rfl rfl fun a I=>dB 1 [0,0] [(24,.agg #[.i fl.Kind,ao fl.aM])] [bG aK,bH aK+(cd).toNat* 2] (fun a6 ad=>(av (b2 ad mF) aw)) I fun a I=>ek wn (fun a6 ad=>Fv (X:=fa) (Y:=fl) rfl (I.g rfl) (I.g rfl)) I rfl rfl fun a I=>wpQuiet_nil fun w ad=>?_;have hm:=hm.dw ad;clear ad;refine dS _ _ <| bk (I.g rfl) h (fun k0 h=>?_) (fun k0 h=>?_)
     · refine bt [] [(4,.bool false)] I fun a I=>wp_ret ?_;obtain rfl:=ay h;obtain rfl:=ay f_;refine a8 (aj (aj (a8 (aj (aj ?_)))));refine bq Tryz.results138 I rfl ?_;exact ⟨rfl,hm.aX [] []⟩
     refine wp_skip <| dC _ _ <| cg [] [(5,.i (J.ap (cd+ 1)))] I fun a I=>?_;exact cN _ _ ⟨J.ap (cd+ 1),I.cut,hm,h⟩
   refine wp_exit <| bz (bz (cr ?_));exact dl _ _ ⟨I.cut,hm,(os h)⟩
 rintro a w ⟨I,hm,bc⟩;subst gp;have h:=f_;clear f_;dsimp only [J.dW] at h;refine cp _ _ <| bt [] [(4,.bool true)] I fun a I=>wp_ret ?_;obtain rfl:=ay h;refine bq Tryz.results138 I rfl ?_;exact ⟨rfl,hm.aX [] []⟩
theorem aa' {W:World} {X:List Nat} {F:Nat} {a_:List J.Field} {b_:List J.Field} {r:Bool} {ag:aP} {ah:Nat} {aK:aP} {aO:Nat} {M0:List Nat} (hm:ar W M0 X W [] [U J.aW ag ah a_,U J.aW aK aO b_]) (h:J.BA F a_ b_=some r) :
 Calls Tryz.prog 114 [.q ag ah a_,.q aK aO b_].toArray W (fun e aF=>e= .returned (.bool r)/\ar W M0 X aF [] []):=by
 refine enter Tryz.func114 rfl Tryz.ntmps114 rfl fun a I=>?_;rw [J.BA] at h;refine bb [] [] I fun a I=>wp_seq_k fun K bN=>bb [] [(10,.bool (!decide ((a_.length:Int)=(b_.length:Int))))] I fun a I=>bk (I.g rfl) h (fun hY h=>?_) (fun hY h=>?_)
 · refine bt [] [(4,.bool false)] I fun a I=>wp_ret ?_;obtain rfl:=ay h;refine aj <| bq Tryz.results114 I rfl ?_;exact ⟨rfl,hm.aX [] []⟩
 refine wp_skip <| bN _ _ <| wp_seq_k fun K cp=>bb [] [(5,.i 0)] I fun a I=>?_;obtain ⟨gp,h,f_⟩:=J.dZ h;refine ca (fun a w=>Fr ⟨26,[]⟩ [] a/\ar W M0 X w [] [U J.aW ag ah a_,U J.aW aK aO b_]/\gp=(.go ())) (fun K dl=>?_) ?_
 · refine cw (fun (bu:Nat) a w=>∃ (cd:Int),Fr ⟨26,[]⟩ [(0,.q ag ah a_),(1,.q aK aO b_),(5,.i cd)] a/\ar W M0 X w [] [U J.aW ag ah a_,U J.aW aK aO b_]/\J.wy a_ b_ bu cd=some gp) F ⟨0,I.cut,hm,h⟩ ?_ ?_
   · rintro a w ⟨cd,I,hm,h⟩;exact absurd h (by simp [J.wy])
   rintro bu a w ⟨cd,I,hm,h⟩ K cN;rw [J.wy] at h;refine wp_seq_k fun K dq=>bb [] [(14,.bool (decide (cd <(a_.length:Int))))] I fun a I=>bk (I.g rfl) h (fun mD h=>?_) (fun mD h=>?_)
   · refine wp_skip <| dq _ _ <| wp_seq_k fun K dC=>wp_block <| wp_seq_k fun K dS=>hA (by kernel_rfl) (by kernel_rfl) <| dB 2 [] [(17,.q ag ah a_),(18,.i cd)] [] (fun a6 ad=>aw) I fun a I=>?_;obtain ⟨fa,mM,h⟩:=J.aH h;obtain ⟨mw,mJ,_,rfl,mE⟩:=bX _ (hm.d 0 rfl) mM;refine ek wn (fun a6 ad=>bF Tryz.underlying106 Tryz.sizeOf105 rfl (I.g rfl) (I.g rfl) mw mJ) I rfl rfl fun a I=>dB 3 [0,0] [(20,.agg #[ao fa.Name,.i fa.Kind.Kind,ao fa.Kind.aM]),(21,.q aK aO b_),(22,.i cd)] [bG ag,bH ag+(cd).toNat* 3] (fun a6 ad=>(av (b2 ad mE) aw)) I fun a I=>?_;obtain ⟨fl,mN,h⟩:=J.aH h
     obtain ⟨mx,mK,_,rfl,mF⟩:=bX _ (hm.d 1 rfl) mN;refine ek wn (fun a6 ad=>bF Tryz.underlying106 Tryz.sizeOf105 rfl (I.g rfl) (I.g rfl) mx mK) I rfl rfl fun a I=>dB 1 [0,0] [(24,.agg #[ao fl.Name,.i fl.Kind.Kind,ao fl.Kind.aM])] [bG aK,bH aK+(cd).toNat* 3] (fun a6 ad=>(av (b2 ad mF) aw)) I fun a I=>ek wn (fun a6 ad=>ab0 (X:=fa) (Y:=fl) rfl (I.g rfl) (I.g rfl)) I rfl rfl fun a I=>wpQuiet_nil fun w ad=>?_;have hm:=hm.dw ad;clear ad;refine dS _ _ <| bk (I.g rfl) h (fun k0 h=>?_) (fun k0 h=>?_)
     · refine bt [] [(4,.bool false)] I fun a I=>wp_ret ?_;obtain rfl:=ay h;obtain rfl:=ay f_;refine a8 (aj (aj (a8 (aj (aj ?_)))));refine bq Tryz.results114 I rfl ?_;exact ⟨rfl,hm.aX [] []⟩
     refine wp_skip <| dC _ _ <| cg [] [(5,.i (J.ap (cd+ 1)))] I fun a I=>?_;exact cN _ _ ⟨J.ap (cd+ 1),I.cut,hm,h⟩
   refine wp_exit <| bz (bz (cr ?_));exact dl _ _ ⟨I.cut,hm,(os h)⟩
 rintro a w ⟨I,hm,bc⟩;subst gp;have h:=f_;clear f_;dsimp only [J.dW] at h;refine cp _ _ <| bt [] [(4,.bool true)] I fun a I=>wp_ret ?_;obtain rfl:=ay h;refine bq Tryz.results114 I rfl ?_;exact ⟨rfl,hm.aX [] []⟩
theorem aiy {W:World} {X:List Nat} {F:Nat} {a_:List J.aM} {b_:List J.aM} {r:Bool} {ag:aP} {ah:Nat} {aK:aP} {aO:Nat} {M0:List Nat} (hm:ar W M0 X W [] [U J.a' ag ah a_,U J.a' aK aO b_]) (h:J.Bz F a_ b_=some r) :
 Calls Tryz.prog 113 [.q ag ah a_,.q aK aO b_].toArray W (fun e aF=>e= .returned (.bool r)/\ar W M0 X aF [] []):=by
 refine enter Tryz.func113 rfl Tryz.ntmps113 rfl fun a I=>?_;rw [J.Bz] at h;refine bb [] [] I fun a I=>wp_seq_k fun K bN=>bb [] [(16,.bool (!decide ((a_.length:Int)=(b_.length:Int))))] I fun a I=>bk (I.g rfl) h (fun hY h=>?_) (fun hY h=>?_)
 · refine bt [] [(4,.bool false)] I fun a I=>wp_ret ?_;obtain rfl:=ay h;refine aj <| bq Tryz.results113 I rfl ?_;exact ⟨rfl,hm.aX [] []⟩
 refine wp_skip <| bN _ _ <| wp_seq_k fun K cp=>bb [] [(5,.i 0)] I fun a I=>?_;obtain ⟨V8,h,xz⟩:=J.dZ h;refine ca (fun a w=>Fr ⟨152,[]⟩ [] a/\ar W M0 X w [] [U J.a' ag ah a_,U J.a' aK aO b_]/\V8=(.go ())) (fun K dl=>?_) ?_
 · refine cw (fun (bu:Nat) a w=>∃ (iC:Int),Fr ⟨152,[]⟩ [(0,.q ag ah a_),(1,.q aK aO b_),(5,.i iC)] a/\ar W M0 X w [] [U J.a' ag ah a_,U J.a' aK aO b_]/\J.wv F a_ b_ bu iC=some V8) F ⟨0,I.cut,hm,h⟩ ?_ ?_
   · rintro a w ⟨iC,I,hm,h⟩;exact absurd h (by simp [J.wv])
   rintro bu a w ⟨iC,I,hm,h⟩ K cN;rw [J.wv] at h;refine wp_seq_k fun K dq=>bb [] [(20,.bool (decide (iC <(a_.length:Int))))] I fun a I=>bk (I.g rfl) h (fun aoM h=>?_) (fun aoM h=>?_)
   · refine wp_skip <| dq _ _ <| wp_seq_k fun K dC=>?_;obtain ⟨ad4,h,xx⟩:=J.eT h;refine ca (fun a w=>Fr ⟨152,[]⟩ [(0,.q ag ah a_),(1,.q aK aO b_),(5,.i iC)] a/\ar W M0 X w [] [U J.a' ag ah a_,U J.a' aK aO b_]/\ad4=(.go ())) (fun K dS=>?_) ?_
     · refine wp_seq_k fun K dL=>hk (m:=12) 12 (ba []) (by kernel_rfl) rfl fun w ad=>?_;have hm:=hm.dw ad;clear ad;have bh:=hm;have aB:=ba.refl [] w;refine ch [0,1,4,5] 4 [] [(23,.q ag ah a_),(24,.i iC),(27,.q aK aO b_),(28,.i iC)] [] (fun a6 ad=>aw) I aB fun a I=>?_;obtain ⟨eh,aBQ,h⟩:=J.aH h;obtain ⟨ak2,avU,_,⟨lp,ly,kO,mg,rfl,acL,acM⟩,arC⟩:=bX _ (bh.d 0 rfl) aBQ;have bh:=bh.more (y:=U J.aW lp ly eh.Fields) acL
       have hm:=hm.more (y:=U J.aW lp ly eh.Fields) acL;have bh:=bh.more (y:=U J.b4 kO mg eh.aQ) acM;have hm:=hm.more (y:=U J.b4 kO mg eh.aQ) acM;refine eM 2 rfl (by kernel_rfl) wn (fun a6=>bF Tryz.underlying25 Tryz.sizeOf136 rfl (I.g rfl) (I.g rfl) ak2 avU) aB I rfl rfl fun a I=>?_
       refine ch [3] 1 [0,0] [(26,.agg #[ao eh.Name,ao eh.bZ,.q lp ly eh.Fields,.q kO mg eh.aQ])] [bG ag,bH ag+(iC).toNat* 4] (fun a6 ad=>(av (b2 ad arC) aw)) I aB fun a I=>?_;obtain ⟨ew,aBR,h⟩:=J.aH h;obtain ⟨ak3,avV,_,⟨lq,lz,kP,mh,rfl,acN,acO⟩,arD⟩:=bX _ (bh.d 3 rfl) aBR;have bh:=bh.more (y:=U J.aW lq lz ew.Fields) acN;have hm:=hm.more (y:=U J.aW lq lz ew.Fields) acN
       have bh:=bh.more (y:=U J.b4 kP mh ew.aQ) acO;have hm:=hm.more (y:=U J.b4 kP mh ew.aQ) acO;refine eM 6 rfl (by kernel_rfl) wn (fun a6=>bF Tryz.underlying25 Tryz.sizeOf136 rfl (I.g rfl) (I.g rfl) ak3 avV) aB I rfl rfl fun a I=>ch [7] 1 [0,0] [(30,.agg #[ao ew.Name,ao ew.bZ,.q lq lz ew.Fields,.q kP mh ew.aQ])] [bG aK,bH aK+(iC).toNat* 4] (fun a6 ad=>(av (b2 ad arD) aw)) I aB fun a I=>?_
       refine PB (ci:=[ao [],ao [],.slice none 0 0,.slice none 0 0]) (cj:=[ao [],ao [],.slice none 0 0,.slice none 0 0]) 8 9 rfl rfl (by kernel_rfl) (by kernel_rfl) (by kernel_rfl) (by kernel_rfl) rfl rfl (fun b w=>eQ Tryz.zeroValue136 rfl rfl) (fun b w=>eQ Tryz.zeroValue136 rfl rfl) I hm rfl rfl rfl rfl rfl (fun a6 h=>fo aB h) fun a lC ms w ad RN RO I hm=>?_;have RN:=Nat.le_trans aB.size RN;have RO:=Nat.le_trans aB.size RO;have aB:=fo aB ad;clear ad;refine da 10 rfl (by kernel_rfl) (fun _=>aB) <| AE (vs:=[ao eh.Name,ao eh.bZ,.q lp ly eh.Fields,.q kO mg eh.aQ]) 0 hm rfl wn rfl Tryz.sizeOf136 rfl rfl rfl rfl (I.g rfl) (I.g rfl) rfl fun w ad hm=>?_
       have aB:=zl aB ad RN;clear ad;refine c5 <| da 11 rfl (by kernel_rfl) (fun _=>aB) <| AE (vs:=[ao ew.Name,ao ew.bZ,.q lq lz ew.Fields,.q kP mh ew.aQ]) 1 hm rfl wn rfl Tryz.sizeOf136 rfl rfl rfl rfl (I.g rfl) (I.g rfl) rfl fun w ad hm=>?_;have aB:=zl aB ad RO;clear ad;refine c5 <| fm (by kernel_rfl) ?_ (fun _=>aB);clear bh aB;refine dL _ _ <| wp_seq_k fun K ft=>wp_seq_k fun K eX=>aY ?_
       refine bi 13 [0,0,1,0,0,0,0,1,0,0,1,1,0,0] [(43,.bool ((!decide (eh.Name=ew.Name)) || (!decide (eh.bZ=ew.bZ))))] [ms,1,lC,1,ms,0,lC,0] (av (a2 (hm.e 0 rfl)) (av (a2 (hm.e 1 rfl)) aw)) I fun a I=>?_;rcases Bool.eq_false_or_eq_true ((!decide (eh.Name=ew.Name)) || (!decide (eh.bZ=ew.bZ))) with FQ | FQ
       · have h:=J.dj FQ h;have I:=I.b6 43 rfl FQ;refine aN 16 [1,1,1,1,1,1,1,1,1,1,1,1,1,1,1] [(59,.bool true)] I fun a I=>wpList_nil (eX _ _ ?_);refine eG (I.g rfl) rfl <| bt [] [(4,.bool false)] I fun a I=>wp_ret ?_;obtain rfl:=ay h;obtain rfl:=ay xx;obtain rfl:=ay xz;refine aj (a8 (aj (aj (aj (a8 (aj (aj ?_)))))));refine bq Tryz.results113 I rfl ?_;exact ⟨rfl,hm.aX [] []⟩
       have h:=J.di FQ h;have I:=I.b6 43 rfl FQ;refine bi 4 [1,1,0,2,1,1,1,2] [(45,.q lp ly eh.Fields),(47,.q lq lz ew.Fields)] [ms,2,lC,2] (av (a2 (hm.e 0 rfl)) (av (a2 (hm.e 1 rfl)) aw)) I fun a I=>?_;obtain ⟨WW,azy,h⟩:=J.aH h;have hc:=hm;refine bP (vs:=[.q lp ly eh.Fields,.q lq lz ew.Fields]) (cV I rfl rfl rfl rfl) rfl Tryz.call114 ⟨(I.g rfl),(I.g rfl),trivial⟩ (aa' ((hc.into 0).pick ⟨⟨3,rfl⟩,⟨1,rfl⟩,trivial⟩) azy) I rfl rfl ?_;rintro _ w ⟨rfl,af⟩;refine ⟨_,rfl,fun a I=>?_⟩;have ad:ba [] _ w:=af.ev;have hm:=hc.back 0 af
       clear af hc;clear ad;refine bi 11 [1,1,0,0,0,3,0,0,0,1,3,0,0,0] [(59,.bool ((!WW) || (!decide ((eh.aQ.length:Int)=(ew.aQ.length:Int)))))] [ms,3,lC,3] (av (a2 (hm.e 0 rfl)) (av (a2 (hm.e 1 rfl)) aw)) I fun a I=>wpList_nil (eX _ _ ?_);refine bk (I.g rfl) h (fun aoR h=>?_) (fun aoR h=>?_)
       · refine bt [] [(4,.bool false)] I fun a I=>wp_ret ?_;obtain rfl:=ay h;obtain rfl:=ay xx;obtain rfl:=ay xz;refine aj (a8 (aj (aj (aj (a8 (aj (aj ?_)))))));refine bq Tryz.results113 I rfl ?_;exact ⟨rfl,hm.aX [] []⟩
       refine wp_skip <| ft _ _ <| bb [] [(8,.i 0)] I fun a I=>?_;obtain ⟨UZ,h,Cx⟩:=J.eT h
       refine ca (fun a w=>Fr ⟨152,[]⟩ [(0,.q ag ah a_),(1,.q aK aO b_),(5,.i iC)] a/\ar W M0 X w [aq.br lC 136 [ao eh.Name,ao eh.bZ,.q lp ly eh.Fields,.q kO mg eh.aQ],aq.br ms 136 [ao ew.Name,ao ew.bZ,.q lq lz ew.Fields,.q kP mh ew.aQ]] [U J.b4 kP mh ew.aQ,U J.aW lq lz ew.Fields,U J.b4 kO mg eh.aQ,U J.aW lp ly eh.Fields,U J.a' ag ah a_,U J.a' aK aO b_]/\UZ=(.go ())) (fun K fK=>?_) ?_
       · refine cw (fun (c7:Nat) a w=>∃ (jM:Int),Fr ⟨152,[]⟩ [(0,.q ag ah a_),(1,.q aK aO b_),(5,.i iC),(6,.aL lC),(7,.aL ms),(8,.i jM)] a/\ar W M0 X w [aq.br lC 136 [ao eh.Name,ao eh.bZ,.q lp ly eh.Fields,.q kO mg eh.aQ],aq.br ms 136 [ao ew.Name,ao ew.bZ,.q lq lz ew.Fields,.q kP mh ew.aQ]] [U J.b4 kP mh ew.aQ,U J.aW lq lz ew.Fields,U J.b4 kO mg eh.aQ,U J.aW lp ly eh.Fields,U J.a' ag ah a_,U J.a' aK aO b_]/\J.ww F eh ew c7 jM=some UZ) F ⟨0,I.cut,hm,h⟩ ?_ ?_
         · rintro a w ⟨jM,I,hm,h⟩;exact absurd h (by simp [J.ww])
         rintro c7 a w ⟨jM,I,hm,h⟩ K fR;rw [J.ww] at h;refine wp_seq_k fun K gm=>wp_seq_k fun K gK=>eE [0,3] [(64,.bool (decide (jM <(eh.aQ.length:Int))))] [lC,3] (av (a2 (hm.e 0 rfl)) aw) I fun a I=>gK _ _ <| bk (I.g rfl) h (fun aoW h=>?_) (fun aoW h=>?_)
         · refine wp_skip <| gm _ _ <| wp_seq_k fun K hB=>?_;obtain ⟨ad6,h,Cy⟩:=J.eT h
           refine ca (fun a w=>Fr ⟨152,[]⟩ [(0,.q ag ah a_),(1,.q aK aO b_),(5,.i iC),(6,.aL lC),(7,.aL ms),(8,.i jM)] a/\ar W M0 X w [aq.br lC 136 [ao eh.Name,ao eh.bZ,.q lp ly eh.Fields,.q kO mg eh.aQ],aq.br ms 136 [ao ew.Name,ao ew.bZ,.q lq lz ew.Fields,.q kP mh ew.aQ]] [U J.b4 kP mh ew.aQ,U J.aW lq lz ew.Fields,U J.b4 kO mg eh.aQ,U J.aW lp ly eh.Fields,U J.a' ag ah a_,U J.a' aK aO b_]/\ad6=(.go ())) (fun K hX=>?_) ?_
           · refine wp_seq_k fun K ho=>hk (m:=14) 14 (ba []) (by kernel_rfl) rfl fun w ad=>?_;have hm:=hm.dw ad;clear ad;have bh:=hm;have aB:=ba.refl [] w;refine ch [0,1,2,5,6,7] 6 [0,3,1,3] [(68,.q kO mg eh.aQ),(69,.i jM),(73,.q kP mh ew.aQ),(74,.i jM)] [ms,3,lC,3] (fun a6 ad=>(av (b2 ad (a2 (bh.e 0 rfl))) (av (b2 ad (a2 (bh.e 1 rfl))) aw))) I aB fun a I=>?_;obtain ⟨dA,aBW,h⟩:=J.aH h;obtain ⟨ak8,avZ,_,⟨rH,rY,qm,tf,rfl,acP,acQ⟩,arI⟩:=bX _ (bh.d 2 rfl) aBW
             have bh:=bh.more (y:=U J.dt rH rY dA.bI) acP;have hm:=hm.more (y:=U J.dt rH rY dA.bI) acP;have bh:=bh.more (y:=U J.eg qm tf dA.bK) acQ;have hm:=hm.more (y:=U J.eg qm tf dA.bK) acQ;refine eM 3 rfl (by kernel_rfl) wn (fun a6=>bF Tryz.underlying134 Tryz.sizeOf133 rfl (I.g rfl) (I.g rfl) ak8 avZ) aB I rfl rfl fun a I=>?_
             refine ch [4] 1 [0,0] [(71,.agg #[ao dA.Name,.bool dA.Static,.q rH rY dA.bI,.i dA.Returns.Kind,ao dA.Returns.aM,.i dA.cR,.i dA.cQ,ao dA.Code,.q qm tf dA.bK])] [bG kO,bH kO+(jM).toNat* 9] (fun a6 ad=>(av (b2 ad arI) aw)) I aB fun a I=>?_;obtain ⟨dF,aBX,h⟩:=J.aH h;obtain ⟨ak9,av0,_,⟨rI,rZ,qn,tg,rfl,acR,acS⟩,arJ⟩:=bX _ (bh.d 2 rfl) aBX;have bh:=bh.more (y:=U J.dt rI rZ dF.bI) acR
             have hm:=hm.more (y:=U J.dt rI rZ dF.bI) acR;have bh:=bh.more (y:=U J.eg qn tg dF.bK) acS;have hm:=hm.more (y:=U J.eg qn tg dF.bK) acS;refine eM 8 rfl (by kernel_rfl) wn (fun a6=>bF Tryz.underlying134 Tryz.sizeOf133 rfl (I.g rfl) (I.g rfl) ak9 av0) aB I rfl rfl fun a I=>?_
             refine ch [9] 1 [0,0] [(76,.agg #[ao dF.Name,.bool dF.Static,.q rI rZ dF.bI,.i dF.Returns.Kind,ao dF.Returns.aM,.i dF.cR,.i dF.cQ,ao dF.Code,.q qn tg dF.bK])] [bG kP,bH kP+(jM).toNat* 9] (fun a6 ad=>(av (b2 ad arJ) aw)) I aB fun a I=>?_
             refine PB (ci:=[ao [],.bool false,.slice none 0 0,.i 0,ao [],.i 0,.i 0,ao [],.slice none 0 0]) (cj:=[ao [],.bool false,.slice none 0 0,.i 0,ao [],.i 0,.i 0,ao [],.slice none 0 0]) 10 11 rfl rfl (by kernel_rfl) (by kernel_rfl) (by kernel_rfl) (by kernel_rfl) rfl rfl (fun b w=>eQ Tryz.zeroValue133 rfl rfl) (fun b w=>eQ Tryz.zeroValue133 rfl rfl) I hm rfl rfl rfl rfl rfl (fun a6 h=>fo aB h) fun a nu oo w ad RP RQ I hm=>?_;have RP:=Nat.le_trans aB.size RP;have RQ:=Nat.le_trans aB.size RQ;have aB:=fo aB ad;clear ad;refine da 12 rfl (by kernel_rfl) (fun _=>aB) ?_
             refine AE (vs:=[ao dA.Name,.bool dA.Static,.q rH rY dA.bI,.i dA.Returns.Kind,ao dA.Returns.aM,.i dA.cR,.i dA.cQ,ao dA.Code,.q qm tf dA.bK]) 0 hm rfl wn rfl Tryz.sizeOf133 rfl rfl rfl rfl (I.g rfl) (I.g rfl) rfl fun w ad hm=>?_;have aB:=zl aB ad RP;clear ad;refine c5 <| da 13 rfl (by kernel_rfl) (fun _=>aB) ?_
             refine AE (vs:=[ao dF.Name,.bool dF.Static,.q rI rZ dF.bI,.i dF.Returns.Kind,ao dF.Returns.aM,.i dF.cR,.i dF.cQ,ao dF.Code,.q qn tg dF.bK]) 1 hm rfl wn rfl Tryz.sizeOf133 rfl rfl rfl rfl (I.g rfl) (I.g rfl) rfl fun w ad hm=>?_;have aB:=zl aB ad RQ;clear ad;refine c5 <| fm (by kernel_rfl) ?_ (fun _=>aB);clear bh aB;refine ho _ _ <| wp_seq_k fun K hp=>wp_seq_k fun K hq=>aY ?_
             refine bi 13 [0,0,1,0,0,0,0,1,0,0,1,1,0,0] [(89,.bool ((!decide (dA.Name=dF.Name)) || (!(dA.Static == dF.Static))))] [oo,1,nu,1,oo,0,nu,0] (av (a2 (hm.e 0 rfl)) (av (a2 (hm.e 1 rfl)) aw)) I fun a I=>?_;rcases Bool.eq_false_or_eq_true ((!decide (dA.Name=dF.Name)) || (!(dA.Static == dF.Static))) with FT | FT
             · have h:=J.dj FT h;have I:=I.b6 89 rfl FT;refine aN 44 [1,1,1,1,1,1,1,1,1,1,1,1,1,1,1,1,1,1,1,1,1,1,1,1,1,1,1,1,1,1,1,1,1,1,1,1,1,1,1] [(133,.bool true)] I fun a I=>wpList_nil (hq _ _ ?_);refine eG (I.g rfl) rfl <| bt [] [(4,.bool false)] I fun a I=>wp_ret ?_;obtain rfl:=ay h;obtain rfl:=ay Cy;obtain rfl:=ay Cx;obtain rfl:=ay xx;obtain rfl:=ay xz
               refine aj (a8 (aj (aj (aj (a8 (aj (a8 (aj (aj (aj (a8 (aj (aj ?_)))))))))))));refine bq Tryz.results113 I rfl ?_;exact ⟨rfl,hm.aX [] []⟩
             have h:=J.di FT h;have I:=I.b6 89 rfl FT;refine bi 4 [1,1,0,2,1,1,1,2] [(91,.q rH rY dA.bI),(93,.q rI rZ dF.bI)] [oo,2,nu,2] (av (a2 (hm.e 0 rfl)) (av (a2 (hm.e 1 rfl)) aw)) I fun a I=>?_;obtain ⟨Mq,azD,h⟩:=J.aH h;have hc:=hm;refine bP (vs:=[.q rH rY dA.bI,.q rI rZ dF.bI]) (cV I rfl rfl rfl rfl) rfl Tryz.call138 ⟨(I.g rfl),(I.g rfl),trivial⟩ (aba ((hc.into 0).pick ⟨⟨3,rfl⟩,⟨1,rfl⟩,trivial⟩) azD) I rfl rfl ?_;rintro _ w ⟨rfl,af⟩;refine ⟨_,rfl,fun a I=>?_⟩;have ad:ba [] _ w:=af.ev;have hm:=hc.back 0 af
             clear af hc;clear ad;refine aN 3 [1,1] [(97,.bool (!Mq))] I fun a I=>?_;rcases Bool.eq_false_or_eq_true (!Mq) with FU | FU
             · have h:=J.dj FU h;have I:=I.b6 97 rfl FU;refine aN 36 [1,1,1,1,1,1,1,1,1,1,1,1,1,1,1,1,1,1,1,1,1,1,1,1,1,1,1,1,1,1,1,1] [(133,.bool true)] I fun a I=>wpList_nil (hq _ _ ?_);refine eG (I.g rfl) rfl <| bt [] [(4,.bool false)] I fun a I=>wp_ret ?_;obtain rfl:=ay h;obtain rfl:=ay Cy;obtain rfl:=ay Cx;obtain rfl:=ay xx;obtain rfl:=ay xz
               refine aj (a8 (aj (aj (aj (a8 (aj (a8 (aj (aj (aj (a8 (aj (aj ?_)))))))))))));refine bq Tryz.results113 I rfl ?_;exact ⟨rfl,hm.aX [] []⟩
             have h:=J.di FU h;have I:=I.b6 97 rfl FU;refine bi 4 [1,1,0,3,1,1,1,3] [(99,.agg #[.i dA.Returns.Kind,ao dA.Returns.aM]),(101,.agg #[.i dF.Returns.Kind,ao dF.Returns.aM])] [oo,3,nu,3] (av (a2 (hm.e 0 rfl)) (av (a2 (hm.e 1 rfl)) aw)) I fun a I=>bQ (cV I rfl rfl rfl rfl) (Fv (X:=dA.Returns) (Y:=dF.Returns) rfl (I.g rfl) (I.g rfl)) I rfl rfl fun a I=>?_
             refine bi 31 [1,0,0,0,5,0,0,1,5,0,0,0,0,0,6,0,0,1,6,0,0,0,0,0,7,0,0,1,7,0,0,0,0,0,8,0,0,0,1,8,0,0,0] [(133,.bool (((((!decide (dA.Returns=dF.Returns)) || (!decide (dA.cR=dF.cR))) || (!decide (dA.cQ=dF.cQ))) || (!decide (dA.Code=dF.Code))) || (!decide ((dA.bK.length:Int)=(dF.bK.length:Int)))))] [oo,8,nu,8,oo,7,nu,7,oo,6,nu,6,oo,5,nu,5] (av (a2 (hm.e 0 rfl)) (av (a2 (hm.e 1 rfl)) aw)) I fun a I=>wpList_nil (hq _ _ ?_);refine bk (I.g rfl) h (fun aoY h=>?_) (fun aoY h=>?_)
             · refine bt [] [(4,.bool false)] I fun a I=>wp_ret ?_;obtain rfl:=ay h;obtain rfl:=ay Cy;obtain rfl:=ay Cx;obtain rfl:=ay xx;obtain rfl:=ay xz;refine aj (a8 (aj (aj (aj (a8 (aj (a8 (aj (aj (aj (a8 (aj (aj ?_)))))))))))));refine bq Tryz.results113 I rfl ?_;exact ⟨rfl,hm.aX [] []⟩
             refine wp_skip <| hp _ _ <| bb [] [(11,.i 0)] I fun a I=>?_;obtain ⟨U1,h,Sn⟩:=J.eT h
             refine ca (fun a w=>Fr ⟨152,[]⟩ [(0,.q ag ah a_),(1,.q aK aO b_),(5,.i iC),(6,.aL lC),(7,.aL ms),(8,.i jM)] a/\ar W M0 X w [aq.br nu 133 [ao dA.Name,.bool dA.Static,.q rH rY dA.bI,.i dA.Returns.Kind,ao dA.Returns.aM,.i dA.cR,.i dA.cQ,ao dA.Code,.q qm tf dA.bK],aq.br oo 133 [ao dF.Name,.bool dF.Static,.q rI rZ dF.bI,.i dF.Returns.Kind,ao dF.Returns.aM,.i dF.cR,.i dF.cQ,ao dF.Code,.q qn tg dF.bK],aq.br lC 136 [ao eh.Name,ao eh.bZ,.q lp ly eh.Fields,.q kO mg eh.aQ],aq.br ms 136 [ao ew.Name,ao ew.bZ,.q lq lz ew.Fields,.q kP mh ew.aQ]] [U J.eg qn tg dF.bK,U J.dt rI rZ dF.bI,U J.eg qm tf dA.bK,U J.dt rH rY dA.bI,U J.b4 kP mh ew.aQ,U J.aW lq lz ew.Fields,U J.b4 kO mg eh.aQ,U J.aW lp ly eh.Fields,U J.a' ag ah a_,U J.a' aK aO b_]/\U1=(.go ())) (fun K jE=>?_) ?_
             · refine cw (fun (et:Nat) a w=>∃ (la:Int),Fr ⟨152,[]⟩ [(0,.q ag ah a_),(1,.q aK aO b_),(5,.i iC),(6,.aL lC),(7,.aL ms),(8,.i jM),(9,.aL nu),(10,.aL oo),(11,.i la)] a/\ar W M0 X w [aq.br nu 133 [ao dA.Name,.bool dA.Static,.q rH rY dA.bI,.i dA.Returns.Kind,ao dA.Returns.aM,.i dA.cR,.i dA.cQ,ao dA.Code,.q qm tf dA.bK],aq.br oo 133 [ao dF.Name,.bool dF.Static,.q rI rZ dF.bI,.i dF.Returns.Kind,ao dF.Returns.aM,.i dF.cR,.i dF.cQ,ao dF.Code,.q qn tg dF.bK],aq.br lC 136 [ao eh.Name,ao eh.bZ,.q lp ly eh.Fields,.q kO mg eh.aQ],aq.br ms 136 [ao ew.Name,ao ew.bZ,.q lq lz ew.Fields,.q kP mh ew.aQ]] [U J.eg qn tg dF.bK,U J.dt rI rZ dF.bI,U J.eg qm tf dA.bK,U J.dt rH rY dA.bI,U J.b4 kP mh ew.aQ,U J.aW lq lz ew.Fields,U J.b4 kO mg eh.aQ,U J.aW lp ly eh.Fields,U J.a' ag ah a_,U J.a' aK aO b_]/\J.wx dA dF et la=some U1) F ⟨0,I.cut,hm,h⟩ ?_ ?_
               · rintro a w ⟨la,I,hm,h⟩;exact absurd h (by simp [J.wx])
               rintro et a w ⟨la,I,hm,h⟩ K j9;rw [J.wx] at h;refine wp_seq_k fun K j_=>wp_seq_k fun K ny=>eE [0,8] [(138,.bool (decide (la <(dA.bK.length:Int))))] [nu,8] (av (a2 (hm.e 0 rfl)) aw) I fun a I=>ny _ _ <| bk (I.g rfl) h (fun ao0 h=>?_) (fun ao0 h=>?_)
               · refine wp_skip <| j_ _ _ <| wp_seq_k fun K ot=>wp_block <| wp_seq_k fun K lF=>hA (by kernel_rfl) (by kernel_rfl) <| C5 3 [0,8] [(0,.q ag ah a_),(1,.q aK aO b_),(5,.i iC),(6,.aL lC),(7,.aL ms),(8,.i jM),(9,.aL nu),(10,.aL oo),(11,.i la),(142,.q qm tf dA.bK),(143,.i la)] [nu,8] (fun a6 ad=>(av (b2 ad (a2 (hm.e 0 rfl))) aw)) I fun a I=>?_;obtain ⟨AM,aBZ,h⟩:=J.aH h;obtain ⟨ak',av3,_,rfl,arL⟩:=bX _ (hm.d 2 rfl) aBZ
                 refine ek wn (fun a6 ad=>bF Tryz.underlying131 Tryz.sizeOf150 rfl (I.g rfl) (I.g rfl) ak' av3) I rfl rfl fun a I=>dB 4 [0,0,1,8] [(145,.agg #[.i AM.From,.i AM.To,.i AM.gT,ao AM.aM]),(147,.q qn tg dF.bK),(148,.i la)] [oo,8,bG qm,bH qm+(la).toNat* 4] (fun a6 ad=>(av (b2 ad arL) (av (b2 ad (a2 (hm.e 1 rfl))) aw))) I fun a I=>?_;obtain ⟨AN,aB0,h⟩:=J.aH h;obtain ⟨ala,av4,_,rfl,arM⟩:=bX _ (hm.d 0 rfl) aB0;refine ek wn (fun a6 ad=>bF Tryz.underlying131 Tryz.sizeOf150 rfl (I.g rfl) (I.g rfl) ala av4) I rfl rfl fun a I=>?_
                 refine dB 1 [0,0] [(150,.agg #[.i AN.From,.i AN.To,.i AN.gT,ao AN.aM])] [bG qn,bH qn+(la).toNat* 4] (fun a6 ad=>(av (b2 ad arM) aw)) I fun a I=>ek wn (fun a6 ad=>aj_ (X:=AM) (Y:=AN) rfl (I.g rfl) (I.g rfl)) I rfl rfl fun a I=>wpQuiet_nil fun w ad=>?_;have hm:=hm.dw ad;clear ad;refine lF _ _ <| bk (I.g rfl) h (fun ao1 h=>?_) (fun ao1 h=>?_)
                 · refine bt [] [(4,.bool false)] I fun a I=>wp_ret ?_;obtain rfl:=ay h;obtain rfl:=ay Sn;obtain rfl:=ay Cy;obtain rfl:=ay Cx;obtain rfl:=ay xx;obtain rfl:=ay xz;refine a8 (aj (aj (a8 (aj (a8 (aj (aj (aj (a8 (aj (a8 (aj (aj (aj (a8 (aj (aj ?_)))))))))))))))));refine bq Tryz.results113 I rfl ?_;exact ⟨rfl,hm.aX [] []⟩
                 refine wp_skip <| ot _ _ <| cg [] [(11,.i (J.ap (la+ 1)))] I fun a I=>?_;exact j9 _ _ ⟨J.ap (la+ 1),I.cut,hm,h⟩
               refine wp_exit <| bz (bz (cr ?_));exact jE _ _ ⟨I.cut,hm,(os h)⟩
             rintro a w ⟨I,hm,bc⟩;subst U1;have h:=Sn;clear Sn;dsimp only [J.eN] at h;exact hX _ _ ⟨I.cut,hm.aX [2,3] [4,5,6,7,8,9],(os h)⟩
           rintro a w ⟨I,hm,bc⟩;subst ad6;have h:=Cy;clear Cy;dsimp only [J.eN] at h;refine hB _ _ <| cg [] [(8,.i (J.ap (jM+ 1)))] I fun a I=>?_;exact fR _ _ ⟨J.ap (jM+ 1),I.cut,hm,h⟩
         refine wp_exit <| bz (bz (cr ?_));exact fK _ _ ⟨I.cut,hm,(os h)⟩
       rintro a w ⟨I,hm,bc⟩;subst UZ;have h:=Cx;clear Cx;dsimp only [J.eN] at h;exact dS _ _ ⟨I.cut,hm.aX [] [4,5],(os h)⟩
     rintro a w ⟨I,hm,bc⟩;subst ad4;have h:=xx;clear xx;dsimp only [J.eN] at h;refine dC _ _ <| cg [] [(5,.i (J.ap (iC+ 1)))] I fun a I=>?_;exact cN _ _ ⟨J.ap (iC+ 1),I.cut,hm,h⟩
   refine wp_exit <| bz (bz (cr ?_));exact dl _ _ ⟨I.cut,hm,(os h)⟩
 rintro a w ⟨I,hm,bc⟩;subst V8;have h:=xz;clear xz;dsimp only [J.dW] at h;refine cp _ _ <| bt [] [(4,.bool true)] I fun a I=>wp_ret ?_;obtain rfl:=ay h;refine bq Tryz.results113 I rfl ?_;exact ⟨rfl,hm.aX [] []⟩
theorem aiA {W:World} {X:List Nat} {F:Nat} {a_:J.bs} {b_:J.bs} {r:Bool} {ag:aP} {ah:Nat} {aK:aP} {aO:Nat} {aR:aP} {aU:Nat} {bl:aP} {bp:Nat} {bg:aP} {bj:Nat} {bB:aP} {bC:Nat} {bA:aP} {bD:Nat} {fh:aP} {fr:Nat} {e4:aP} {ff:Nat} {dR:aP} {ey:Nat} {M0:List Nat} (hm:ar W M0 X W [] [U J.a' ag ah a_.aD,U (ak .i64) aK aO a_.aA,U (aG J.aW) aR aU a_.Fields,U (aG bE) bl bp a_.Names,U (aG J.bS) bg bj a_.az,U J.a' bB bC b_.aD,U (ak .i64) bA bD b_.aA,U (aG J.aW) fh fr b_.Fields,U (aG bE) e4 ff b_.Names,U (aG J.bS) dR ey b_.az]) (h:J.BB F a_ b_=some r) :
 Calls Tryz.prog 85 [.agg #[.q ag ah a_.aD,.q aK aO a_.aA,.q aR aU a_.Fields,.q bl bp a_.Names,.q bg bj a_.az],.agg #[.q bB bC b_.aD,.q bA bD b_.aA,.q fh fr b_.Fields,.q e4 ff b_.Names,.q dR ey b_.az]].toArray W (fun e aF=>e= .returned (.bool r)/\ar W M0 X aF [] []):=by
 refine enter Tryz.func85 rfl Tryz.ntmps85 rfl fun a I=>?_;rw [J.BB] at h;refine wp_seq_k fun K c6=>aY <| cD (cs:=[.q ag ah a_.aD,.q aK aO a_.aA,.q aR aU a_.Fields,.q bl bp a_.Names,.q bg bj a_.az]) wn (ei rfl rfl (I.g rfl)) I hm rfl rfl fun a cx w _ I hm=>cD (cs:=[.q bB bC b_.aD,.q bA bD b_.aA,.q fh fr b_.Fields,.q e4 ff b_.Names,.q dR ey b_.az]) wn (ei rfl rfl (I.g rfl)) I hm rfl rfl fun a eR w _ I hm=>aN 1 [] [] I fun a I=>wpList_nil (c6 _ _ ?_);refine wp_seq_k fun K bN=>?_
 refine eE [0,1] [(5,.i (a_.aA.length:Int))] [cx,1] (av (a2 (hm.e 1 rfl)) aw) I fun a I=>bN _ _ <| wp_seq_k fun K cb=>wp_seq_k fun K c3=>aY <| bi 4 [0,0,1,0] [(16,.q ag ah a_.aD),(18,.q bB bC b_.aD)] [eR,0,cx,0] (av (a2 (hm.e 1 rfl)) (av (a2 (hm.e 0 rfl)) aw)) I fun a I=>?_;obtain ⟨yb,T8,h⟩:=J.aH h;have hc:=hm;refine bP (vs:=[.q ag ah a_.aD,.q bB bC b_.aD]) wn rfl Tryz.call113 ⟨(I.g rfl),(I.g rfl),trivial⟩ (aiy ((hc.into 0).pick ⟨⟨0,rfl⟩,⟨5,rfl⟩,trivial⟩) T8) I rfl rfl ?_;rintro _ w ⟨rfl,af⟩;refine ⟨_,rfl,fun a I=>?_⟩;have ad:ba [] _ w:=af.ev;have hm:=hc.back 0 af
 clear af hc;clear ad;refine bi 35 [0,0,0,1,0,0,0,0,0,0,1,2,0,0,0,0,2,0,0,0,0,0,1,3,0,0,0,0,3,0,0,0,0,0,1,4,0,0,0,0,4,0,0,0] [(54,.bool (((((!yb) || (!decide ((b_.aA.length:Int)=(a_.aA.length:Int)))) || (!decide ((a_.Fields.length:Int)=(b_.Fields.length:Int)))) || (!decide ((a_.Names.length:Int)=(b_.Names.length:Int)))) || (!decide ((a_.az.length:Int)=(b_.az.length:Int)))))] [eR,4,cx,4,eR,3,cx,3,eR,2,cx,2,eR,1] (av (a2 (hm.e 0 rfl)) (av (a2 (hm.e 1 rfl)) aw)) I fun a I=>wpList_nil (c3 _ _ ?_);refine bk (I.g rfl) h (fun zE h=>?_) (fun zE h=>?_)
 · refine bt [] [(4,.bool false)] I fun a I=>wp_ret ?_;obtain rfl:=ay h;refine aj <| bq Tryz.results85 I rfl ?_;exact ⟨rfl,hm.aX [] []⟩
 refine wp_skip <| cb _ _ <| wp_seq_k fun K dE=>bb [] [(6,.i 0)] I fun a I=>?_;obtain ⟨V1,h,Ty⟩:=J.dZ h
 refine ca (fun a w=>Fr ⟨184,[]⟩ [(2,.aL cx),(3,.aL eR)] a/\ar W M0 X w [aq.br eR 30 [.q bB bC b_.aD,.q bA bD b_.aA,.q fh fr b_.Fields,.q e4 ff b_.Names,.q dR ey b_.az],aq.br cx 30 [.q ag ah a_.aD,.q aK aO a_.aA,.q aR aU a_.Fields,.q bl bp a_.Names,.q bg bj a_.az]] [U J.a' ag ah a_.aD,U (ak .i64) aK aO a_.aA,U (aG J.aW) aR aU a_.Fields,U (aG bE) bl bp a_.Names,U (aG J.bS) bg bj a_.az,U J.a' bB bC b_.aD,U (ak .i64) bA bD b_.aA,U (aG J.aW) fh fr b_.Fields,U (aG bE) e4 ff b_.Names,U (aG J.bS) dR ey b_.az]/\V1=(.go ())) (fun K cN=>?_) ?_
 · refine cw (fun (bu:Nat) a w=>∃ (lX:Int),Fr ⟨184,[]⟩ [(2,.aL cx),(3,.aL eR),(5,.i (a_.aA.length:Int)),(6,.i lX)] a/\ar W M0 X w [aq.br eR 30 [.q bB bC b_.aD,.q bA bD b_.aA,.q fh fr b_.Fields,.q e4 ff b_.Names,.q dR ey b_.az],aq.br cx 30 [.q ag ah a_.aD,.q aK aO a_.aA,.q aR aU a_.Fields,.q bl bp a_.Names,.q bg bj a_.az]] [U J.a' ag ah a_.aD,U (ak .i64) aK aO a_.aA,U (aG J.aW) aR aU a_.Fields,U (aG bE) bl bp a_.Names,U (aG J.bS) bg bj a_.az,U J.a' bB bC b_.aD,U (ak .i64) bA bD b_.aA,U (aG J.aW) fh fr b_.Fields,U (aG bE) e4 ff b_.Names,U (aG J.bS) dR ey b_.az]/\J.wz a_ b_ bu lX=some V1) F ⟨0,I.cut,hm,h⟩ ?_ ?_
   · rintro a w ⟨lX,I,hm,h⟩;exact absurd h (by simp [J.wz])
   rintro bu a w ⟨lX,I,hm,h⟩ K dq;rw [J.wz] at h;refine wp_seq_k fun K dc=>bb [] [(57,.bool (decide (lX <(a_.aA.length:Int))))] I fun a I=>bk (I.g rfl) h (fun aos h=>?_) (fun aos h=>?_)
   · refine wp_skip <| dc _ _ <| wp_seq_k fun K dS=>wp_block <| wp_seq_k fun K dL=>hA (by kernel_rfl) (by kernel_rfl) <| dB 3 [0,1] [(61,.q aK aO a_.aA),(62,.i lX)] [cx,1] (fun a6 ad=>(av (b2 ad (a2 (hm.e 1 rfl))) aw)) I fun a I=>?_;obtain ⟨Nb,aBB,h⟩:=J.aH h;obtain ⟨akM,avE,_,rfl,arn⟩:=bX _ (hm.d 1 rfl) aBB;refine ek wn (fun a6 ad=>bF Tryz.underlying22 Tryz.sizeOf3 rfl (I.g rfl) (I.g rfl) akM avE) I rfl rfl fun a I=>?_
     refine dB 4 [0,0,1,1] [(64,.i Nb),(66,.q bA bD b_.aA),(67,.i lX)] [eR,1,bG aK,bH aK+(lX).toNat* 1] (fun a6 ad=>(av (b2 ad arn) (av (b2 ad (a2 (hm.e 0 rfl))) aw))) I fun a I=>?_;obtain ⟨vh,Ur,h⟩:=J.aH h;obtain ⟨QF,RX,_,rfl,Rn⟩:=bX _ (hm.d 6 rfl) Ur;refine ek wn (fun a6 ad=>bF Tryz.underlying22 Tryz.sizeOf3 rfl (I.g rfl) (I.g rfl) QF RX) I rfl rfl fun a I=>dB 2 [0,0] [(70,.bool (!decide (Nb=vh)))] [bG bA,bH bA+(lX).toNat* 1] (fun a6 ad=>(av (b2 ad Rn) aw)) I fun a I=>wpQuiet_nil fun w ad=>?_;have hm:=hm.dw ad;clear ad;refine dL _ _ ?_
     refine bk (I.g rfl) h (fun aoA h=>?_) (fun aoA h=>?_)
     · refine bt [] [(4,.bool false)] I fun a I=>wp_ret ?_;obtain rfl:=ay h;obtain rfl:=ay Ty;refine a8 (aj (aj (a8 (aj (aj ?_)))));refine bq Tryz.results85 I rfl ?_;exact ⟨rfl,hm.aX [] []⟩
     refine wp_skip <| dS _ _ <| cg [] [(6,.i (J.ap (lX+ 1)))] I fun a I=>?_;exact dq _ _ ⟨J.ap (lX+ 1),I.cut,hm,h⟩
   refine wp_exit <| bz (bz (cr ?_));exact cN _ _ ⟨I.cut,hm,(os h)⟩
 rintro a w ⟨I,hm,bc⟩;subst V1;have h:=Ty;clear Ty;dsimp only [J.dW] at h;refine dE _ _ <| wp_seq_k fun K eX=>bb [] [(7,.i 0)] I fun a I=>?_;obtain ⟨U3,h,Sq⟩:=J.dZ h
 refine ca (fun a w=>Fr ⟨184,[]⟩ [(2,.aL cx),(3,.aL eR)] a/\ar W M0 X w [aq.br eR 30 [.q bB bC b_.aD,.q bA bD b_.aA,.q fh fr b_.Fields,.q e4 ff b_.Names,.q dR ey b_.az],aq.br cx 30 [.q ag ah a_.aD,.q aK aO a_.aA,.q aR aU a_.Fields,.q bl bp a_.Names,.q bg bj a_.az]] [U J.a' ag ah a_.aD,U (ak .i64) aK aO a_.aA,U (aG J.aW) aR aU a_.Fields,U (aG bE) bl bp a_.Names,U (aG J.bS) bg bj a_.az,U J.a' bB bC b_.aD,U (ak .i64) bA bD b_.aA,U (aG J.aW) fh fr b_.Fields,U (aG bE) e4 ff b_.Names,U (aG J.bS) dR ey b_.az]/\U3=(.go ())) (fun K g9=>?_) ?_
 · refine cw (fun (c7:Nat) a w=>∃ (lR:Int),Fr ⟨184,[]⟩ [(2,.aL cx),(3,.aL eR),(7,.i lR)] a/\ar W M0 X w [aq.br eR 30 [.q bB bC b_.aD,.q bA bD b_.aA,.q fh fr b_.Fields,.q e4 ff b_.Names,.q dR ey b_.az],aq.br cx 30 [.q ag ah a_.aD,.q aK aO a_.aA,.q aR aU a_.Fields,.q bl bp a_.Names,.q bg bj a_.az]] [U J.a' ag ah a_.aD,U (ak .i64) aK aO a_.aA,U (aG J.aW) aR aU a_.Fields,U (aG bE) bl bp a_.Names,U (aG J.bS) bg bj a_.az,U J.a' bB bC b_.aD,U (ak .i64) bA bD b_.aA,U (aG J.aW) fh fr b_.Fields,U (aG bE) e4 ff b_.Names,U (aG J.bS) dR ey b_.az]/\J.wA F a_ b_ c7 lR=some U3) F ⟨0,I.cut,hm,h⟩ ?_ ?_
   · rintro a w ⟨lR,I,hm,h⟩;exact absurd h (by simp [J.wA])
   rintro c7 a w ⟨lR,I,hm,h⟩ K fu;rw [J.wA] at h;refine wp_seq_k fun K fK=>wp_seq_k fun K fR=>eE [0,2] [(75,.bool (decide (lR <(a_.Fields.length:Int))))] [cx,2] (av (a2 (hm.e 1 rfl)) aw) I fun a I=>fR _ _ <| bk (I.g rfl) h (fun apm h=>?_) (fun apm h=>?_)
   · refine wp_skip <| fK _ _ <| wp_seq_k fun K gm=>wp_block <| wp_seq_k fun K gK=>hk (m:=12) 12 (ba []) (by kernel_rfl) rfl fun w ad=>?_;have hm:=hm.dw ad;clear ad;have bh:=hm;have aB:=ba.refl [] w;refine ch [0,1,2,5,6,7] 6 [0,2,1,2] [(79,.q aR aU a_.Fields),(80,.i lR),(84,.q fh fr b_.Fields),(85,.i lR)] [eR,2,cx,2] (fun a6 ad=>(av (b2 ad (a2 (bh.e 1 rfl))) (av (b2 ad (a2 (bh.e 0 rfl))) aw))) I aB fun a I=>?_;obtain ⟨Dr,aCd,h⟩:=J.aH h;obtain ⟨als,awj,aI2,T7,ar4⟩:=bX _ (bh.d 2 rfl) aCd;obtain ⟨Jc,J1,aBk⟩:=fT T7;subst aBk
     have bh:=bh.more (y:=U J.aW Jc J1 Dr) T7;have hm:=hm.more (y:=U J.aW Jc J1 Dr) T7;refine eM 3 rfl (by kernel_rfl) wn (fun a6=>bF Tryz.underlying26 Tryz.sizeOf106 rfl (I.g rfl) (I.g rfl) als awj) aB I rfl rfl fun a I=>ch [4] 1 [0,0] [(82,.q Jc J1 Dr)] [bG aR,bH aR+(lR).toNat* 1] (fun a6 ad=>(av (b2 ad ar4) aw)) I aB fun a I=>?_;obtain ⟨Dt,aCg,h⟩:=J.aH h;obtain ⟨alv,awl,aI3,T9,ar6⟩:=bX _ (bh.d 8 rfl) aCg;obtain ⟨Bd,BR,aBl⟩:=fT T9;subst aBl
     have bh:=bh.more (y:=U J.aW Bd BR Dt) T9;have hm:=hm.more (y:=U J.aW Bd BR Dt) T9;refine eM 8 rfl (by kernel_rfl) wn (fun a6=>bF Tryz.underlying26 Tryz.sizeOf106 rfl (I.g rfl) (I.g rfl) alv awl) aB I rfl rfl fun a I=>ch [9] 1 [0,0] [(87,.q Bd BR Dt)] [bG fh,bH fh+(lR).toNat* 1] (fun a6 ad=>(av (b2 ad ar6) aw)) I aB fun a I=>da 10 rfl (by kernel_rfl) (fun _=>aB) ?_;obtain ⟨W5,azY,h⟩:=J.aH h;have hc:=hm
     refine bP (vs:=[.q Jc J1 Dr,.q Bd BR Dt]) wn rfl Tryz.call114 ⟨(I.g rfl),(I.g rfl),trivial⟩ (aa' ((hc.into 0).pick ⟨⟨1,rfl⟩,⟨0,rfl⟩,trivial⟩) azY) I rfl rfl ?_;rintro _ w ⟨rfl,af⟩;refine ⟨_,rfl,fun a I=>?_⟩;have ad:ba [] _ w:=af.ev;have hm:=hc.back 0 af;clear af hc;have aB:=fo aB ad;clear ad;refine c5 <| ch [11] 1 [] [(89,.bool (!W5))] [] (fun a6 ad=>aw) I aB fun a I=>fm (by kernel_rfl) ?_ (fun _=>aB);clear bh aB;refine gK _ _ <| bk (I.g rfl) h (fun aps h=>?_) (fun aps h=>?_)
     · refine bt [] [(4,.bool false)] I fun a I=>wp_ret ?_;obtain rfl:=ay h;obtain rfl:=ay Sq;refine a8 (aj (aj (a8 (aj (aj ?_)))));refine bq Tryz.results85 I rfl ?_;exact ⟨rfl,hm.aX [] []⟩
     refine wp_skip <| gm _ _ <| cg [] [(7,.i (J.ap (lR+ 1)))] I fun a I=>?_;exact fu _ _ ⟨J.ap (lR+ 1),I.cut,hm.eA [2,3,4,5,6,7,8,9,10,11],h⟩
   refine wp_exit <| bz (bz (cr ?_));exact g9 _ _ ⟨I.cut,hm,(os h)⟩
 rintro a w ⟨I,hm,bc⟩;subst U3;have h:=Sq;clear Sq;dsimp only [J.dW] at h;refine eX _ _ <| wp_seq_k fun K hX=>bb [] [(8,.i 0)] I fun a I=>?_;obtain ⟨U7,h,K_⟩:=J.dZ h
 refine ca (fun a w=>Fr ⟨184,[]⟩ [(2,.aL cx),(3,.aL eR)] a/\ar W M0 X w [aq.br eR 30 [.q bB bC b_.aD,.q bA bD b_.aA,.q fh fr b_.Fields,.q e4 ff b_.Names,.q dR ey b_.az],aq.br cx 30 [.q ag ah a_.aD,.q aK aO a_.aA,.q aR aU a_.Fields,.q bl bp a_.Names,.q bg bj a_.az]] [U J.a' ag ah a_.aD,U (ak .i64) aK aO a_.aA,U (aG J.aW) aR aU a_.Fields,U (aG bE) bl bp a_.Names,U (aG J.bS) bg bj a_.az,U J.a' bB bC b_.aD,U (ak .i64) bA bD b_.aA,U (aG J.aW) fh fr b_.Fields,U (aG bE) e4 ff b_.Names,U (aG J.bS) dR ey b_.az]/\U7=(.go ())) (fun K hp=>?_) ?_
 · refine cw (fun (et:Nat) a w=>∃ (gM:Int),Fr ⟨184,[]⟩ [(2,.aL cx),(3,.aL eR),(8,.i gM)] a/\ar W M0 X w [aq.br eR 30 [.q bB bC b_.aD,.q bA bD b_.aA,.q fh fr b_.Fields,.q e4 ff b_.Names,.q dR ey b_.az],aq.br cx 30 [.q ag ah a_.aD,.q aK aO a_.aA,.q aR aU a_.Fields,.q bl bp a_.Names,.q bg bj a_.az]] [U J.a' ag ah a_.aD,U (ak .i64) aK aO a_.aA,U (aG J.aW) aR aU a_.Fields,U (aG bE) bl bp a_.Names,U (aG J.bS) bg bj a_.az,U J.a' bB bC b_.aD,U (ak .i64) bA bD b_.aA,U (aG J.aW) fh fr b_.Fields,U (aG bE) e4 ff b_.Names,U (aG J.bS) dR ey b_.az]/\J.wB F a_ b_ et gM=some U7) F ⟨0,I.cut,hm,h⟩ ?_ ?_
   · rintro a w ⟨gM,I,hm,h⟩;exact absurd h (by simp [J.wB])
   rintro et a w ⟨gM,I,hm,h⟩ K hq;rw [J.wB] at h;refine wp_seq_k fun K jC=>wp_seq_k fun K jl=>eE [0,3] [(94,.bool (decide (gM <(a_.Names.length:Int))))] [cx,3] (av (a2 (hm.e 1 rfl)) aw) I fun a I=>jl _ _ <| bk (I.g rfl) h (fun apy h=>?_) (fun apy h=>?_)
   · refine wp_skip <| jC _ _ <| wp_seq_k fun K my=>?_;obtain ⟨aed,h,Lc⟩:=J.eT h
     refine ca (fun a w=>Fr ⟨184,[]⟩ [(2,.aL cx),(3,.aL eR),(8,.i gM)] a/\ar W M0 X w [aq.br eR 30 [.q bB bC b_.aD,.q bA bD b_.aA,.q fh fr b_.Fields,.q e4 ff b_.Names,.q dR ey b_.az],aq.br cx 30 [.q ag ah a_.aD,.q aK aO a_.aA,.q aR aU a_.Fields,.q bl bp a_.Names,.q bg bj a_.az]] [U J.a' ag ah a_.aD,U (ak .i64) aK aO a_.aA,U (aG J.aW) aR aU a_.Fields,U (aG bE) bl bp a_.Names,U (aG J.bS) bg bj a_.az,U J.a' bB bC b_.aD,U (ak .i64) bA bD b_.aA,U (aG J.aW) fh fr b_.Fields,U (aG bE) e4 ff b_.Names,U (aG J.bS) dR ey b_.az]/\aed=(.go ())) (fun K jD=>?_) ?_
     · refine wp_seq_k fun K jE=>wp_seq_k fun K j9=>hA (by kernel_rfl) (by kernel_rfl) <| dB 3 [0,3] [(98,.q bl bp a_.Names),(99,.i gM)] [cx,3] (fun a6 ad=>(av (b2 ad (a2 (hm.e 1 rfl))) aw)) I fun a I=>?_;obtain ⟨AQ,aCs,h⟩:=J.aH h;obtain ⟨alJ,awz,aI5,ado,asi⟩:=bX _ (hm.d 3 rfl) aCs;obtain ⟨O6,PK,aBn⟩:=fT ado;subst aBn;have hm:=hm.more (y:=U bE O6 PK AQ) ado;refine ek wn (fun a6 ad=>bF Tryz.underlying27 Tryz.sizeOf125 rfl (I.g rfl) (I.g rfl) alJ awz) I rfl rfl fun a I=>?_
       refine dB 5 [0,0,1,3] [(102,.i (AQ.length:Int)),(104,.q e4 ff b_.Names),(105,.i gM)] [eR,3,bG bl,bH bl+(gM).toNat* 1] (fun a6 ad=>(av (b2 ad asi) (av (b2 ad (a2 (hm.e 0 rfl))) aw))) I fun a I=>?_;obtain ⟨Du,aCt,h⟩:=J.aH h;obtain ⟨alK,awA,aI6,adp,asj⟩:=bX _ (hm.d 9 rfl) aCt;obtain ⟨O7,PL,aBo⟩:=fT adp;subst aBo;have hm:=hm.more (y:=U bE O7 PL Du) adp;refine ek wn (fun a6 ad=>bF Tryz.underlying27 Tryz.sizeOf125 rfl (I.g rfl) (I.g rfl) alK awA) I rfl rfl fun a I=>?_
       refine dB 3 [0,0] [(109,.bool (!decide ((AQ.length:Int)=(Du.length:Int))))] [bG e4,bH e4+(gM).toNat* 1] (fun a6 ad=>(av (b2 ad asj) aw)) I fun a I=>wpQuiet_nil fun w ad=>?_;have hm:=hm.dw ad;clear ad;refine j9 _ _ <| bk (I.g rfl) h (fun apF h=>?_) (fun apF h=>?_)
       · refine bt [] [(4,.bool false)] I fun a I=>wp_ret ?_;obtain rfl:=ay h;obtain rfl:=ay Lc;obtain rfl:=ay K_;refine aj (a8 (aj (aj (aj (a8 (aj (aj ?_)))))));refine bq Tryz.results85 I rfl ?_;exact ⟨rfl,hm.aX [] []⟩
       refine wp_skip <| jE _ _ <| bb [] [(9,.i 0)] I fun a I=>?_;obtain ⟨Vr,h,SP⟩:=J.eT h
       refine ca (fun a w=>Fr ⟨184,[]⟩ [(2,.aL cx),(3,.aL eR),(8,.i gM)] a/\ar W M0 X w [aq.br eR 30 [.q bB bC b_.aD,.q bA bD b_.aA,.q fh fr b_.Fields,.q e4 ff b_.Names,.q dR ey b_.az],aq.br cx 30 [.q ag ah a_.aD,.q aK aO a_.aA,.q aR aU a_.Fields,.q bl bp a_.Names,.q bg bj a_.az]] [U bE O7 PL Du,U bE O6 PK AQ,U J.a' ag ah a_.aD,U (ak .i64) aK aO a_.aA,U (aG J.aW) aR aU a_.Fields,U (aG bE) bl bp a_.Names,U (aG J.bS) bg bj a_.az,U J.a' bB bC b_.aD,U (ak .i64) bA bD b_.aA,U (aG J.aW) fh fr b_.Fields,U (aG bE) e4 ff b_.Names,U (aG J.bS) dR ey b_.az]/\Vr=(.go ())) (fun K ot=>?_) ?_
       · refine cw (fun (fy:Nat) a w=>∃ (lc:Int),Fr ⟨184,[]⟩ [(2,.aL cx),(3,.aL eR),(8,.i gM),(9,.i lc)] a/\ar W M0 X w [aq.br eR 30 [.q bB bC b_.aD,.q bA bD b_.aA,.q fh fr b_.Fields,.q e4 ff b_.Names,.q dR ey b_.az],aq.br cx 30 [.q ag ah a_.aD,.q aK aO a_.aA,.q aR aU a_.Fields,.q bl bp a_.Names,.q bg bj a_.az]] [U bE O7 PL Du,U bE O6 PK AQ,U J.a' ag ah a_.aD,U (ak .i64) aK aO a_.aA,U (aG J.aW) aR aU a_.Fields,U (aG bE) bl bp a_.Names,U (aG J.bS) bg bj a_.az,U J.a' bB bC b_.aD,U (ak .i64) bA bD b_.aA,U (aG J.aW) fh fr b_.Fields,U (aG bE) e4 ff b_.Names,U (aG J.bS) dR ey b_.az]/\J.wC a_ b_ gM fy lc=some Vr) F ⟨0,I.cut,hm,h⟩ ?_ ?_
         · rintro a w ⟨lc,I,hm,h⟩;exact absurd h (by simp [J.wC])
         rintro fy a w ⟨lc,I,hm,h⟩ K lF;rw [J.wC] at h;refine wp_seq_k fun K ou=>wp_seq_k fun K lG=>aY <| bi 4 [0,3] [(110,.i lc),(112,.q bl bp a_.Names),(113,.i gM)] [cx,3] (av (a2 (hm.e 1 rfl)) aw) I fun a I=>?_;obtain ⟨Nr,aCv,h⟩:=J.aH h;obtain ⟨alM,awC,aI7,adq,asm⟩:=bX _ (hm.d 5 rfl) aCv;obtain ⟨ag6,ah1,aBp⟩:=fT adq;subst aBp;have hm:=hm.more (y:=U bE ag6 ah1 Nr) adq;refine bQ wn (bF Tryz.underlying27 Tryz.sizeOf125 rfl (I.g rfl) (I.g rfl) alM awC) I rfl rfl fun a I=>?_
         refine bi 3 [0,0] [(117,.bool (decide (lc <(Nr.length:Int))))] [bG bl,bH bl+(gM).toNat* 1] (av asm aw) I fun a I=>wpList_nil (lG _ _ ?_);refine bk (I.g rfl) h (fun apH h=>?_) (fun apH h=>?_)
         · refine wp_skip <| ou _ _ <| wp_seq_k fun K mz=>wp_block <| wp_seq_k fun K qN=>hA (by kernel_rfl) (by kernel_rfl) <| dB 3 [0,3] [(121,.q bl bp a_.Names),(122,.i gM)] [cx,3] (fun a6 ad=>(av (b2 ad (a2 (hm.e 1 rfl))) aw)) I fun a I=>?_;obtain ⟨Ns,aCw,h⟩:=J.aH h;obtain ⟨alN,awD,aI8,adr,asn⟩:=bX _ (hm.d 6 rfl) aCw;obtain ⟨Jd,aav,aBq⟩:=fT adr;subst aBq;have hm:=hm.more (y:=U bE Jd aav Ns) adr;refine ek wn (fun a6 ad=>bF Tryz.underlying27 Tryz.sizeOf125 rfl (I.g rfl) (I.g rfl) alN awD) I rfl rfl fun a I=>?_
           refine dB 2 [0,0] [(124,.q Jd aav Ns),(125,.i lc)] [bG bl,bH bl+(gM).toNat* 1] (fun a6 ad=>(av (b2 ad asn) aw)) I fun a I=>?_;obtain ⟨Nv,aCz,h⟩:=J.aH h;obtain ⟨alQ,awG,_,rfl,asq⟩:=bX _ (hm.d 0 rfl) aCz;refine ek wn (fun a6 ad=>bF Tryz.underlying125 Tryz.sizeOf9 rfl (I.g rfl) (I.g rfl) alQ awG) I rfl rfl fun a I=>dB 4 [0,0,1,3] [(127,ao Nv),(129,.q e4 ff b_.Names),(130,.i gM)] [eR,3,bG Jd,bH Jd+(lc).toNat* 1] (fun a6 ad=>(av (b2 ad asq) (av (b2 ad (a2 (hm.e 0 rfl))) aw))) I fun a I=>?_;obtain ⟨Nx,aCB,h⟩:=J.aH h
           obtain ⟨alS,awI,aI9,ads,ass⟩:=bX _ (hm.d 12 rfl) aCB;obtain ⟨Jf,aaw,aBr⟩:=fT ads;subst aBr;have hm:=hm.more (y:=U bE Jf aaw Nx) ads;refine ek wn (fun a6 ad=>bF Tryz.underlying27 Tryz.sizeOf125 rfl (I.g rfl) (I.g rfl) alS awI) I rfl rfl fun a I=>dB 2 [0,0] [(132,.q Jf aaw Nx),(133,.i lc)] [bG e4,bH e4+(gM).toNat* 1] (fun a6 ad=>(av (b2 ad ass) aw)) I fun a I=>?_;obtain ⟨Yc,aCD,h⟩:=J.aH h;obtain ⟨alU,awK,_,rfl,asu⟩:=bX _ (hm.d 0 rfl) aCD
           refine ek wn (fun a6 ad=>bF Tryz.underlying125 Tryz.sizeOf9 rfl (I.g rfl) (I.g rfl) alU awK) I rfl rfl fun a I=>dB 2 [0,0] [(136,.bool (!decide (Nv=Yc)))] [bG Jf,bH Jf+(lc).toNat* 1] (fun a6 ad=>(av (b2 ad asu) aw)) I fun a I=>wpQuiet_nil fun w ad=>?_;have hm:=hm.dw ad;clear ad;refine qN _ _ <| bk (I.g rfl) h (fun apK h=>?_) (fun apK h=>?_)
           · refine bt [] [(4,.bool false)] I fun a I=>wp_ret ?_;obtain rfl:=ay h;obtain rfl:=ay SP;obtain rfl:=ay Lc;obtain rfl:=ay K_;refine a8 (aj (aj (a8 (aj (a8 (aj (aj (aj (a8 (aj (aj ?_)))))))))));refine bq Tryz.results85 I rfl ?_;exact ⟨rfl,hm.aX [] []⟩
           refine wp_skip <| mz _ _ <| cg [] [(9,.i (J.ap (lc+ 1)))] I fun a I=>?_;exact lF _ _ ⟨J.ap (lc+ 1),I.cut,hm.eA [3,4,5,6,7,8,9,10,11,12,13,14],h⟩
         refine wp_exit <| bz (bz (cr ?_));exact ot _ _ ⟨I.cut,hm.eA [1,2,3,4,5,6,7,8,9,10,11,12],(os h)⟩
       rintro a w ⟨I,hm,bc⟩;subst Vr;have h:=SP;clear SP;dsimp only [J.eN] at h;exact jD _ _ ⟨I.cut,hm.eA [2,3,4,5,6,7,8,9,10,11],(os h)⟩
     rintro a w ⟨I,hm,bc⟩;subst aed;have h:=Lc;clear Lc;dsimp only [J.eN] at h;refine my _ _ <| cg [] [(8,.i (J.ap (gM+ 1)))] I fun a I=>?_;exact hq _ _ ⟨J.ap (gM+ 1),I.cut,hm,h⟩
   refine wp_exit <| bz (bz (cr ?_));exact hp _ _ ⟨I.cut,hm,(os h)⟩
 rintro a w ⟨I,hm,bc⟩;subst U7;have h:=K_;clear K_;dsimp only [J.dW] at h;refine hX _ _ <| wp_seq_k fun K mA=>bb [] [(10,.i 0)] I fun a I=>?_;obtain ⟨VN,h,Lj⟩:=J.dZ h
 refine ca (fun a w=>Fr ⟨184,[]⟩ [] a/\ar W M0 X w [aq.br eR 30 [.q bB bC b_.aD,.q bA bD b_.aA,.q fh fr b_.Fields,.q e4 ff b_.Names,.q dR ey b_.az],aq.br cx 30 [.q ag ah a_.aD,.q aK aO a_.aA,.q aR aU a_.Fields,.q bl bp a_.Names,.q bg bj a_.az]] [U J.a' ag ah a_.aD,U (ak .i64) aK aO a_.aA,U (aG J.aW) aR aU a_.Fields,U (aG bE) bl bp a_.Names,U (aG J.bS) bg bj a_.az,U J.a' bB bC b_.aD,U (ak .i64) bA bD b_.aA,U (aG J.aW) fh fr b_.Fields,U (aG bE) e4 ff b_.Names,U (aG J.bS) dR ey b_.az]/\VN=(.go ())) (fun K qO=>?_) ?_
 · refine cw (fun (hZ:Nat) a w=>∃ (gC:Int),Fr ⟨184,[]⟩ [(2,.aL cx),(3,.aL eR),(10,.i gC)] a/\ar W M0 X w [aq.br eR 30 [.q bB bC b_.aD,.q bA bD b_.aA,.q fh fr b_.Fields,.q e4 ff b_.Names,.q dR ey b_.az],aq.br cx 30 [.q ag ah a_.aD,.q aK aO a_.aA,.q aR aU a_.Fields,.q bl bp a_.Names,.q bg bj a_.az]] [U J.a' ag ah a_.aD,U (ak .i64) aK aO a_.aA,U (aG J.aW) aR aU a_.Fields,U (aG bE) bl bp a_.Names,U (aG J.bS) bg bj a_.az,U J.a' bB bC b_.aD,U (ak .i64) bA bD b_.aA,U (aG J.aW) fh fr b_.Fields,U (aG bE) e4 ff b_.Names,U (aG J.bS) dR ey b_.az]/\J.wD F a_ b_ hZ gC=some VN) F ⟨0,I.cut,hm,h⟩ ?_ ?_
   · rintro a w ⟨gC,I,hm,h⟩;exact absurd h (by simp [J.wD])
   rintro hZ a w ⟨gC,I,hm,h⟩ K ov;rw [J.wD] at h;refine wp_seq_k fun K ow=>wp_seq_k fun K mB=>eE [0,4] [(141,.bool (decide (gC <(a_.az.length:Int))))] [cx,4] (av (a2 (hm.e 1 rfl)) aw) I fun a I=>mB _ _ <| bk (I.g rfl) h (fun aqT h=>?_) (fun aqT h=>?_)
   · refine wp_skip <| ow _ _ <| wp_seq_k fun K r_=>?_;obtain ⟨aew,h,Lk⟩:=J.eT h
     refine ca (fun a w=>Fr ⟨184,[]⟩ [(2,.aL cx),(3,.aL eR),(10,.i gC)] a/\ar W M0 X w [aq.br eR 30 [.q bB bC b_.aD,.q bA bD b_.aA,.q fh fr b_.Fields,.q e4 ff b_.Names,.q dR ey b_.az],aq.br cx 30 [.q ag ah a_.aD,.q aK aO a_.aA,.q aR aU a_.Fields,.q bl bp a_.Names,.q bg bj a_.az]] [U J.a' ag ah a_.aD,U (ak .i64) aK aO a_.aA,U (aG J.aW) aR aU a_.Fields,U (aG bE) bl bp a_.Names,U (aG J.bS) bg bj a_.az,U J.a' bB bC b_.aD,U (ak .i64) bA bD b_.aA,U (aG J.aW) fh fr b_.Fields,U (aG bE) e4 ff b_.Names,U (aG J.bS) dR ey b_.az]/\aew=(.go ())) (fun K tC=>?_) ?_
     · refine wp_seq_k fun K tD=>wp_seq_k fun K r'=>hA (by kernel_rfl) (by kernel_rfl) <| dB 3 [0,4] [(145,.q bg bj a_.az),(146,.i gC)] [cx,4] (fun a6 ad=>(av (b2 ad (a2 (hm.e 1 rfl))) aw)) I fun a I=>?_;obtain ⟨AX,aDy,h⟩:=J.aH h;obtain ⟨amQ,axG,aI_,adt,atq⟩:=bX _ (hm.d 4 rfl) aDy;obtain ⟨Ph,PW,aBs⟩:=fT adt;subst aBs;have hm:=hm.more (y:=U J.bS Ph PW AX) adt;refine ek wn (fun a6 ad=>bF Tryz.underlying28 Tryz.sizeOf126 rfl (I.g rfl) (I.g rfl) amQ axG) I rfl rfl fun a I=>?_
       refine dB 5 [0,0,1,4] [(149,.i (AX.length:Int)),(151,.q dR ey b_.az),(152,.i gC)] [eR,4,bG bg,bH bg+(gC).toNat* 1] (fun a6 ad=>(av (b2 ad atq) (av (b2 ad (a2 (hm.e 0 rfl))) aw))) I fun a I=>?_;obtain ⟨DA,aDz,h⟩:=J.aH h;obtain ⟨amR,axH,aI',adu,atr⟩:=bX _ (hm.d 10 rfl) aDz;obtain ⟨Pj,PX,aBt⟩:=fT adu;subst aBt;have hm:=hm.more (y:=U J.bS Pj PX DA) adu;refine ek wn (fun a6 ad=>bF Tryz.underlying28 Tryz.sizeOf126 rfl (I.g rfl) (I.g rfl) amR axH) I rfl rfl fun a I=>?_
       refine dB 3 [0,0] [(156,.bool (!decide ((AX.length:Int)=(DA.length:Int))))] [bG dR,bH dR+(gC).toNat* 1] (fun a6 ad=>(av (b2 ad atr) aw)) I fun a I=>wpQuiet_nil fun w ad=>?_;have hm:=hm.dw ad;clear ad;refine r' _ _ <| bk (I.g rfl) h (fun aqW h=>?_) (fun aqW h=>?_)
       · refine bt [] [(4,.bool false)] I fun a I=>wp_ret ?_;obtain rfl:=ay h;obtain rfl:=ay Lk;obtain rfl:=ay Lj;refine aj (a8 (aj (aj (aj (a8 (aj (aj ?_)))))));refine bq Tryz.results85 I rfl ?_;exact ⟨rfl,hm.aX [] []⟩
       refine wp_skip <| tD _ _ <| bb [] [(11,.i 0)] I fun a I=>?_;obtain ⟨V2,h,Tz⟩:=J.eT h
       refine ca (fun a w=>Fr ⟨184,[]⟩ [(2,.aL cx),(3,.aL eR),(10,.i gC)] a/\ar W M0 X w [aq.br eR 30 [.q bB bC b_.aD,.q bA bD b_.aA,.q fh fr b_.Fields,.q e4 ff b_.Names,.q dR ey b_.az],aq.br cx 30 [.q ag ah a_.aD,.q aK aO a_.aA,.q aR aU a_.Fields,.q bl bp a_.Names,.q bg bj a_.az]] [U J.bS Pj PX DA,U J.bS Ph PW AX,U J.a' ag ah a_.aD,U (ak .i64) aK aO a_.aA,U (aG J.aW) aR aU a_.Fields,U (aG bE) bl bp a_.Names,U (aG J.bS) bg bj a_.az,U J.a' bB bC b_.aD,U (ak .i64) bA bD b_.aA,U (aG J.aW) fh fr b_.Fields,U (aG bE) e4 ff b_.Names,U (aG J.bS) dR ey b_.az]/\V2=(.go ())) (fun K tF=>?_) ?_
       · refine cw (fun (jG:Nat) a w=>∃ (ld:Int),Fr ⟨184,[]⟩ [(2,.aL cx),(3,.aL eR),(10,.i gC),(11,.i ld)] a/\ar W M0 X w [aq.br eR 30 [.q bB bC b_.aD,.q bA bD b_.aA,.q fh fr b_.Fields,.q e4 ff b_.Names,.q dR ey b_.az],aq.br cx 30 [.q ag ah a_.aD,.q aK aO a_.aA,.q aR aU a_.Fields,.q bl bp a_.Names,.q bg bj a_.az]] [U J.bS Pj PX DA,U J.bS Ph PW AX,U J.a' ag ah a_.aD,U (ak .i64) aK aO a_.aA,U (aG J.aW) aR aU a_.Fields,U (aG bE) bl bp a_.Names,U (aG J.bS) bg bj a_.az,U J.a' bB bC b_.aD,U (ak .i64) bA bD b_.aA,U (aG J.aW) fh fr b_.Fields,U (aG bE) e4 ff b_.Names,U (aG J.bS) dR ey b_.az]/\J.wE a_ b_ gC jG ld=some V2) F ⟨0,I.cut,hm,h⟩ ?_ ?_
         · rintro a w ⟨ld,I,hm,h⟩;exact absurd h (by simp [J.wE])
         rintro jG a w ⟨ld,I,hm,h⟩ K FH;rw [J.wE] at h;refine wp_seq_k fun K Ci=>wp_seq_k fun K xm=>aY <| bi 4 [0,4] [(157,.i ld),(159,.q bg bj a_.az),(160,.i gC)] [cx,4] (av (a2 (hm.e 1 rfl)) aw) I fun a I=>?_;obtain ⟨NW,aDA,h⟩:=J.aH h;obtain ⟨amS,axI,aJa,adv,ats⟩:=bX _ (hm.d 6 rfl) aDA;obtain ⟨ahh,aic,aBu⟩:=fT adv;subst aBu;have hm:=hm.more (y:=U J.bS ahh aic NW) adv;refine bQ wn (bF Tryz.underlying28 Tryz.sizeOf126 rfl (I.g rfl) (I.g rfl) amS axI) I rfl rfl fun a I=>?_
         refine bi 3 [0,0] [(164,.bool (decide (ld <(NW.length:Int))))] [bG bg,bH bg+(gC).toNat* 1] (av ats aw) I fun a I=>wpList_nil (xm _ _ ?_);refine bk (I.g rfl) h (fun aqY h=>?_) (fun aqY h=>?_)
         · refine wp_skip <| Ci _ _ <| wp_seq_k fun K zw=>wp_block <| wp_seq_k fun K tG=>hA (by kernel_rfl) (by kernel_rfl) <| dB 3 [0,4] [(168,.q bg bj a_.az),(169,.i gC)] [cx,4] (fun a6 ad=>(av (b2 ad (a2 (hm.e 1 rfl))) aw)) I fun a I=>?_;obtain ⟨NY,aDB,h⟩:=J.aH h;obtain ⟨amT,axJ,aJb,adw,att⟩:=bX _ (hm.d 7 rfl) aDB;obtain ⟨Jx,aaU,aBv⟩:=fT adw;subst aBv;have hm:=hm.more (y:=U J.bS Jx aaU NY) adw;refine ek wn (fun a6 ad=>bF Tryz.underlying28 Tryz.sizeOf126 rfl (I.g rfl) (I.g rfl) amT axJ) I rfl rfl fun a I=>?_
           refine dB 2 [0,0] [(171,.q Jx aaU NY),(172,.i ld)] [bG bg,bH bg+(gC).toNat* 1] (fun a6 ad=>(av (b2 ad att) aw)) I fun a I=>?_;obtain ⟨Iz,aDC,h⟩:=J.aH h;obtain ⟨amU,axK,_,rfl,atu⟩:=bX _ (hm.d 0 rfl) aDC;refine ek wn (fun a6 ad=>bF Tryz.underlying126 Tryz.sizeOf159 rfl (I.g rfl) (I.g rfl) amU axK) I rfl rfl fun a I=>dB 4 [0,0,1,4] [(174,.agg #[.i Iz.aM,.i Iz.Method]),(176,.q dR ey b_.az),(177,.i gC)] [eR,4,bG Jx,bH Jx+(ld).toNat* 2] (fun a6 ad=>(av (b2 ad atu) (av (b2 ad (a2 (hm.e 0 rfl))) aw))) I fun a I=>?_
           obtain ⟨NZ,aDD,h⟩:=J.aH h;obtain ⟨amV,axL,aJc,adx,atv⟩:=bX _ (hm.d 13 rfl) aDD;obtain ⟨Jy,aaV,aBw⟩:=fT adx;subst aBw;have hm:=hm.more (y:=U J.bS Jy aaV NZ) adx;refine ek wn (fun a6 ad=>bF Tryz.underlying28 Tryz.sizeOf126 rfl (I.g rfl) (I.g rfl) amV axL) I rfl rfl fun a I=>dB 2 [0,0] [(179,.q Jy aaV NZ),(180,.i ld)] [bG dR,bH dR+(gC).toNat* 1] (fun a6 ad=>(av (b2 ad atv) aw)) I fun a I=>?_;obtain ⟨IA,aDE,h⟩:=J.aH h;obtain ⟨amW,axM,_,rfl,atw⟩:=bX _ (hm.d 0 rfl) aDE
           refine ek wn (fun a6 ad=>bF Tryz.underlying126 Tryz.sizeOf159 rfl (I.g rfl) (I.g rfl) amW axM) I rfl rfl fun a I=>dB 1 [0,0] [(182,.agg #[.i IA.aM,.i IA.Method])] [bG Jy,bH Jy+(ld).toNat* 2] (fun a6 ad=>(av (b2 ad atw) aw)) I fun a I=>ek wn (fun a6 ad=>ab1 (X:=Iz) (Y:=IA) rfl (I.g rfl) (I.g rfl)) I rfl rfl fun a I=>wpQuiet_nil fun w ad=>?_;have hm:=hm.dw ad;clear ad;refine tG _ _ <| bk (I.g rfl) h (fun aqZ h=>?_) (fun aqZ h=>?_)
           · refine bt [] [(4,.bool false)] I fun a I=>wp_ret ?_;obtain rfl:=ay h;obtain rfl:=ay Tz;obtain rfl:=ay Lk;obtain rfl:=ay Lj;refine a8 (aj (aj (a8 (aj (a8 (aj (aj (aj (a8 (aj (aj ?_)))))))))));refine bq Tryz.results85 I rfl ?_;exact ⟨rfl,hm.aX [] []⟩
           refine wp_skip <| zw _ _ <| Dc [] [(2,.aL cx),(3,.aL eR),(10,.i gC),(11,.i (J.ap (ld+ 1)))] I fun a I=>?_;exact FH _ _ ⟨J.ap (ld+ 1),I.cut,hm.eA [3,4,5,6,7,8,9,10,11,12,13,14],h⟩
         refine wp_exit <| bz (bz (cr ?_));exact tF _ _ ⟨I.cut,hm.eA [1,2,3,4,5,6,7,8,9,10,11,12],(os h)⟩
       rintro a w ⟨I,hm,bc⟩;subst V2;have h:=Tz;clear Tz;dsimp only [J.eN] at h;exact tC _ _ ⟨I.cut,hm.eA [2,3,4,5,6,7,8,9,10,11],(os h)⟩
     rintro a w ⟨I,hm,bc⟩;subst aew;have h:=Lk;clear Lk;dsimp only [J.eN] at h;refine r_ _ _ <| cg [] [(10,.i (J.ap (gC+ 1)))] I fun a I=>?_;exact ov _ _ ⟨J.ap (gC+ 1),I.cut,hm,h⟩
   refine wp_exit <| bz (bz (cr ?_));exact qO _ _ ⟨I.cut,hm,(os h)⟩
 rintro a w ⟨I,hm,bc⟩;subst VN;have h:=Lj;clear Lj;dsimp only [J.dW] at h;refine mA _ _ <| bt [] [(4,.bool true)] I fun a I=>wp_ret ?_;obtain rfl:=ay h;refine bq Tryz.results85 I rfl ?_;exact ⟨rfl,hm.aX [] []⟩
theorem ts {W:World} {X:List Nat} {F:Nat} {aJ:List J.aM} {sy:List UInt8} {r:Int} {ag:aP} {ah:Nat} {M0:List Nat} (hm:ar W M0 X W [] [U J.a' ag ah aJ]) (h:J.n6 F aJ sy=some r) :
 Calls Tryz.prog 112 [.q ag ah aJ,ao sy].toArray W (fun e aF=>e= .returned (.i r)/\ar W M0 X aF [] []):=by
 refine enter Tryz.func112 rfl Tryz.ntmps112 rfl fun a I=>?_;rw [J.n6] at h;refine bb [] [] I fun a I=>wp_seq_k fun K bN=>bb [] [(5,.i 0)] I fun a I=>?_;obtain ⟨VD,h,S4⟩:=J.dZ h;refine ca (fun a w=>Fr ⟨20,[]⟩ [] a/\ar W M0 X w [] [U J.a' ag ah aJ]/\VD=(.go ())) (fun K c3=>?_) ?_
 · refine cw (fun (bu:Nat) a w=>∃ (m1:Int),Fr ⟨20,[]⟩ [(0,.q ag ah aJ),(1,ao sy),(5,.i m1)] a/\ar W M0 X w [] [U J.a' ag ah aJ]/\J.wm aJ sy bu m1=some VD) F ⟨0,I.cut,hm,h⟩ ?_ ?_
   · rintro a w ⟨m1,I,hm,h⟩;exact absurd h (by simp [J.wm])
   rintro bu a w ⟨m1,I,hm,h⟩ K cp;rw [J.wm] at h;refine wp_seq_k fun K dE=>bb [] [(9,.bool (decide (m1 <(aJ.length:Int))))] I fun a I=>bk (I.g rfl) h (fun aq5 h=>?_) (fun aq5 h=>?_)
   · refine wp_skip <| dE _ _ <| wp_seq_k fun K cN=>wp_block <| wp_seq_k fun K dq=>aY <| aN 2 [] [(12,.q ag ah aJ),(13,.i m1)] I fun a I=>?_;obtain ⟨IB,aDK,h⟩:=J.aH h;obtain ⟨am4,axV,_,⟨ahk,aif,ahl,aih,rfl,avl,K4⟩,atF⟩:=bX _ (hm.d 0 rfl) aDK;have hm:=hm.more (y:=U J.aW ahk aif IB.Fields) avl;have hm:=hm.more (y:=U J.b4 ahl aih IB.aQ) K4;refine bQ wn (bF Tryz.underlying25 Tryz.sizeOf136 rfl (I.g rfl) (I.g rfl) am4 axV) I rfl rfl fun a I=>?_
     refine bi 4 [0,0] [(18,.bool (decide (IB.Name=sy)))] [bG ag,bH ag+(m1).toNat* 4 + 0] (av atF aw) I fun a I=>wpList_nil (dq _ _ ?_);refine bk (I.g rfl) h (fun Rk h=>?_) (fun Rk h=>?_)
     · refine bt [] [(4,.i m1)] I fun a I=>wp_ret ?_;obtain rfl:=ay h;obtain rfl:=ay S4;refine a8 (aj (aj (a8 (aj (aj ?_)))));refine bq Tryz.results112 I rfl ?_;exact ⟨rfl,hm.aX [] []⟩
     refine wp_skip <| cN _ _ <| cg [] [(5,.i (J.ap (m1+ 1)))] I fun a I=>?_;exact cp _ _ ⟨J.ap (m1+ 1),I.cut,hm.eA [2],h⟩
   refine wp_exit <| bz (bz (cr ?_));exact c3 _ _ ⟨I.cut,hm,(os h)⟩
 rintro a w ⟨I,hm,bc⟩;subst VD;have h:=S4;clear S4;dsimp only [J.dW] at h;refine bN _ _ <| bt [] [(4,.i (-1))] I fun a I=>wp_ret ?_;obtain rfl:=ay h;refine bq Tryz.results112 I rfl ?_;exact ⟨rfl,hm.aX [] []⟩
theorem Ky {W:World} {X:List Nat} {F:Nat} {aJ:List J.aM} {bU:Int} {r:List Int} {ag:aP} {ah:Nat} {M0:List Nat} (hm:ar W M0 X W [] [U J.a' ag ah aJ]) (h:J.wH F aJ bU=some r) :
 Calls Tryz.prog 136 [.q ag ah aJ,.i bU].toArray W (fun e aF=>∃ vx:Option Addr,∃ wS:Nat,e= .returned (.q vx wS r)/\ar W M0 X aF [] [U (ak .i64) vx wS r]):=by
 refine enter Tryz.func136 rfl Tryz.ntmps136 rfl fun a I=>?_;rw [J.wH] at h;refine bb [] [] I fun a I=>bb [] [(5,.slice none 0 0)] I fun a I=>wp_seq_k fun K cb=>?_;obtain ⟨UL,h,R_⟩:=J.dZ h;refine ca (fun a w=>∃ (l5:aP) (mf:Nat) (Ah:fq),Fr ⟨25,[]⟩ [(5,.q l5 mf Ah)] a/\ar W M0 X w [] [U (ak .i64) l5 mf Ah,U J.a' ag ah aJ]/\UL=(.go Ah)) (fun K c3=>?_) ?_
 · have hm:=hm.cO (α:=Int) 3 1;have hm:=hm.more (y:=al.rows (ak .i64) [] []) rfl;have hm:=hm.more (y:=al.of (aG (ak .i64)) [.slice none 0 0] ([]:fq)) (lf _ _ _);refine cw (fun (bu:Nat) a w=>∃ (k_:Int) (A7:aP) (BK:Nat) (px:fq),Fr ⟨25,[]⟩ [(0,.q ag ah aJ),(1,.i k_),(5,.q A7 BK px)] a/\ar W M0 X w [] [U (ak .i64) A7 BK px,U J.a' ag ah aJ]/\J.wI F aJ bu k_ px=some UL) F ⟨bU,none,0,[],I.cut,hm.aX [] [0,2],h⟩ ?_ ?_
   · rintro a w ⟨k_,A7,BK,px,I,hm,h⟩;exact absurd h (by simp [J.wI])
   rintro bu a w ⟨k_,A7,BK,px,I,hm,h⟩ K cp;rw [J.wI] at h;refine wp_seq_k fun K dE=>bb [] [(7,.bool (decide (0 <=k_)))] I fun a I=>bk (I.g rfl) h (fun ao3 h=>?_) (fun ao3 h=>?_)
   · refine wp_skip <| dE _ _ <| wp_block <| wp_seq_k fun K cN=>bb [] [(12,.bool (decide ((aJ.length:Int) <(px.length:Int))))] I fun a I=>bk (I.g rfl) h (fun zC h=>?_) (fun zC h=>?_)
     · refine bt [] [(4,.slice none 0 0)] I fun a I=>wp_ret ?_;obtain rfl:=ay h;obtain rfl:=ay R_;refine aj (a8 (aj (a8 (aj (aj ?_)))));refine bq Tryz.results136 I rfl ?_;have hm:=hm.more (y:=al.of (aG (ak .i64)) [.slice none 0 0] ([]:fq)) (lf _ _ _);exact ⟨none,0,rfl,hm.aX [] [0]⟩
     refine wp_skip <| cN _ _ <| wp_seq_k fun K dC=>aY <| aN 1 [] [(13,.i k_)] I fun a I=>gq (cs:=[.i k_]) wn (fU (vs:=[(0,.i k_)]) Tryz.underlying22 Tryz.sizeOf3 Tryz.zeroValue3 rfl rfl rfl ⟨⟨(I.g rfl),rfl⟩,trivial⟩ (by kernel_rfl)) I hm rfl rfl fun a aJr w _ I hm=>aN 1 [] [(15,.q A7 BK px)] I fun a I=>?_;obtain ⟨HA,ayw,h⟩:=J.aH h;have hm:=hm.nI (sz:=1) 0 [k_] rfl rfl rfl rfl;have hm:=hm.more (y:=al.rows (ak .i64) [.i k_] [k_]) ⟨_,_,rfl,rfl,rfl⟩
     refine rr (T:=(ak .i64)) 0 0 1 hm rfl rfl rfl Tryz.underlying22 nD rfl rfl ayw rfl wn rfl (I.g rfl) (I.g rfl) I rfl rfl fun a YV aan aJ_ w I hm=>aN 1 [] [(5,.q YV aan HA)] I fun a I=>wpList_nil (dC _ _ ?_);refine aY <| aN 3 [] [(17,.q ag ah aJ),(18,.q ag ah aJ),(19,.i k_)] I fun a I=>?_;obtain ⟨AO,aB5,h⟩:=J.aH h;obtain ⟨alf,av9,_,⟨agZ,ahT,ag0,ahU,rfl,auf,aug⟩,arS⟩:=bX _ (hm.d 3 rfl) aB5;have hm:=hm.more (y:=U J.aW agZ ahT AO.Fields) auf
     have hm:=hm.more (y:=U J.b4 ag0 ahU AO.aQ) aug;refine bQ wn (bF Tryz.underlying25 Tryz.sizeOf136 rfl (I.g rfl) (I.g rfl) alf av9) I rfl rfl fun a I=>bi 2 [0,1] [(22,ao AO.bZ)] [bG ag,bH ag+(k_).toNat* 4 + 1] (av arS aw) I fun a I=>?_;obtain ⟨Mt,azO,h⟩:=J.aH h;have hc:=hm;refine bP (vs:=[.q ag ah aJ,ao AO.bZ]) wn rfl Tryz.call112 ⟨(I.g rfl),(I.g rfl),trivial⟩ (ts ((hc.into 0).pick ⟨⟨5,rfl⟩,trivial⟩) azO) I rfl rfl ?_;rintro _ w ⟨rfl,af⟩;refine ⟨_,rfl,fun a I=>?_⟩;have ad:ba [] _ w:=af.ev;have hm:=hc.back 0 af
     clear af hc;clear ad;refine aN 1 [] [(1,.i Mt)] I fun a I=>wpList_nil ?_;have hm:=hm.freeze 0 2 rfl rfl;exact cp _ _ ⟨Mt,YV,aan,HA,I.cut,hm.eA [0,6],h⟩
   refine wp_exit <| bz (bz (cr ?_));exact c3 _ _ ⟨A7,BK,px,I.cut,hm,(os h)⟩
 rintro a w ⟨l5,mf,Ah,I,hm,bc⟩;subst UL;have h:=R_;clear R_;dsimp only [J.dW] at h;refine cb _ _ <| bt [] [(4,.q l5 mf Ah)] I fun a I=>wp_ret ?_;obtain rfl:=ay h;refine bq Tryz.results136 I rfl ?_;exact ⟨l5,mf,rfl,hm.aX [] [0]⟩
theorem P7 {W:World} {X:List Nat} {F:Nat} {aJ:List J.aM} {kinds_:List J.Kind} {r:Bool} {ag:aP} {ah:Nat} {aK:aP} {aO:Nat} {M0:List Nat} (hm:ar W M0 X W [] [U J.a' ag ah aJ,U J.dt aK aO kinds_]) (h:J.y5 F aJ kinds_=some r) :
 Calls Tryz.prog 137 [.q ag ah aJ,.q aK aO kinds_].toArray W (fun e aF=>e= .returned (.bool r)/\ar W M0 X aF [] []):=by
 refine enter Tryz.func137 rfl Tryz.ntmps137 rfl fun a I=>?_;rw [J.y5] at h;refine bb [] [] I fun a I=>wp_seq_k fun K bN=>bb [] [(5,.i 0)] I fun a I=>?_;obtain ⟨Af,h,xy⟩:=J.dZ h;refine ca (fun a w=>Fr ⟨28,[]⟩ [] a/\ar W M0 X w [] [U J.a' ag ah aJ,U J.dt aK aO kinds_]/\Af=(.go ())) (fun K c3=>?_) ?_
 · refine cw (fun (bu:Nat) a w=>∃ (kl:Int),Fr ⟨28,[]⟩ [(0,.q ag ah aJ),(1,.q aK aO kinds_),(5,.i kl)] a/\ar W M0 X w [] [U J.a' ag ah aJ,U J.dt aK aO kinds_]/\J.ta F kinds_ aJ bu kl=some Af) F ⟨0,I.cut,hm,h⟩ ?_ ?_
   · rintro a w ⟨kl,I,hm,h⟩;exact absurd h (by simp [J.ta])
   rintro bu a w ⟨kl,I,hm,h⟩ K cp;rw [J.ta] at h;refine wp_seq_k fun K dE=>bb [] [(9,.bool (decide (kl <(kinds_.length:Int))))] I fun a I=>bk (I.g rfl) h (fun arf h=>?_) (fun arf h=>?_)
   · refine wp_skip <| dE _ _ <| wp_seq_k fun K cN=>wp_block <| wp_seq_k fun K dq=>aY <| aN 2 [] [(12,.q aK aO kinds_),(13,.i kl)] I fun a I=>?_;obtain ⟨N3,aD2,h⟩:=J.aH h;obtain ⟨anm,ayb,_,rfl,arl⟩:=bX _ (hm.d 1 rfl) aD2;refine bQ wn (bF Tryz.underlying130 Tryz.sizeOf103 rfl (I.g rfl) (I.g rfl) anm ayb) I rfl rfl fun a I=>bi 4 [0,1] [(18,.bool (!decide (N3.aM= [])))] [bG aK,bH aK+(kl).toNat* 2 + 1] (av arl aw) I fun a I=>?_;rcases Bool.eq_false_or_eq_true (!decide (N3.aM= [])) with tJ | tJ
     · have h:=J.dj tJ h;have I:=I.b6 18 rfl tJ;refine aN 3 [1,1,1] [(19,.q ag ah aJ),(20,.q aK aO kinds_),(21,.i kl)] I fun a I=>?_;obtain ⟨Nc,aBC,h⟩:=J.aH h;obtain ⟨akN,avF,_,rfl,aro⟩:=bX _ (hm.d 1 rfl) aBC;refine bQ (cV I rfl rfl rfl rfl) (bF Tryz.underlying130 Tryz.sizeOf103 rfl (I.g rfl) (I.g rfl) akN avF) I rfl rfl fun a I=>bi 2 [1,1,0,1] [(24,ao Nc.aM)] [bG aK,bH aK+(kl).toNat* 2 + 1] (av aro aw) I fun a I=>?_;obtain ⟨WT,azq,h⟩:=J.aH h;have hc:=hm
       refine bP (vs:=[.q ag ah aJ,ao Nc.aM]) (cV I rfl rfl rfl rfl) rfl Tryz.call112 ⟨(I.g rfl),(I.g rfl),trivial⟩ (ts ((hc.into 0).pick ⟨⟨0,rfl⟩,trivial⟩) azq) I rfl rfl ?_;rintro _ w ⟨rfl,af⟩;refine ⟨_,rfl,fun a I=>?_⟩;have hm:=hc.back 0 af;clear af hc;refine aN 2 [1,1] [(27,.bool (decide (WT < 0)))] I fun a I=>wpList_nil (dq _ _ ?_);refine bk (I.g rfl) h (fun aow h=>?_) (fun aow h=>?_)
       · refine bt [] [(4,.bool false)] I fun a I=>wp_ret ?_;obtain rfl:=ay h;obtain rfl:=ay xy;refine a8 (aj (aj (a8 (aj (aj ?_)))));refine bq Tryz.results137 I rfl ?_;exact ⟨rfl,hm.aX [] []⟩
       refine wp_skip <| cN _ _ <| cg [] [(5,.i (J.ap (kl+ 1)))] I fun a I=>?_;exact cp _ _ ⟨J.ap (kl+ 1),I.cut,hm,h⟩
     have h:=J.di tJ h;have I:=I.b6 18 rfl tJ;refine aN 9 [1,1,1,1,1,1,1,1,1] [(27,.bool false)] I fun a I=>wpList_nil (dq _ _ ?_);refine hW (I.g rfl) rfl <| wp_skip <| cN _ _ <| cg [] [(5,.i (J.ap (kl+ 1)))] I fun a I=>?_;exact cp _ _ ⟨J.ap (kl+ 1),I.cut,hm,h⟩
   refine wp_exit <| bz (bz (cr ?_));exact c3 _ _ ⟨I.cut,hm,(os h)⟩
 rintro a w ⟨I,hm,bc⟩;subst Af;have h:=xy;clear xy;dsimp only [J.dW] at h;refine bN _ _ <| bt [] [(4,.bool true)] I fun a I=>wp_ret ?_;obtain rfl:=ay h;refine bq Tryz.results137 I rfl ?_;exact ⟨rfl,hm.aX [] []⟩
theorem P6 {W:World} {X:List Nat} {F:Nat} {aJ:List J.aM} {bU:Int} {r:List J.Field} {ag:aP} {ah:Nat} {M0:List Nat} (hm:ar W M0 X W [] [U J.a' ag ah aJ]) (h:J.y1 F aJ bU=some r) :
 Calls Tryz.prog 110 [.q ag ah aJ,.i bU].toArray W (fun e aF=>∃ YY:Option Addr,∃ aaq:Nat,∃ agz:List Value,e= .returned (.q YY aaq r)/\ar W M0 X aF [aq.row 105 3 (.q YY aaq r) r agz] [al.rows J.aW agz r]):=by
 refine enter Tryz.func110 rfl Tryz.ntmps110 rfl fun a I=>?_;rw [J.y1] at h;refine bb [] [] I fun a I=>bb [] [(5,.slice none 0 0)] I fun a I=>wp_seq_k fun K cb=>aY <| aN 2 [] [(8,.q ag ah aJ),(9,.i bU)] I fun a I=>?_;obtain ⟨en,z2,h⟩:=J.aH h;have hc:=hm;refine bP (vs:=[.q ag ah aJ,.i bU]) wn rfl Tryz.call136 ⟨(I.g rfl),(I.g rfl),trivial⟩ (Ky ((hc.into 0).pick ⟨⟨0,rfl⟩,trivial⟩) z2) I rfl rfl ?_;rintro _ w ⟨aR,aU,rfl,af⟩;refine ⟨_,rfl,fun a I=>?_⟩;have ad:ba [] _ w:=af.ev;have hm:=hc.back 0 af
 clear af hc;clear ad;refine aN 1 [] [(6,.q aR aU en)] I fun a I=>wpList_nil (cb _ _ ?_);refine wp_seq_k fun K c3=>bb [] [(7,.i 0)] I fun a I=>?_;have hm:=hm.cO (α:=J.Field) 105 3;have hm:=hm.more (y:=al.rows J.aW [] []) rfl;obtain ⟨U6,h,Su⟩:=J.aH h
 refine ca (fun a w=>∃ (DW:aP) (EO:Nat) (ug:List J.Field) (Ob:dy),Fr ⟨28,[]⟩ [(5,.q DW EO ug)] a/\ar W M0 X w [aq.row 105 3 (.q DW EO ug) ug Ob] [al.rows J.aW Ob ug,U (ak .i64) aR aU en,U J.a' ag ah aJ]/\U6=ug) (fun K dE=>?_) ?_
 · clear Su;refine cw (fun (bu:Nat) a w=>∃ (Bb:aP) (BP:Nat) (pG:List J.Field) (IL:dy) (oS:Int),Fr ⟨28,[]⟩ [(0,.q ag ah aJ),(5,.q Bb BP pG),(6,.q aR aU en),(7,.i oS)] a/\ar W M0 X w [aq.row 105 3 (.q Bb BP pG) pG IL] [al.rows J.aW IL pG,U (ak .i64) aR aU en,U J.a' ag ah aJ]/\J.qv aJ en bu pG oS=some U6) F ⟨none,0,[],[],0,I.cut,hm,h⟩ ?_ ?_
   · rintro a w ⟨Bb,BP,pG,IL,oS,I,hm,h⟩;exact absurd h (by simp [J.qv])
   rintro bu a w ⟨Bb,BP,pG,IL,oS,I,hm,h⟩ K dl;rw [J.qv] at h;refine wp_seq_k fun K cN=>bb [] [(14,.bool (decide (oS <(en.length:Int))))] I fun a I=>bk (I.g rfl) h (fun apr h=>?_) (fun apr h=>?_)
   · refine wp_skip <| cN _ _ <| wp_seq_k fun K dc=>wp_block <| aY <| aN 4 [] [(17,.q Bb BP pG),(18,.q ag ah aJ),(19,.q aR aU en),(20,.i oS)] I fun a I=>?_;obtain ⟨Nn,aCh,h⟩:=J.aH h;obtain ⟨alx,awm,_,rfl,ar7⟩:=bX _ (hm.d 1 rfl) aCh;refine bQ wn (bF Tryz.underlying22 Tryz.sizeOf3 rfl (I.g rfl) (I.g rfl) alx awm) I rfl rfl fun a I=>bi 1 [0,0] [(22,.i Nn)] [bG aR,bH aR+(oS).toNat* 1] (av ar7 aw) I fun a I=>?_;obtain ⟨Iu,aCj,h⟩:=J.aH h;obtain ⟨alz,awo,_,⟨YX,aap,ag4,ahZ,rfl,auy,auz⟩,ar9⟩:=bX _ (hm.d 2 rfl) aCj
     have hm:=hm.more (y:=U J.aW YX aap Iu.Fields) auy;have hm:=hm.more (y:=U J.b4 ag4 ahZ Iu.aQ) auz;refine bQ wn (bF Tryz.underlying25 Tryz.sizeOf136 rfl (I.g rfl) (I.g rfl) alz awo) I rfl rfl fun a I=>bi 2 [0,2] [(25,.q YX aap Iu.Fields)] [bG ag,bH ag+(Nn).toNat* 4 + 2] (av ar9 aw) I fun a I=>?_;obtain ⟨LQ,ayB,h⟩:=J.aH h;refine rr (T:=J.aW) 0 2 1 hm rfl rfl rfl Tryz.underlying106 UF rfl rfl ayB rfl wn rfl (I.g rfl) (I.g rfl) I rfl rfl fun a Bg BT aHn w I hm=>?_
     refine aN 1 [] [(5,.q Bg BT LQ)] I fun a I=>wpList_nil (dc _ _ ?_);refine cg [] [(7,.i (J.ap (oS+ 1)))] I fun a I=>?_;exact dl _ _ ⟨Bg,BT,LQ,aHn,J.ap (oS+ 1),I.cut,hm.eA [0,4,5],h⟩
   refine wp_exit <| bz (bz (cr ?_));exact dE _ _ ⟨Bb,BP,pG,IL,I.cut,hm,(os h)⟩
 rintro a w ⟨DW,EO,ug,Ob,I,hm,bc⟩;subst U6;have h:=Su;clear Su;refine c3 _ _ <| bt [] [(4,.q DW EO ug)] I fun a I=>wp_ret ?_;obtain rfl:=ay h;refine bq Tryz.results110 I rfl ?_;exact ⟨DW,EO,Ob,rfl,hm.aX [0] [0]⟩
theorem aiB {W:World} {X:List Nat} {F:Nat} {aJ:List J.aM} {bU:Int} {r:(List (List UInt8)) × (List J.Target)} {ag:aP} {ah:Nat} {M0:List Nat} (hm:ar W M0 X W [] [U J.a' ag ah aJ]) (h:J.EB F aJ bU=some r) :
 Calls Tryz.prog 111 [.q ag ah aJ,.i bU].toArray W (fun e aF=>∃ Zk:Option Addr,∃ aaP:Nat,∃ agI:List Value,∃ Zl:Option Addr,∃ aaQ:Nat,∃ agJ:List Value,e= .returned (.tuple #[.q Zk aaP r.1,.q Zl aaQ r.2])/\ar W M0 X aF [aq.row 9 1 (.q Zk aaP r.1) r.1 agI,aq.row 159 2 (.q Zl aaQ r.2) r.2 agJ] [al.rows bE agI r.1,al.rows J.bS agJ r.2]):=by
 refine enter Tryz.func111 rfl Tryz.ntmps111 rfl fun a I=>?_;rw [J.EB] at h;refine bb [] [] I fun a I=>bb [] [(6,.slice none 0 0)] I fun a I=>bb [] [(7,.slice none 0 0)] I fun a I=>wp_seq_k fun K c3=>aY <| aN 2 [] [(13,.q ag ah aJ),(14,.i bU)] I fun a I=>?_;obtain ⟨en,z2,h⟩:=J.aH h;have hc:=hm;refine bP (vs:=[.q ag ah aJ,.i bU]) wn rfl Tryz.call136 ⟨(I.g rfl),(I.g rfl),trivial⟩ (Ky ((hc.into 0).pick ⟨⟨0,rfl⟩,trivial⟩) z2) I rfl rfl ?_
 rintro _ w ⟨aR,aU,rfl,af⟩;refine ⟨_,rfl,fun a I=>?_⟩;have hm:=hc.back 0 af;clear af hc;refine aN 1 [] [(8,.q aR aU en)] I fun a I=>wpList_nil (c3 _ _ ?_);refine wp_seq_k fun K cp=>bb [] [(9,.i 0)] I fun a I=>?_;have hm:=hm.cO (α:=List UInt8) 9 1;have hm:=hm.more (y:=al.rows bE [] []) rfl;have hm:=hm.cO (α:=J.Target) 159 2;have hm:=hm.more (y:=al.rows J.bS [] []) rfl;obtain ⟨VL,h,Ta⟩:=J.aH h
 refine ca (fun a w=>∃ (D':aP) (E5:Nat) (uq:List J.Target) (On:dy) (Ea:aP) (E6:Nat) (ur:List (List UInt8)) (Oo:dy),Fr ⟨84,[]⟩ [(6,.q Ea E6 ur),(7,.q D' E5 uq)] a/\ar W M0 X w [aq.row 159 2 (.q D' E5 uq) uq On,aq.row 9 1 (.q Ea E6 ur) ur Oo] [al.rows J.bS On uq,al.rows bE Oo ur,U (ak .i64) aR aU en,U J.a' ag ah aJ]/\VL=(uq,ur)) (fun K dl=>?_) ?_
 · clear Ta
   refine cw (fun (bu:Nat) a w=>∃ (Bm:aP) (B1:Nat) (pN:List J.Target) (DI:dy) (Bn:aP) (B2:Nat) (pO:List (List UInt8)) (DJ:dy) (gZ:Int),Fr ⟨84,[]⟩ [(0,.q ag ah aJ),(6,.q Bn B2 pO),(7,.q Bm B1 pN),(8,.q aR aU en),(9,.i gZ)] a/\ar W M0 X w [aq.row 159 2 (.q Bm B1 pN) pN DI,aq.row 9 1 (.q Bn B2 pO) pO DJ] [al.rows J.bS DI pN,al.rows bE DJ pO,U (ak .i64) aR aU en,U J.a' ag ah aJ]/\J.wF F aJ en bu pN pO gZ=some VL) F ⟨none,0,[],[],none,0,[],[],0,I.cut,hm.eA [0,0,2,3],h⟩ ?_ ?_
   · rintro a w ⟨Bm,B1,pN,DI,Bn,B2,pO,DJ,gZ,I,hm,h⟩;exact absurd h (by simp [J.wF])
   rintro bu a w ⟨Bm,B1,pN,DI,Bn,B2,pO,DJ,gZ,I,hm,h⟩ K cN;rw [J.wF] at h;refine wp_seq_k fun K dq=>bb [] [(19,.bool (decide (gZ <(en.length:Int))))] I fun a I=>bk (I.g rfl) h (fun aqG h=>?_) (fun aqG h=>?_)
   · refine wp_skip <| dq _ _ <| wp_seq_k fun K dC=>?_;obtain ⟨aet,h,Ts⟩:=J.aH h
     refine ca (fun a w=>∃ (Jo:aP) (J_:Nat) (uA:List J.Target) (OA:dy) (Jp:aP) (J':Nat) (uB:List (List UInt8)) (OB:dy),Fr ⟨84,[]⟩ [(0,.q ag ah aJ),(6,.q Jp J' uB),(7,.q Jo J_ uA),(8,.q aR aU en),(9,.i gZ)] a/\ar W M0 X w [aq.row 159 2 (.q Jo J_ uA) uA OA,aq.row 9 1 (.q Jp J' uB) uB OB] [al.rows J.bS OA uA,al.rows bE OB uB,U (ak .i64) aR aU en,U J.a' ag ah aJ]/\aet=(uA,uB)) (fun K dS=>?_) ?_
     · clear Ts;refine bb [] [(10,.i 0)] I fun a I=>?_;obtain ⟨VY,h,Tt⟩:=J.aH h
       refine ca (fun a w=>∃ (Jq:aP) (Ka:Nat) (uC:List J.Target) (OC:dy) (Jr:aP) (Kb:Nat) (uD:List (List UInt8)) (OD:dy),Fr ⟨84,[]⟩ [(0,.q ag ah aJ),(6,.q Jr Kb uD),(7,.q Jq Ka uC),(8,.q aR aU en),(9,.i gZ)] a/\ar W M0 X w [aq.row 159 2 (.q Jq Ka uC) uC OC,aq.row 9 1 (.q Jr Kb uD) uD OD] [al.rows J.bS OC uC,al.rows bE OD uD,U (ak .i64) aR aU en,U J.a' ag ah aJ]/\VY=(uC,uD)) (fun K ft=>?_) ?_
       · clear Tt
         refine cw (fun (c7:Nat) a w=>∃ (qs:aP) (qG:Nat) (iS:List J.Target) (sK:dy) (nc:aP) (pa:Nat) (gA:List (List UInt8)) (sL:dy) (h3:Int),Fr ⟨84,[]⟩ [(0,.q ag ah aJ),(6,.q nc pa gA),(7,.q qs qG iS),(8,.q aR aU en),(9,.i gZ),(10,.i h3)] a/\ar W M0 X w [aq.row 159 2 (.q qs qG iS) iS sK,aq.row 9 1 (.q nc pa gA) gA sL] [al.rows J.bS sK iS,al.rows bE sL gA,U (ak .i64) aR aU en,U J.a' ag ah aJ]/\J.wG F aJ en gZ c7 iS gA h3=some VY) F ⟨Bm,B1,pN,DI,Bn,B2,pO,DJ,0,I.cut,hm,h⟩ ?_ ?_
         · rintro a w ⟨qs,qG,iS,sK,nc,pa,gA,sL,h3,I,hm,h⟩;exact absurd h (by simp [J.wG])
         rintro c7 a w ⟨qs,qG,iS,sK,nc,pa,gA,sL,h3,I,hm,h⟩ K eX;rw [J.wG] at h;refine wp_seq_k fun K gx=>wp_seq_k fun K g9=>aY <| aN 4 [] [(22,.i h3),(23,.q ag ah aJ),(24,.q aR aU en),(25,.i gZ)] I fun a I=>?_;obtain ⟨NU,aDr,h⟩:=J.aH h;obtain ⟨amI,axy,_,rfl,ath⟩:=bX _ (hm.d 2 rfl) aDr;refine bQ wn (bF Tryz.underlying22 Tryz.sizeOf3 rfl (I.g rfl) (I.g rfl) amI axy) I rfl rfl fun a I=>bi 1 [0,0] [(27,.i NU)] [bG aR,bH aR+(gZ).toNat* 1] (av ath aw) I fun a I=>?_;obtain ⟨o9,aDs,h⟩:=J.aH h
         obtain ⟨amJ,axz,_,⟨Eh,Fa,Ei,Fb,rfl,au5,au6⟩,ati⟩:=bX _ (hm.d 3 rfl) aDs;have hm:=hm.more (y:=U J.aW Eh Fa o9.Fields) au5;have hm:=hm.more (y:=U J.b4 Ei Fb o9.aQ) au6;refine bQ wn (bF Tryz.underlying25 Tryz.sizeOf136 rfl (I.g rfl) (I.g rfl) amJ axz) I rfl rfl fun a I=>bi 4 [0,3] [(32,.bool (decide (h3 <(o9.aQ.length:Int))))] [bG ag,bH ag+(NU).toNat* 4 + 3] (av ati aw) I fun a I=>wpList_nil (g9 _ _ ?_);refine bk (I.g rfl) h (fun aqQ h=>?_) (fun aqQ h=>?_)
         · refine wp_skip <| gx _ _ <| wp_seq_k fun K fu=>?_;obtain ⟨aeu,h,Tu⟩:=J.aH h
           refine ca (fun a w=>∃ (Js:aP) (Kc:Nat) (uE:List J.Target) (OE:dy) (Jt:aP) (Kd:Nat) (uF:List (List UInt8)) (OG:dy),Fr ⟨84,[]⟩ [(0,.q ag ah aJ),(6,.q Jt Kd uF),(7,.q Js Kc uE),(8,.q aR aU en),(9,.i gZ),(10,.i h3)] a/\ar W M0 X w [aq.row 159 2 (.q Js Kc uE) uE OE,aq.row 9 1 (.q Jt Kd uF) uF OG] [al.rows J.bS OE uE,al.rows bE OG uF,U J.b4 Ei Fb o9.aQ,U J.aW Eh Fa o9.Fields,U (ak .i64) aR aU en,U J.a' ag ah aJ]/\aeu=(uE,uF)) (fun K fK=>?_) ?_
           · clear Tu;refine wp_seq_k fun K fR=>aY <| aN 3 [] [(35,.q ag ah aJ),(36,.q aR aU en),(37,.i gZ)] I fun a I=>?_;obtain ⟨NV,aDt,h⟩:=J.aH h;obtain ⟨amK,axA,_,rfl,atj⟩:=bX _ (hm.d 4 rfl) aDt;refine bQ wn (bF Tryz.underlying22 Tryz.sizeOf3 rfl (I.g rfl) (I.g rfl) amK axA) I rfl rfl fun a I=>bi 1 [0,0] [(39,.i NV)] [bG aR,bH aR+(gZ).toNat* 1] (av atj aw) I fun a I=>?_;obtain ⟨rD,aDu,h⟩:=J.aH h;obtain ⟨amL,axB,_,⟨Ju,Kf,yU,Fc,rfl,au7,au8⟩,atk⟩:=bX _ (hm.d 5 rfl) aDu
             have hm:=hm.more (y:=U J.aW Ju Kf rD.Fields) au7;have hm:=hm.more (y:=U J.b4 yU Fc rD.aQ) au8;refine bQ wn (bF Tryz.underlying25 Tryz.sizeOf136 rfl (I.g rfl) (I.g rfl) amL axB) I rfl rfl fun a I=>bi 3 [0,3] [(42,.q yU Fc rD.aQ),(43,.i h3)] [bG ag,bH ag+(NV).toNat* 4 + 3] (av atk aw) I fun a I=>?_;obtain ⟨iJ,aDv,h⟩:=J.aH h;obtain ⟨amM,axC,_,⟨Jv,Kg,Jw,Kh,rfl,au9,au_⟩,atl⟩:=bX _ (hm.d 0 rfl) aDv
             have hm:=hm.more (y:=U J.dt Jv Kg iJ.bI) au9;have hm:=hm.more (y:=U J.eg Jw Kh iJ.bK) au_;refine bQ wn (bF Tryz.underlying134 Tryz.sizeOf133 rfl (I.g rfl) (I.g rfl) amM axC) I rfl rfl fun a I=>bi 3 [0,0] [(11,ao iJ.Name)] [bG yU,bH yU+(h3).toNat* 9 + 0] (av atl aw) I fun a I=>wpList_nil (fR _ _ ?_);refine bb [] [(12,.i 0)] I fun a I=>wp_seq_k fun K gK=>?_;obtain ⟨VZ,h,Tv⟩:=J.aH h
             refine ca (fun a w=>∃ (sx:Int),Fr ⟨84,[]⟩ [(0,.q ag ah aJ),(6,.q nc pa gA),(7,.q qs qG iS),(8,.q aR aU en),(9,.i gZ),(10,.i h3),(11,ao iJ.Name),(12,.i sx)] a/\ar W M0 X w [aq.row 159 2 (.q qs qG iS) iS sK,aq.row 9 1 (.q nc pa gA) gA sL] [U J.eg Jw Kh iJ.bK,U J.dt Jv Kg iJ.bI,U J.b4 yU Fc rD.aQ,U J.aW Ju Kf rD.Fields,U J.b4 Ei Fb o9.aQ,U J.aW Eh Fa o9.Fields,al.rows J.bS sK iS,al.rows bE sL gA,U (ak .i64) aR aU en,U J.a' ag ah aJ]/\VZ=sx) (fun K hB=>?_) ?_
             · clear Tv
               refine cw (fun (et:Nat) a w=>∃ (kG:Int),Fr ⟨84,[]⟩ [(0,.q ag ah aJ),(6,.q nc pa gA),(7,.q qs qG iS),(8,.q aR aU en),(9,.i gZ),(10,.i h3),(11,ao iJ.Name),(12,.i kG)] a/\ar W M0 X w [aq.row 159 2 (.q qs qG iS) iS sK,aq.row 9 1 (.q nc pa gA) gA sL] [U J.eg Jw Kh iJ.bK,U J.dt Jv Kg iJ.bI,U J.b4 yU Fc rD.aQ,U J.aW Ju Kf rD.Fields,U J.b4 Ei Fb o9.aQ,U J.aW Eh Fa o9.Fields,al.rows J.bS sK iS,al.rows bE sL gA,U (ak .i64) aR aU en,U J.a' ag ah aJ]/\J.s9 gA iJ et kG=some VZ) F ⟨0,I.cut,hm,h⟩ ?_ ?_
               · rintro a w ⟨kG,I,hm,h⟩;exact absurd h (by simp [J.s9])
               rintro et a w ⟨kG,I,hm,h⟩ K hX;rw [J.s9] at h;refine wp_seq_k fun K ho=>wp_seq_k fun K hp=>aY <| aN 5 [] [(51,.bool (decide (kG <(gA.length:Int))))] I fun a I=>?_;rcases Bool.eq_false_or_eq_true (decide (kG <(gA.length:Int))) with Gw | Gw
               · have h:=J.dj Gw h;have I:=I.b6 51 rfl Gw;refine aN 2 [1,1] [(52,.q nc pa gA),(53,.i kG)] I fun a I=>?_;obtain ⟨Yh,aDw,h⟩:=J.aH h;obtain ⟨amN,axD,_,rfl,atm⟩:=gN (hm.e 1 rfl) (hm.d 7 rfl) aDw;refine bQ (cV I rfl rfl rfl rfl) (bF Tryz.underlying125 Tryz.sizeOf9 rfl (I.g rfl) (I.g rfl) amN axD) I rfl rfl fun a I=>bi 4 [1,0,0,1,1,1] [(58,.bool (!decide (Yh=iJ.Name)))] [bG nc,bH nc+(kG).toNat* 1] (av atm aw) I fun a I=>wpList_nil (hp _ _ ?_);refine bk (I.g rfl) h (fun aqR h=>?_) (fun aqR h=>?_)
                 · refine wp_skip <| ho _ _ <| wp_block <| cg [] [(12,.i (J.ap (kG+ 1)))] I fun a I=>?_;exact hX _ _ ⟨J.ap (kG+ 1),I.cut,hm,h⟩
                 refine wp_exit <| bz (bz (cr ?_));exact hB _ _ ⟨kG,I.cut,hm,(os h)⟩
               have h:=J.di Gw h;have I:=I.b6 51 rfl Gw;refine aN 7 [1,1,1,1,1,1,1] [(58,.bool false)] I fun a I=>wpList_nil (hp _ _ ?_);refine hW (I.g rfl) rfl <| wp_exit <| bz (bz (cr ?_));exact hB _ _ ⟨kG,I.cut,hm,(os h)⟩
             rintro a w ⟨sx,I,hm,bc⟩;subst VZ;have h:=Tv;clear Tv;refine gK _ _ ?_;obtain ⟨aev,h,Tw⟩:=J.aH h
             refine w9 (fun a w=>∃ (Bq:aP) (B5:Nat) (sq:List J.Target) (Yq:dy) (Ek:aP) (Fg:Nat) (sr:List (List UInt8)) (OH:dy),Fr ⟨84,[]⟩ [(0,.q ag ah aJ),(6,.q Ek Fg sr),(7,.q Bq B5 sq),(8,.q aR aU en),(9,.i gZ),(10,.i h3),(12,.i sx)] a/\ar W M0 X w [aq.row 159 2 (.q Bq B5 sq) sq Yq,aq.row 9 1 (.q Ek Fg sr) sr OH] [al.rows J.bS Yq sq,al.rows bE OH sr,U J.eg Jw Kh iJ.bK,U J.dt Jv Kg iJ.bI,U J.b4 yU Fc rD.aQ,U J.aW Ju Kf rD.Fields,U J.b4 Ei Fb o9.aQ,U J.aW Eh Fa o9.Fields,U (ak .i64) aR aU en,U J.a' ag ah aJ]/\aev=(sq,sr)) (fun K hq=>?_) ?_
             · clear Tw;refine bb [] [(64,.bool (decide (sx=(gA.length:Int))))] I fun a I=>bk (I.g rfl) h (fun aqS h=>?_) (fun aqS h=>?_)
               · refine aY <| aN 2 [] [(65,.q nc pa gA),(66,ao iJ.Name)] I fun a I=>gq (cs:=[ao iJ.Name]) wn (fU (vs:=[(0,ao iJ.Name)]) Tryz.underlying125 Tryz.sizeOf9 Tryz.zeroValue9 rfl rfl rfl ⟨⟨(I.g rfl),rfl⟩,trivial⟩ (by kernel_rfl)) I hm rfl rfl fun a aJA w _ I hm=>?_;obtain ⟨L1,ayT,h⟩:=J.aH h;refine iH (T:=bE) (ml:=[iJ.Name]) 2 0 7 hm rfl rfl rfl Tryz.underlying125 xR rfl rfl ayT rfl rfl ⟨_,_,rfl,rfl,rfl⟩ wn rfl (I.g rfl) (I.g rfl) I rfl rfl fun a Zi aaN aHD w I hm=>aN 1 [] [(69,.q qs qG iS)] I fun a I=>?_
                 refine bQ wn (gG (vs:=[]) (cs:=[.i 0,.i 0]) Tryz.zeroValue159 Tryz.underlying159 WO rfl trivial (by kernel_rfl)) I rfl rfl fun a I=>gq (cs:=[.i 0,.i 0]) wn (fU (vs:=[(0,.agg #[.i 0,.i 0])]) Tryz.underlying126 Tryz.sizeOf159 Tryz.zeroValue159 rfl rfl rfl ⟨⟨(I.g rfl),rfl⟩,trivial⟩ (by kernel_rfl)) I hm rfl rfl fun a aJB w _ I hm=>?_;obtain ⟨L2,ayU,h⟩:=J.aH h;refine iH (T:=J.bS) (ml:=[(⟨0,0⟩:J.Target)]) 1 0 7 hm rfl rfl rfl Tryz.underlying126 LA rfl rfl ayU rfl rfl ⟨_,_,rfl,rfl,rfl⟩ wn rfl (I.g rfl) (I.g rfl) I rfl rfl fun a Zj aaO aHE w I hm=>?_
                 refine aN 2 [] [(6,.q Zi aaN L1),(7,.q Zj aaO L2)] I fun a I=>wpList_nil ?_;exact hq _ _ ⟨Zj,aaO,L2,aHE,Zi,aaN,L1,aHD,I.cut,hm.eA [0,1,2,3,4,5,6,7,10,11],(os h)⟩
               refine wp_skip ?_;exact hq _ _ ⟨qs,qG,iS,sK,nc,pa,gA,sL,I.cut,hm.eA [6,7,0,1,2,3,4,5,8,9],(os h)⟩
             rintro a w ⟨Bq,B5,sq,Yq,Ek,Fg,sr,OH,I,hm,bc⟩;subst aev;have h:=Tw;clear Tw;dsimp only at h;refine aY <| aN 4 [] [(73,.q Bq B5 sq),(74,.i sx),(75,.q aR aU en),(76,.i gZ)] I fun a I=>?_;obtain ⟨AW,aDx,h⟩:=J.aH h;obtain ⟨amO,axE,_,rfl,ato⟩:=bX _ (hm.d 8 rfl) aDx;refine bQ wn (bF Tryz.underlying22 Tryz.sizeOf3 rfl (I.g rfl) (I.g rfl) amO axE) I rfl rfl fun a I=>bi 2 [0,0] [(78,.i AW),(79,.i h3)] [bG aR,bH aR+(gZ).toNat* 1] (av ato aw) I fun a I=>?_
             refine bQ wn (gG (vs:=[(0,.i AW),(1,.i h3)]) (cs:=[.i AW,.i h3]) Tryz.zeroValue159 Tryz.underlying159 WO rfl ⟨⟨(I.g rfl),rfl⟩,⟨(I.g rfl),rfl⟩,trivial⟩ (by kernel_rfl)) I rfl rfl fun a I=>?_;obtain ⟨Yi,adK,h⟩:=J.aH h;obtain ⟨amP,axF,_,rfl,atp⟩:=gN (hm.e 0 rfl) (hm.d 0 rfl) adK;refine bQ wn (bF Tryz.underlying126 Tryz.sizeOf159 rfl (I.g rfl) (I.g rfl) amP axF) I rfl rfl fun a I=>?_;obtain ⟨L3,ayV,h⟩:=J.aH h
             refine rs (T:=J.bS) (d':=(⟨AW,h3⟩:J.Target)) (vs:=[.i AW,.i h3]) (cs0:=[.i Yi.aM,.i Yi.Method]) (kk:=0) 0 0 ayV hm rfl rfl adK rfl atp wn rfl Tryz.sizeOf159 rfl rfl rfl rfl rfl (I.g rfl) (I.g rfl) rfl fun aHF w hlen ad hm=>?_;try unfold Value.q at hm;try unfold Value.q at I;rw [hlen] at hm;try rw [hlen] at I;clear hlen;clear ad;refine wpList_nil ?_;have I:=I.cut (l':=[(0,.q ag ah aJ),(6,.q Ek Fg sr),(7,.q Bq B5 L3),(8,.q aR aU en),(9,.i gZ),(10,.i h3)])
             exact fK _ _ ⟨Bq,B5,L3,aHF,Ek,Fg,sr,OH,I.cut,hm.eA [0,2,7,8,9,10],(os h)⟩
           rintro a w ⟨Js,Kc,uE,OE,Jt,Kd,uF,OG,I,hm,bc⟩;subst aeu;have h:=Tu;clear Tu;dsimp only at h;refine fu _ _ <| cg [] [(10,.i (J.ap (h3+ 1)))] I fun a I=>?_;exact eX _ _ ⟨Js,Kc,uE,OE,Jt,Kd,uF,OG,J.ap (h3+ 1),I.cut,hm.eA [0,1,4,5],h⟩
         refine wp_exit <| bz (bz (cr ?_));exact ft _ _ ⟨qs,qG,iS,sK,nc,pa,gA,sL,I.cut,hm.eA [2,3,4,5],(os h)⟩
       rintro a w ⟨Jq,Ka,uC,OC,Jr,Kb,uD,OD,I,hm,bc⟩;subst VY;have h:=Tt;clear Tt;dsimp only at h;exact dS _ _ ⟨Jq,Ka,uC,OC,Jr,Kb,uD,OD,I.cut,hm,(os h)⟩
     rintro a w ⟨Jo,J_,uA,OA,Jp,J',uB,OB,I,hm,bc⟩;subst aet;have h:=Ts;clear Ts;dsimp only at h;refine dC _ _ <| cg [] [(9,.i (J.ap (gZ+ 1)))] I fun a I=>?_;exact cN _ _ ⟨Jo,J_,uA,OA,Jp,J',uB,OB,J.ap (gZ+ 1),I.cut,hm,h⟩
   refine wp_exit <| bz (bz (cr ?_));exact dl _ _ ⟨Bm,B1,pN,DI,Bn,B2,pO,DJ,I.cut,hm,(os h)⟩
 rintro a w ⟨D',E5,uq,On,Ea,E6,ur,Oo,I,hm,bc⟩;subst VL;have h:=Ta;clear Ta;dsimp only at h;refine cp _ _ <| bt [] [(4,.q Ea E6 ur),(5,.q D' E5 uq)] I fun a I=>wp_ret ?_;obtain rfl:=ay h;refine gD Tryz.results111 I rfl rfl ?_;exact ⟨Ea,E6,Oo,D',E5,On,rfl,hm.aX [1,0] [1,0]⟩
end Go.Proofs.YtpkhpagplommoaaGreat
