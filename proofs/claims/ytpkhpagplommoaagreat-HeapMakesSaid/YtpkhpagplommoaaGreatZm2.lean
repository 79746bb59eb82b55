/- Part 2 of the proof that is ended in the last text: small logic, what the functions compute, walks, plain laws. -/
import Derived.Test.YtpkhpagplommoaaGreatZm1
import Derived.Test.YtpkhpagplommoaaGreatChecked
import Derived.KernelRfl
namespace J
structure Kind where
 Kind:Int
 aN:List UInt8
 deriving DecidableEq
structure Handler where
 From:Int
 To:Int
 gX:Int
 aN:List UInt8
 deriving DecidableEq
structure Method where
 Name:List UInt8
 Static:Bool
 bD:List Kind
 Returns:Kind
 cT:Int
 cS:Int
 Code:List UInt8
 bH:List Handler
structure Field where
 Name:List UInt8
 Kind:Kind
 deriving DecidableEq
structure aN where
 Name:List UInt8
 bW:List UInt8
 Fields:List Field
 aR:List Method
structure Target where
 aN:Int
 Method:Int
 deriving DecidableEq
structure bw where
 aJ:List aN
 aG:List Int
 Fields:List (List Field)
 Names:List (List (List UInt8))
 aE:List (List Target)
structure df where
 l:List aN
 cH:List ((List UInt8) × Int)
 b1:List Int
structure bs where
 Words:List Int
 ar:Int
 aA:Int
 aO:Int
 aM:Int
 ay:List Int
 Next:Int
structure dq where
 K:bw
structure cm where
 H:bs
 S:dq
 ar:List Int
 aA:List Int
 c9:List (Int × Bool)
end J
namespace J
open Go
def dx:a2.fl Kind where
 size:=2
 rd _ _ cs d:=cs= [.int .i64 d.Kind,a2.ao d.aN]
 len h:=by subst h;rfl
 one h v ad:=by subst h;simp only [List.mem_cons,List.not_mem_nil,or_false] at ad;rcases ad with rfl | rfl <;> rfl
 law _ h:=h
def er:a2.fl Handler where
 size:=4
 rd _ _ cs d:=cs= [.int .i64 d.From,.int .i64 d.To,.int .i64 d.gX,a2.ao d.aN]
 len h:=by subst h;rfl
 one h v ad:=by subst h;simp only [List.mem_cons,List.not_mem_nil,or_false] at ad;rcases ad with rfl | rfl | rfl | rfl <;> rfl
 law _ h:=h
def b2:a2.fl Method where
 size:=9
 rd F w cs d:=∃ gx eb gy eg,cs= [a2.ao d.Name,.bool d.Static,.slice gx d.bD.length eb,.int .i64 d.Returns.Kind,a2.ao d.Returns.aN,.int .i64 d.cT,.int .i64 d.cS,a2.ao d.Code,.slice gy d.bH.length eg]/\(a2.aH J.dx).rd F w [.slice gx d.bD.length eb] d.bD/\(a2.aH J.er).rd F w [.slice gy d.bH.length eg] d.bH
 len h:=by obtain ⟨gx,eb,gy,eg,bE,_⟩:=h;subst bE;rfl
 one h v ad:=by obtain ⟨gx,eb,gy,eg,bE,_⟩:=h;subst bE;simp only [List.mem_cons,List.not_mem_nil,or_false] at ad;rcases ad with rfl | rfl | rfl | rfl | rfl | rfl | rfl | rfl | rfl <;> rfl
 law bV h:=by obtain ⟨gx,eb,gy,eg,bE,aC,aU⟩:=h;exact ⟨gx,eb,gy,eg,bE,(a2.aH J.dx).law bV aC,(a2.aH J.er).law bV aU⟩
def aX:a2.fl Field where
 size:=3
 rd _ _ cs d:=cs= [a2.ao d.Name,.int .i64 d.Kind.Kind,a2.ao d.Kind.aN]
 len h:=by subst h;rfl
 one h v ad:=by subst h;simp only [List.mem_cons,List.not_mem_nil,or_false] at ad;rcases ad with rfl | rfl | rfl <;> rfl
 law _ h:=h
def bd:a2.fl aN where
 size:=4
 rd F w cs d:=∃ gx eb gy eg,cs= [a2.ao d.Name,a2.ao d.bW,.slice gx d.Fields.length eb,.slice gy d.aR.length eg]/\(a2.aH J.aX).rd F w [.slice gx d.Fields.length eb] d.Fields/\(a2.aH J.b2).rd F w [.slice gy d.aR.length eg] d.aR
 len h:=by obtain ⟨gx,eb,gy,eg,bE,_⟩:=h;subst bE;rfl
 one h v ad:=by obtain ⟨gx,eb,gy,eg,bE,_⟩:=h;subst bE;simp only [List.mem_cons,List.not_mem_nil,or_false] at ad;rcases ad with rfl | rfl | rfl | rfl <;> rfl
 law bV h:=by obtain ⟨gx,eb,gy,eg,bE,aC,aU⟩:=h;exact ⟨gx,eb,gy,eg,bE,(a2.aH J.aX).law bV aC,(a2.aH J.b2).law bV aU⟩
def bR:a2.fl Target where
 size:=2
 rd _ _ cs d:=cs= [.int .i64 d.aN,.int .i64 d.Method]
 len h:=by subst h;rfl
 one h v ad:=by subst h;simp only [List.mem_cons,List.not_mem_nil,or_false] at ad;rcases ad with rfl | rfl <;> rfl
 law _ h:=h
def aHg:a2.fl bw where
 size:=5
 rd F w cs d:=∃ gx eb gy eg rY fH vW iQ vY j5,cs= [.slice gx d.aJ.length eb,.slice gy d.aG.length eg,.slice rY d.Fields.length fH,.slice vW d.Names.length iQ,.slice vY d.aE.length j5]/\(a2.aH J.bd).rd F w [.slice gx d.aJ.length eb] d.aJ/\(a2.aH (a2.aj .i64)).rd F w [.slice gy d.aG.length eg] d.aG/\(a2.aH (a2.aH J.aX)).rd F w [.slice rY d.Fields.length fH] d.Fields/\(a2.aH (a2.aH a2.bz)).rd F w [.slice vW d.Names.length iQ] d.Names/\(a2.aH (a2.aH J.bR)).rd F w [.slice vY d.aE.length j5] d.aE
 len h:=by obtain ⟨gx,eb,gy,eg,rY,fH,vW,iQ,vY,j5,bE,_⟩:=h;subst bE;rfl
 one h v ad:=by obtain ⟨gx,eb,gy,eg,rY,fH,vW,iQ,vY,j5,bE,_⟩:=h;subst bE;simp only [List.mem_cons,List.not_mem_nil,or_false] at ad;rcases ad with rfl | rfl | rfl | rfl | rfl <;> rfl
 law bV h:=by obtain ⟨gx,eb,gy,eg,rY,fH,vW,iQ,vY,j5,bE,aC,aU,bS,ew,lH⟩:=h;exact ⟨gx,eb,gy,eg,rY,fH,vW,iQ,vY,j5,bE,(a2.aH J.bd).law bV aC,(a2.aH (a2.aj .i64)).law bV aU,(a2.aH (a2.aH J.aX)).law bV bS,(a2.aH (a2.aH a2.bz)).law bV ew,(a2.aH (a2.aH J.bR)).law bV lH⟩
def aHf:a2.fl bs where
 size:=7
 rd F w cs d:=∃ gx eb gy eg,cs= [.slice gx d.Words.length eb,.int .i64 d.ar,.int .i64 d.aA,.int .i64 d.aO,.int .i64 d.aM,.slice gy d.ay.length eg,.int .i64 d.Next]/\(a2.aH (a2.aj .i64)).rd F w [.slice gx d.Words.length eb] d.Words/\(a2.aH (a2.aj .i64)).rd F w [.slice gy d.ay.length eg] d.ay
 len h:=by obtain ⟨gx,eb,gy,eg,bE,_⟩:=h;subst bE;rfl
 one h v ad:=by obtain ⟨gx,eb,gy,eg,bE,_⟩:=h;subst bE;simp only [List.mem_cons,List.not_mem_nil,or_false] at ad;rcases ad with rfl | rfl | rfl | rfl | rfl | rfl | rfl <;> rfl
 law bV h:=by obtain ⟨gx,eb,gy,eg,bE,aC,aU⟩:=h;exact ⟨gx,eb,gy,eg,bE,(a2.aH (a2.aj .i64)).law bV aC,(a2.aH (a2.aj .i64)).law bV aU⟩
end J
namespace Go.Value
abbrev aL (g:Nat):Value:=.pointer (some ⟨g,0,none⟩)
abbrev i (n:Int):Value:=.int .i64 n
end Go.Value
namespace Go.Proofs.YtpkhpagplommoaaGreat
open Go Go.RowKit
abbrev U {α:Type} (T:a2.fl α) (A:Option Addr) (c:Nat) (l:List α):a2.al:=a2.al.of (a2.aH T) [.slice A l.length c] l
def ms:a2.mf:=⟨[(3,.i .i64),(4,.b),(5,.i .u8),(9,.s),(22,.U),(25,.U),(26,.U),(27,.U),(28,.U),(31,.i .i64),(106,.U),(124,.U),(125,.U),(126,.U),(130,.U),(131,.U),(134,.U),(184,.U),(186,.U)],[(24,0,0),(24,1,1),(24,2,2),(24,3,3),(24,4,4),(24,5,5),(24,6,6),(30,0,0),(30,1,1),(30,2,2),(30,3,3),(30,4,4),(74,0,0),(77,0,0),(77,1,7),(77,2,12),(77,3,13),(77,4,14),(103,0,0),(103,1,1),(105,0,0),(105,1,1),(122,0,0),(122,1,1),(122,2,2),(133,0,0),(133,1,1),(133,2,2),(133,3,3),(133,4,5),(133,5,6),(133,6,7),(133,7,8),(136,0,0),(136,1,1),(136,2,2),(136,3,3),(150,0,0),(150,1,1),(150,2,2),(150,3,3)],[(3,none),(4,none),(5,none),(9,none),(22,none),(24,some 7),(25,none),(26,none),(27,none),(28,none),(30,some 5),(65,none),(74,some 5),(75,none),(103,some 2),(105,some 3),(106,none),(118,none),(120,none),(123,none),(125,none),(126,none),(130,none),(131,none),(133,some 9),(134,none),(136,some 4),(150,some 4),(159,some 2)]⟩
theorem nu:a2.r2 Tryz.prog ms:=⟨⟨Tryz.underlying3,Tryz.underlying4,Tryz.underlying5,Tryz.underlying9,⟨_,Tryz.underlying22⟩,⟨_,Tryz.underlying25⟩,⟨_,Tryz.underlying26⟩,⟨_,Tryz.underlying27⟩,⟨_,Tryz.underlying28⟩,Tryz.underlying31,⟨_,Tryz.underlying106⟩,⟨_,Tryz.underlying124⟩,⟨_,Tryz.underlying125⟩,⟨_,Tryz.underlying126⟩,⟨_,Tryz.underlying130⟩,⟨_,Tryz.underlying131⟩,⟨_,Tryz.underlying134⟩,⟨_,Tryz.underlying184⟩,⟨_,Tryz.underlying186⟩,trivial⟩,⟨a2.fw Tryz.underlying24 rfl rfl Tryz.sizeOf22 rfl,a2.fw Tryz.underlying24 rfl rfl Tryz.sizeOf3 rfl,a2.fw Tryz.underlying24 rfl rfl Tryz.sizeOf3 rfl,a2.fw Tryz.underlying24 rfl rfl Tryz.sizeOf3 rfl,a2.fw Tryz.underlying24 rfl rfl Tryz.sizeOf3 rfl,a2.fw Tryz.underlying24 rfl rfl Tryz.sizeOf22 rfl,a2.fw Tryz.underlying24 rfl rfl Tryz.sizeOf3 rfl,a2.fw Tryz.underlying30 rfl rfl Tryz.sizeOf25 rfl,a2.fw Tryz.underlying30 rfl rfl Tryz.sizeOf22 rfl,a2.fw Tryz.underlying30 rfl rfl Tryz.sizeOf26 rfl,a2.fw Tryz.underlying30 rfl rfl Tryz.sizeOf27 rfl,a2.fw Tryz.underlying30 rfl rfl Tryz.sizeOf28 rfl,a2.fw Tryz.underlying74 rfl rfl Tryz.sizeOf30 rfl,a2.fw Tryz.underlying77 rfl rfl Tryz.sizeOf24 rfl,a2.fw Tryz.underlying77 rfl rfl Tryz.sizeOf74 rfl,a2.fw Tryz.underlying77 rfl rfl Tryz.sizeOf22 rfl,a2.fw Tryz.underlying77 rfl rfl Tryz.sizeOf22 rfl,a2.fw Tryz.underlying77 rfl rfl Tryz.sizeOf75 rfl,a2.fw Tryz.underlying103 rfl rfl Tryz.sizeOf3 rfl,a2.fw Tryz.underlying103 rfl rfl Tryz.sizeOf9 rfl,a2.fw Tryz.underlying105 rfl rfl Tryz.sizeOf9 rfl,a2.fw Tryz.underlying105 rfl rfl Tryz.sizeOf103 rfl,a2.fw Tryz.underlying122 rfl rfl Tryz.sizeOf25 rfl,a2.fw Tryz.underlying122 rfl rfl Tryz.sizeOf120 rfl,a2.fw Tryz.underlying122 rfl rfl Tryz.sizeOf22 rfl,a2.fw Tryz.underlying133 rfl rfl Tryz.sizeOf9 rfl,a2.fw Tryz.underlying133 rfl rfl Tryz.sizeOf4 rfl,a2.fw Tryz.underlying133 rfl rfl Tryz.sizeOf130 rfl,a2.fw Tryz.underlying133 rfl rfl Tryz.sizeOf103 rfl,a2.fw Tryz.underlying133 rfl rfl Tryz.sizeOf3 rfl,a2.fw Tryz.underlying133 rfl rfl Tryz.sizeOf3 rfl,a2.fw Tryz.underlying133 rfl rfl Tryz.sizeOf9 rfl,a2.fw Tryz.underlying133 rfl rfl Tryz.sizeOf131 rfl,a2.fw Tryz.underlying136 rfl rfl Tryz.sizeOf9 rfl,a2.fw Tryz.underlying136 rfl rfl Tryz.sizeOf9 rfl,a2.fw Tryz.underlying136 rfl rfl Tryz.sizeOf106 rfl,a2.fw Tryz.underlying136 rfl rfl Tryz.sizeOf134 rfl,a2.fw Tryz.underlying150 rfl rfl Tryz.sizeOf3 rfl,a2.fw Tryz.underlying150 rfl rfl Tryz.sizeOf3 rfl,a2.fw Tryz.underlying150 rfl rfl Tryz.sizeOf3 rfl,a2.fw Tryz.underlying150 rfl rfl Tryz.sizeOf9 rfl,trivial⟩,⟨Tryz.isAgg3,Tryz.isAgg4,Tryz.isAgg5,Tryz.isAgg9,Tryz.isAgg22,⟨Tryz.isAgg24,Tryz.sizeOf24⟩,Tryz.isAgg25,Tryz.isAgg26,Tryz.isAgg27,Tryz.isAgg28,⟨Tryz.isAgg30,Tryz.sizeOf30⟩,Tryz.isAgg65,⟨Tryz.isAgg74,Tryz.sizeOf74⟩,Tryz.isAgg75,⟨Tryz.isAgg103,Tryz.sizeOf103⟩,⟨Tryz.isAgg105,Tryz.sizeOf105⟩,Tryz.isAgg106,Tryz.isAgg118,Tryz.isAgg120,Tryz.isAgg123,Tryz.isAgg125,Tryz.isAgg126,Tryz.isAgg130,Tryz.isAgg131,⟨Tryz.isAgg133,Tryz.sizeOf133⟩,Tryz.isAgg134,⟨Tryz.isAgg136,Tryz.sizeOf136⟩,⟨Tryz.isAgg150,Tryz.sizeOf150⟩,⟨Tryz.isAgg159,Tryz.sizeOf159⟩,trivial⟩⟩
theorem jC:(Tryz.prog.info? 3).map (fun i=>(i.zero,i.size,i.bytes))=some (some (.int .i64 0),1,8):=by kernel_rfl
theorem ya:(Tryz.prog.info? 9).map (fun i=>(i.zero,i.size,i.bytes))=some (some (a2.ao []),1,16):=by kernel_rfl
theorem aEE:(Tryz.prog.info? 103).map (fun i=>(i.zero,i.size,i.bytes))=some (some (.agg #[.int .i64 0,a2.ao []]),2,24):=by kernel_rfl
theorem UN:(Tryz.prog.info? 105).map (fun i=>(i.zero,i.size,i.bytes))=some (some (.agg #[a2.ao [],.int .i64 0,a2.ao []]),3,40):=by kernel_rfl
theorem ad':(Tryz.prog.info? 106).map (fun i=>(i.zero,i.size,i.bytes))=some (some (.slice none 0 0),1,24):=by kernel_rfl
theorem aea:(Tryz.prog.info? 125).map (fun i=>(i.zero,i.size,i.bytes))=some (some (.slice none 0 0),1,24):=by kernel_rfl
theorem aeb:(Tryz.prog.info? 126).map (fun i=>(i.zero,i.size,i.bytes))=some (some (.slice none 0 0),1,24):=by kernel_rfl
theorem aEF:(Tryz.prog.info? 133).map (fun i=>(i.zero,i.size,i.bytes))=some (some (.agg #[a2.ao [],.bool false,.slice none 0 0,.int .i64 0,a2.ao [],.int .i64 0,.int .i64 0,a2.ao [],.slice none 0 0]),9,128):=by kernel_rfl
theorem aEG:(Tryz.prog.info? 136).map (fun i=>(i.zero,i.size,i.bytes))=some (some (.agg #[a2.ao [],a2.ao [],.slice none 0 0,.slice none 0 0]),4,80):=by kernel_rfl
theorem aEH:(Tryz.prog.info? 150).map (fun i=>(i.zero,i.size,i.bytes))=some (some (.agg #[.int .i64 0,.int .i64 0,.int .i64 0,a2.ao []]),4,40):=by kernel_rfl
theorem L0:(Tryz.prog.info? 159).map (fun i=>(i.zero,i.size,i.bytes))=some (some (.agg #[.int .i64 0,.int .i64 0]),2,16):=by kernel_rfl
theorem rA:∀ w,(a2.placesOf Tryz.prog 24).run Tryz.prog w= .ok #[(0,1),(1,1),(2,1),(3,1),(4,1),(5,1),(6,1)] w:=fun w=>by kernel_rfl
theorem qg:∀ w,(a2.placesOf Tryz.prog 30).run Tryz.prog w= .ok #[(0,1),(1,1),(2,1),(3,1),(4,1)] w:=fun w=>by kernel_rfl
theorem aFO:∀ w,(a2.placesOf Tryz.prog 74).run Tryz.prog w= .ok #[(0,5)] w:=fun w=>by kernel_rfl
theorem aFP:∀ w,(a2.placesOf Tryz.prog 77).run Tryz.prog w= .ok #[(0,7),(7,5),(12,1),(13,1),(14,1)] w:=fun w=>by kernel_rfl
theorem afs:∀ w,(a2.placesOf Tryz.prog 103).run Tryz.prog w= .ok #[(0,1),(1,1)] w:=fun w=>by kernel_rfl
theorem aFL:∀ w,(a2.placesOf Tryz.prog 105).run Tryz.prog w= .ok #[(0,1),(1,2)] w:=fun w=>by kernel_rfl
theorem aFM:∀ w,(a2.placesOf Tryz.prog 122).run Tryz.prog w= .ok #[(0,1),(1,1),(2,1)] w:=fun w=>by kernel_rfl
theorem aFN:∀ w,(a2.placesOf Tryz.prog 133).run Tryz.prog w= .ok #[(0,1),(1,1),(2,1),(3,2),(5,1),(6,1),(7,1),(8,1)] w:=fun w=>by kernel_rfl
theorem aft:∀ w,(a2.placesOf Tryz.prog 136).run Tryz.prog w= .ok #[(0,1),(1,1),(2,1),(3,1)] w:=fun w=>by kernel_rfl
theorem WX:∀ w,(a2.placesOf Tryz.prog 159).run Tryz.prog w= .ok #[(0,1),(1,1)] w:=fun w=>by kernel_rfl
theorem akl {o:Oper} {a:Act} {w:World} {ep:TypeId} {x y:Operand} {X Y:J.Kind} (br:o.op= .binOp .eql 103 x y ep) (ai:a.eval x= .agg #[.int .i64 X.Kind,a2.ao X.aN]) (hy:a.eval y= .agg #[.int .i64 Y.Kind,a2.ao Y.aN]):a2.cg Tryz.prog o a w (.bool (decide (X=Y))) w:=by
 have bT:decide (X=Y)=decide (X.Kind=Y.Kind/\X.aN=Y.aN/\True):=by rcases X with ⟨_,_⟩;rcases Y with ⟨_,_⟩;simp
 rw [bT]
 exact a2.aIp Tryz.underlying103 (by kernel_rfl) (by kernel_rfl) (a2.xy rfl Tryz.underlying3 Tryz.isAgg3 rfl rfl (a2.FR rfl Tryz.underlying9 Tryz.isAgg9 rfl rfl (by simp [a2.Cy]))) br ai hy
theorem FT {o:Oper} {a:Act} {w:World} {ep:TypeId} {x y:Operand} {X Y:J.Kind} (br:o.op= .binOp .neq 103 x y ep) (ai:a.eval x= .agg #[.int .i64 X.Kind,a2.ao X.aN]) (hy:a.eval y= .agg #[.int .i64 Y.Kind,a2.ao Y.aN]):a2.cg Tryz.prog o a w (.bool (!decide (X=Y))) w:=by
 have bT:decide (X=Y)=decide (X.Kind=Y.Kind/\X.aN=Y.aN/\True):=by rcases X with ⟨_,_⟩;rcases Y with ⟨_,_⟩;simp
 rw [bT]
 exact a2.Pu Tryz.underlying103 (by kernel_rfl) (by kernel_rfl) (a2.xy rfl Tryz.underlying3 Tryz.isAgg3 rfl rfl (a2.FR rfl Tryz.underlying9 Tryz.isAgg9 rfl rfl (by simp [a2.Cy]))) br ai hy
theorem acb {o:Oper} {a:Act} {w:World} {ep:TypeId} {x y:Operand} {X Y:J.Field} (br:o.op= .binOp .neq 105 x y ep) (ai:a.eval x= .agg #[a2.ao X.Name,.int .i64 X.Kind.Kind,a2.ao X.Kind.aN]) (hy:a.eval y= .agg #[a2.ao Y.Name,.int .i64 Y.Kind.Kind,a2.ao Y.Kind.aN]):a2.cg Tryz.prog o a w (.bool (!decide (X=Y))) w:=by
 have bT:decide (X=Y)=decide (X.Name=Y.Name/\(X.Kind.Kind=Y.Kind.Kind/\X.Kind.aN=Y.Kind.aN/\True)/\True):=by rcases X with ⟨_,⟨_,_⟩⟩;rcases Y with ⟨_,⟨_,_⟩⟩;simp
 rw [bT]
 exact a2.Pu Tryz.underlying105 (by kernel_rfl) (by kernel_rfl) (a2.FR rfl Tryz.underlying9 Tryz.isAgg9 rfl rfl (a2.akd (us:=[.int .i64 X.Kind.Kind,a2.ao X.Kind.aN]) (vs:=[.int .i64 Y.Kind.Kind,a2.ao Y.Kind.aN]) (q:=X.Kind.Kind=Y.Kind.Kind/\X.Kind.aN=Y.Kind.aN/\True) rfl Tryz.isAgg103 Tryz.sizeOf103 rfl rfl (a2.akn Tryz.underlying103 (by kernel_rfl) (a2.xy rfl Tryz.underlying3 Tryz.isAgg3 rfl rfl (a2.FR rfl Tryz.underlying9 Tryz.isAgg9 rfl rfl (by simp [a2.Cy])))) (by simp [a2.Cy]))) br ai hy
theorem akm {o:Oper} {a:Act} {w:World} {ep:TypeId} {x y:Operand} {X Y:J.Handler} (br:o.op= .binOp .neq 150 x y ep) (ai:a.eval x= .agg #[.int .i64 X.From,.int .i64 X.To,.int .i64 X.gX,a2.ao X.aN]) (hy:a.eval y= .agg #[.int .i64 Y.From,.int .i64 Y.To,.int .i64 Y.gX,a2.ao Y.aN]):a2.cg Tryz.prog o a w (.bool (!decide (X=Y))) w:=by
 have bT:decide (X=Y)=decide (X.From=Y.From/\X.To=Y.To/\X.gX=Y.gX/\X.aN=Y.aN/\True):=by rcases X with ⟨_,_,_,_⟩;rcases Y with ⟨_,_,_,_⟩;simp
 rw [bT]
 exact a2.Pu Tryz.underlying150 (by kernel_rfl) (by kernel_rfl) (a2.xy rfl Tryz.underlying3 Tryz.isAgg3 rfl rfl (a2.xy rfl Tryz.underlying3 Tryz.isAgg3 rfl rfl (a2.xy rfl Tryz.underlying3 Tryz.isAgg3 rfl rfl (a2.FR rfl Tryz.underlying9 Tryz.isAgg9 rfl rfl (by simp [a2.Cy]))))) br ai hy
theorem acd {o:Oper} {a:Act} {w:World} {ep:TypeId} {x y:Operand} {X Y:J.Target} (br:o.op= .binOp .neq 159 x y ep) (ai:a.eval x= .agg #[.int .i64 X.aN,.int .i64 X.Method]) (hy:a.eval y= .agg #[.int .i64 Y.aN,.int .i64 Y.Method]):a2.cg Tryz.prog o a w (.bool (!decide (X=Y))) w:=by
 have bT:decide (X=Y)=decide (X.aN=Y.aN/\X.Method=Y.Method/\True):=by rcases X with ⟨_,_⟩;rcases Y with ⟨_,_⟩;simp
 rw [bT]
 exact a2.Pu Tryz.underlying159 (by kernel_rfl) (by kernel_rfl) (a2.xy rfl Tryz.underlying3 Tryz.isAgg3 rfl rfl (a2.xy rfl Tryz.underlying3 Tryz.isAgg3 rfl rfl (by simp [a2.Cy]))) br ai hy
section
open a2
variable {n:hb} {b0:List (Nat × Value)} {w:World} {a:Act}
theorem eo (k:Nat) (a5:List Nat) {ops:Array Oper} {Q:Exit->Act->World->Prop} {rest:List Oper} (fr':List (Nat × Value)) (I:Fr n b0 a)
 (next:∀ bM,Fr n fr' bM->wpList Tryz.prog ops Q (rest.drop k) bM w) (he:j7 ms ops n [] (rest.take k) a5 b0 (fr'.map (·.1))=some (fr',dup []):=by kernel_rfl):wpList Tryz.prog ops Q rest a w:=g' k _ a5 nu ax I he next
theorem jS (k:Nat) (a5:List Nat) {ops:Array Oper} {Q:Exit->Act->World->Prop} {rest:List Oper} {M:List (Nat × Nat × List Value)} (fr':List (Nat × Value)) (L:List Nat) (fr:iT w M) (I:Fr n b0 a)
 (next:∀ bM,Fr n fr' bM->wpList Tryz.prog ops Q (rest.drop k) bM w) (he:j7 ms ops n M (rest.take k) a5 b0 (fr'.map (·.1))=some (fr',dup L):=by kernel_rfl):wpList Tryz.prog ops Q rest a w:=g' k _ a5 nu fr I he next
theorem ML (k:Nat) (a5:List Nat) {ops:Array Oper} {C:World->Prop} {nd:Act->Prop} {rest:List Oper} {M:List (Nat × Nat × List Value)} (fr':List (Nat × Value)) (L:List Nat) (fr:∀ w,C w->iT w M) (I:Fr n b0 a)
 (next:∀ bM,Fr n fr' bM->wpQuiet Tryz.prog ops C nd (rest.drop k) bM) (he:j7 ms ops n M (rest.take k) a5 b0 (fr'.map (·.1))=some (fr',dup L):=by kernel_rfl):wpQuiet Tryz.prog ops C nd rest a:=afw k _ a5 nu fr I he next
theorem rg (a5:List Nat) {id:Nat} {lo:List Oper} {Q:Exit->Act->World->Prop} {M:List (Nat × Nat × List Value)} (fr':List (Nat × Value)) (L:List Nat) (fr:iT w M) (I:Fr n b0 a)
 (next:∀ bM,Fr n fr' bM->Q .normal bM w) (he:j7 ms lo.toArray n M lo a5 b0 (fr'.map (·.1))=some (fr',dup L):=by kernel_rfl):(Code.region id lo.toArray false).wp Tryz.prog Q a w:=by
 refine aY (g' lo.length _ a5 nu fr I (by rw [List.take_length];exact he) fun bM e5=>?_)
 rw [List.drop_length]
 exact next bM e5
theorem DB (a5:List Nat) {id:Nat} {lo:List Oper} {Q:Exit->Act->World->Prop} (fr':List (Nat × Value)) (I:Fr n b0 a)
 (next:∀ bM,Fr n fr' bM->Q .normal bM w) (he:j7 ms lo.toArray n [] lo a5 b0 (fr'.map (·.1))=some (fr',dup []):=by kernel_rfl):(Code.region id lo.toArray false).wp Tryz.prog Q a w:=rg a5 fr' [] ax I next he
theorem bt (a5:List Nat) {id:Nat} {lo:List Oper} {c:Code} {Q:Exit->Act->World->Prop} (fr':List (Nat × Value)) (I:Fr n b0 a)
 (next:∀ bM,Fr n fr' bM->c.wp Tryz.prog Q bM w) (he:j7 ms lo.toArray n [] lo a5 b0 (fr'.map (·.1))=some (fr',dup []):=by kernel_rfl):(Code.seq (.region id lo.toArray false) c).wp Tryz.prog Q a w:=wp_seq_k fun _ hs=>rg a5 fr' [] ax I (fun bM e5=>hs _ _ (next bM e5)) he
theorem aP (k:Nat) (a5:List Nat) {ops:Array Oper} {Q:Exit->Act->World->Prop} {rest:List Oper} (hk:List (Nat × Value)) (I:Fr n b0 a)
 (next:∀ bM,Fr n (n' hk b0) bM->wpList Tryz.prog ops Q (rest.drop k) bM w) (he:j7 ms ops n [] (rest.take k) a5 b0 ((lB hk b0).map (·.1))=some (lB hk b0,dup []):=by kernel_rfl):wpList Tryz.prog ops Q rest a w:=g' k _ a5 nu ax I he fun bM h=>next bM h.FP
theorem bf (k:Nat) (a5:List Nat) {ops:Array Oper} {Q:Exit->Act->World->Prop} {rest:List Oper} {M:List (Nat × Nat × List Value)} (hk:List (Nat × Value)) (L:List Nat) (fr:iT w M) (I:Fr n b0 a)
 (next:∀ bM,Fr n (n' hk b0) bM->wpList Tryz.prog ops Q (rest.drop k) bM w) (he:j7 ms ops n M (rest.take k) a5 b0 ((lB hk b0).map (·.1))=some (lB hk b0,dup L):=by kernel_rfl):wpList Tryz.prog ops Q rest a w:=g' k _ a5 nu fr I he fun bM h=>next bM h.FP
theorem dM (k:Nat) (a5:List Nat) {ops:Array Oper} {C:World->Prop} {nd:Act->Prop} {rest:List Oper} {M:List (Nat × Nat × List Value)} (hk:List (Nat × Value)) (L:List Nat) (fr:∀ w,C w->iT w M) (I:Fr n b0 a)
 (next:∀ bM,Fr n (n' hk b0) bM->wpQuiet Tryz.prog ops C nd (rest.drop k) bM) (he:j7 ms ops n M (rest.take k) a5 b0 ((lB hk b0).map (·.1))=some (lB hk b0,dup L):=by kernel_rfl):wpQuiet Tryz.prog ops C nd rest a:=afw k _ a5 nu fr I he fun bM h=>next bM h.FP
theorem eI (a5:List Nat) {id:Nat} {lo:List Oper} {Q:Exit->Act->World->Prop} {M:List (Nat × Nat × List Value)} (hk:List (Nat × Value)) (L:List Nat) (fr:iT w M) (I:Fr n b0 a)
 (next:∀ bM,Fr n (n' hk b0) bM->Q .normal bM w) (he:j7 ms lo.toArray n M lo a5 b0 ((lB hk b0).map (·.1))=some (lB hk b0,dup L):=by kernel_rfl):(Code.region id lo.toArray false).wp Tryz.prog Q a w:=rg a5 _ L fr I (fun bM h=>next bM h.FP) he
theorem ch (a5:List Nat) {id:Nat} {lo:List Oper} {Q:Exit->Act->World->Prop} (hk:List (Nat × Value)) (I:Fr n b0 a)
 (next:∀ bM,Fr n (n' hk b0) bM->Q .normal bM w) (he:j7 ms lo.toArray n [] lo a5 b0 ((lB hk b0).map (·.1))=some (lB hk b0,dup []):=by kernel_rfl):(Code.region id lo.toArray false).wp Tryz.prog Q a w:=eI a5 hk [] ax I next he
theorem bc (a5:List Nat) {id:Nat} {lo:List Oper} {c:Code} {Q:Exit->Act->World->Prop} (hk:List (Nat × Value)) (I:Fr n b0 a)
 (next:∀ bM,Fr n (n' hk b0) bM->c.wp Tryz.prog Q bM w) (he:j7 ms lo.toArray n [] lo a5 b0 ((lB hk b0).map (·.1))=some (lB hk b0,dup []):=by kernel_rfl):(Code.seq (.region id lo.toArray false) c).wp Tryz.prog Q a w:=wp_seq_k fun _ hs=>eI a5 hk [] ax I (fun bM e5=>hs _ _ (next bM e5)) he
variable {ops:Array Oper} {Q:Exit->Act->World->Prop} {S:World->Prop} {f p:Nat} {ds:List Nat} {M:List (Nat × Nat × List Value)}
theorem a0 (is:List Nat) (k:Nat) (a5:List Nat) (fr':List (Nat × Value)) (L:List Nat) (fr:∀ w,S w->iT w M) (I:Fr n b0 a) (oA:S w) (next:∀ bM,Fr n fr' bM->dV Tryz.prog ops Q p S f (Ir is ds) bM w)
 (bh:Nat.beq is.length k=true:=by kernel_rfl) (ny:(hB ops.size ds).getD p false=false:=by kernel_rfl) (bA:DK ops p ds is=true:=by kernel_rfl) (he:K9 ms ops n M is a5 b0 (fr'.map (·.1))=some (fr',dup L):=by kernel_rfl):dV Tryz.prog ops Q p S (f+k) ds a w:=by
 obtain ⟨os,aC,aU⟩:=akt he
 exact ahJ is k _ a5 nu fr I bh ny aC bA aU oA next
theorem cc (is:List Nat) (k:Nat) (a5:List Nat) (hk:List (Nat × Value)) (L:List Nat) (fr:∀ w,S w->iT w M) (I:Fr n b0 a) (oA:S w) (next:∀ bM,Fr n (n' hk b0) bM->dV Tryz.prog ops Q p S f (Ir is ds) bM w)
 (bh:Nat.beq is.length k=true:=by kernel_rfl) (ny:(hB ops.size ds).getD p false=false:=by kernel_rfl) (bA:DK ops p ds is=true:=by kernel_rfl) (he:K9 ms ops n M is a5 b0 ((lB hk b0).map (·.1))=some (lB hk b0,dup L):=by kernel_rfl):dV Tryz.prog ops Q p S (f+k) ds a w:=
 a0 is k a5 _ L fr I oA (fun bM h=>next bM h.FP) bh ny bA he
end
end Go.Proofs.YtpkhpagplommoaaGreat
namespace Go.Proofs.YtpkhpagplommoaaGreat
open Go Go.RowKit
theorem nk:Tryz.prog.cellsOf 3 = 1 :=by kernel_rfl
theorem ajZ:Tryz.prog.cellsOf 4 = 1 :=by kernel_rfl
theorem xt:Tryz.prog.cellsOf 9 = 1 :=by kernel_rfl
theorem QH:Tryz.prog.cellsOf 22 = 1 :=by kernel_rfl
theorem ajS:Tryz.prog.cellsOf 24 = 7 :=by kernel_rfl
theorem ajU:Tryz.prog.cellsOf 25 = 1 :=by kernel_rfl
theorem ajV:Tryz.prog.cellsOf 26 = 1 :=by kernel_rfl
theorem ajW:Tryz.prog.cellsOf 27 = 1 :=by kernel_rfl
theorem ajX:Tryz.prog.cellsOf 28 = 1 :=by kernel_rfl
theorem ajY:Tryz.prog.cellsOf 30 = 5 :=by kernel_rfl
theorem K3:Tryz.prog.cellsOf 103 = 2 :=by kernel_rfl
theorem abP:Tryz.prog.cellsOf 105 = 3 :=by kernel_rfl
theorem abQ:Tryz.prog.cellsOf 106 = 1 :=by kernel_rfl
theorem ajM:Tryz.prog.cellsOf 125 = 1 :=by kernel_rfl
theorem ajN:Tryz.prog.cellsOf 126 = 1 :=by kernel_rfl
theorem ajO:Tryz.prog.cellsOf 130 = 1 :=by kernel_rfl
theorem ajP:Tryz.prog.cellsOf 131 = 1 :=by kernel_rfl
theorem abR:Tryz.prog.cellsOf 133 = 9 :=by kernel_rfl
theorem ajQ:Tryz.prog.cellsOf 134 = 1 :=by kernel_rfl
theorem abS:Tryz.prog.cellsOf 136 = 4 :=by kernel_rfl
theorem abU:Tryz.prog.cellsOf 150 = 4 :=by kernel_rfl
theorem abW:Tryz.prog.cellsOf 159 = 2 :=by kernel_rfl
theorem ahY:Tryz.prog.bytesOf 3 = 8 :=by kernel_rfl
theorem ahZ:Tryz.prog.bytesOf 9 = 16 :=by kernel_rfl
theorem ahP:Tryz.prog.bytesOf 103 = 24 :=by kernel_rfl
theorem ahQ:Tryz.prog.bytesOf 105 = 40 :=by kernel_rfl
theorem ahR:Tryz.prog.bytesOf 106 = 24 :=by kernel_rfl
theorem ahS:Tryz.prog.bytesOf 125 = 24 :=by kernel_rfl
theorem ahT:Tryz.prog.bytesOf 126 = 24 :=by kernel_rfl
theorem ahU:Tryz.prog.bytesOf 133 = 128 :=by kernel_rfl
theorem ahV:Tryz.prog.bytesOf 136 = 80 :=by kernel_rfl
theorem ahW:Tryz.prog.bytesOf 150 = 40 :=by kernel_rfl
theorem ahX:Tryz.prog.bytesOf 159 = 16 :=by kernel_rfl
theorem afa {l:List Value} (h:l.length= 2):∃ a0 dY,l= [a0,dY]:=match l,h with | [a0,dY],_=>⟨a0,dY,rfl⟩
theorem aE0 {l:List Value} (h:l.length= 3):∃ a0 dY eZ,l= [a0,dY,eZ]:=match l,h with | [a0,dY,eZ],_=>⟨a0,dY,eZ,rfl⟩
theorem afb {l:List Value} (h:l.length= 4):∃ a0 dY eZ a3,l= [a0,dY,eZ,a3]:=match l,h with | [a0,dY,eZ,a3],_=>⟨a0,dY,eZ,a3,rfl⟩
theorem aE1 {l:List Value} (h:l.length= 5):∃ a0 dY eZ a3 a4,l= [a0,dY,eZ,a3,a4]:=match l,h with | [a0,dY,eZ,a3,a4],_=>⟨a0,dY,eZ,a3,a4,rfl⟩
theorem aE2 {l:List Value} (h:l.length= 7):∃ a0 dY eZ a3 a4 nf mg,l= [a0,dY,eZ,a3,a4,nf,mg]:=match l,h with | [a0,dY,eZ,a3,a4,nf,mg],_=>⟨a0,dY,eZ,a3,a4,nf,mg,rfl⟩
theorem aE3 {l:List Value} (h:l.length= 9):∃ a0 dY eZ a3 a4 nf mg zp B2,l= [a0,dY,eZ,a3,a4,nf,mg,zp,B2]:=match l,h with | [a0,dY,eZ,a3,a4,nf,mg,zp,B2],_=>⟨a0,dY,eZ,a3,a4,nf,mg,zp,B2,rfl⟩
section
variable {H:Type} {enc:TypeId × Value->H} {N:Nat}
theorem XU:a2.hV Tryz.prog enc N 22 (a2.aH (a2.aj .i64)) (fun l=>l.length* 8 <=N/\ ∀ e8 ∈ l,a2.jg e8):=by
 have h:=a2.rH (enc:=enc) (N:=N) Tryz.underlying22 nk (by decide) (a2.nK Tryz.underlying3)
 rw [ahY] at h
 exact h
def ZS (N:Nat) (d:J.bs):Prop:=(d.Words.length* 8 <=N/\ ∀ e8 ∈ d.Words,a2.jg e8)/\a2.jg d.ar/\a2.jg d.aA/\a2.jg d.aO/\a2.jg d.aM/\(d.ay.length* 8 <=N/\ ∀ e8 ∈ d.ay,a2.jg e8)/\a2.jg d.Next
theorem aGe:a2.hV Tryz.prog enc N 24 J.aHf (ZS N):=by
 intro W n cs x h b3 hw
 obtain ⟨kh,az,I⟩:=a2.ot Tryz.underlying24 h b3 hw
 replace az:=az.trans ajS
 obtain ⟨a0,dY,eZ,a3,a4,nf,mg,rfl⟩:=aE2 az
 obtain ⟨Bl,bE,h8,iK⟩:=a2.gm I 0 rfl rfl rfl QH (r:=[a0]) rfl
 obtain ⟨d0,ko,k6⟩:=(XU) W _ _ _ bE h8 iK
 obtain ⟨qq,zr,iy⟩:=a2.fW ko
 obtain rfl:a0=_:=(List.cons.inj iy).1
 obtain ⟨Bm,aC,hl,a7⟩:=a2.gm I 1 rfl rfl rfl nk (r:=[dY]) rfl
 obtain ⟨d1,jQ,jo⟩:=(a2.nK Tryz.underlying3) W _ _ _ aC hl a7
 have bO:[dY]=_:=jQ
 obtain rfl:dY=_:=(List.cons.inj bO).1
 obtain ⟨Pq,aU,l3,qk⟩:=a2.gm I 2 rfl rfl rfl nk (r:=[eZ]) rfl
 obtain ⟨d2,nH,k7⟩:=(a2.nK Tryz.underlying3) W _ _ _ aU l3 qk
 have b4:[eZ]=_:=nH
 obtain rfl:eZ=_:=(List.cons.inj b4).1
 obtain ⟨Pr,bS,sQ,o8⟩:=a2.gm I 3 rfl rfl rfl nk (r:=[a3]) rfl
 obtain ⟨d3,m5,rl⟩:=(a2.nK Tryz.underlying3) W _ _ _ bS sQ o8
 have eu:[a3]=_:=m5
 obtain rfl:a3=_:=(List.cons.inj eu).1
 obtain ⟨ag3,ew,Ds,IJ⟩:=a2.gm I 4 rfl rfl rfl nk (r:=[a4]) rfl
 obtain ⟨d4,Dw,HV⟩:=(a2.nK Tryz.underlying3) W _ _ _ ew Ds IJ
 have g8:[a4]=_:=Dw
 obtain rfl:a4=_:=(List.cons.inj g8).1
 obtain ⟨aIc,lH,WT,Yf⟩:=a2.gm I 5 rfl rfl rfl QH (r:=[nf]) rfl
 obtain ⟨d5,M6,Wk⟩:=(XU) W _ _ _ lH WT Yf
 obtain ⟨vY,j5,j6⟩:=a2.fW M6
 obtain rfl:nf=_:=(List.cons.inj j6).1
 obtain ⟨aId,tR,WU,Yg⟩:=a2.gm I 6 rfl rfl rfl nk (r:=[mg]) rfl
 obtain ⟨d6,XF,Wl⟩:=(a2.nK Tryz.underlying3) W _ _ _ tR WU Yg
 have zB:[mg]=_:=XF
 obtain rfl:mg=_:=(List.cons.inj zB).1
 exact ⟨⟨d0,d1,d2,d3,d4,d5,d6⟩,⟨qq,zr,vY,j5,rfl,ko,M6⟩,⟨k6,jo,k7,rl,HV,Wk,Wl⟩⟩
def EV (N:Nat) (d:J.Kind):Prop:=a2.jg d.Kind/\d.aN.length<=N
theorem XT:a2.hV Tryz.prog enc N 103 J.dx (EV N):=by
 intro W n cs x h b3 hw
 obtain ⟨kh,az,I⟩:=a2.ot Tryz.underlying103 h b3 hw
 replace az:=az.trans K3
 obtain ⟨a0,dY,rfl⟩:=afa az
 obtain ⟨Bl,bE,h8,iK⟩:=a2.gm I 0 rfl rfl rfl nk (r:=[a0]) rfl
 obtain ⟨d0,ko,k6⟩:=(a2.nK Tryz.underlying3) W _ _ _ bE h8 iK
 have iy:[a0]=_:=ko
 obtain rfl:a0=_:=(List.cons.inj iy).1
 obtain ⟨Bm,aC,hl,a7⟩:=a2.gm I 1 rfl rfl rfl xt (r:=[dY]) rfl
 obtain ⟨d1,jQ,jo⟩:=(a2.yI Tryz.underlying9) W _ _ _ aC hl a7
 have bO:[dY]=_:=jQ
 obtain rfl:dY=_:=(List.cons.inj bO).1
 exact ⟨⟨d0,d1⟩,rfl,⟨k6,jo⟩⟩
def EU (N:Nat) (d:J.Field):Prop:=d.Name.length<=N/\EV N d.Kind
theorem aGc:a2.hV Tryz.prog enc N 105 J.aX (EU N):=by
 intro W n cs x h b3 hw
 obtain ⟨kh,az,I⟩:=a2.ot Tryz.underlying105 h b3 hw
 replace az:=az.trans abP
 obtain ⟨a0,dY,eZ,rfl⟩:=aE0 az
 obtain ⟨Bl,bE,h8,iK⟩:=a2.gm I 0 rfl rfl rfl xt (r:=[a0]) rfl
 obtain ⟨d0,ko,k6⟩:=(a2.yI Tryz.underlying9) W _ _ _ bE h8 iK
 have iy:[a0]=_:=ko
 obtain rfl:a0=_:=(List.cons.inj iy).1
 obtain ⟨Bm,aC,hl,a7⟩:=a2.gm I 1 rfl rfl rfl K3 (r:=[dY,eZ]) rfl
 obtain ⟨d1,jQ,jo⟩:=XT W _ _ _ aC hl a7
 have bO:[dY,eZ]=_:=jQ
 simp only [List.cons.injEq,and_true] at bO
 obtain ⟨rfl,rfl⟩:=bO
 exact ⟨⟨d0,d1⟩,rfl,⟨k6,jo⟩⟩
theorem afO:a2.hV Tryz.prog enc N 106 (a2.aH J.aX) (fun l=>l.length* 40 <=N/\ ∀ e8 ∈ l,EU N e8):=by
 have h:=a2.rH (enc:=enc) (N:=N) Tryz.underlying106 abP (by decide) aGc
 rw [ahQ] at h
 exact h
theorem aGl:a2.hV Tryz.prog enc N 130 (a2.aH J.dx) (fun l=>l.length* 24 <=N/\ ∀ e8 ∈ l,EV N e8):=by
 have h:=a2.rH (enc:=enc) (N:=N) Tryz.underlying130 K3 (by decide) XT
 rw [ahP] at h
 exact h
def PW (N:Nat) (d:J.Handler):Prop:=a2.jg d.From/\a2.jg d.To/\a2.jg d.gX/\d.aN.length<=N
theorem aGd:a2.hV Tryz.prog enc N 150 J.er (PW N):=by
 intro W n cs x h b3 hw
 obtain ⟨kh,az,I⟩:=a2.ot Tryz.underlying150 h b3 hw
 replace az:=az.trans abU
 obtain ⟨a0,dY,eZ,a3,rfl⟩:=afb az
 obtain ⟨Bl,bE,h8,iK⟩:=a2.gm I 0 rfl rfl rfl nk (r:=[a0]) rfl
 obtain ⟨d0,ko,k6⟩:=(a2.nK Tryz.underlying3) W _ _ _ bE h8 iK
 have iy:[a0]=_:=ko
 obtain rfl:a0=_:=(List.cons.inj iy).1
 obtain ⟨Bm,aC,hl,a7⟩:=a2.gm I 1 rfl rfl rfl nk (r:=[dY]) rfl
 obtain ⟨d1,jQ,jo⟩:=(a2.nK Tryz.underlying3) W _ _ _ aC hl a7
 have bO:[dY]=_:=jQ
 obtain rfl:dY=_:=(List.cons.inj bO).1
 obtain ⟨Pq,aU,l3,qk⟩:=a2.gm I 2 rfl rfl rfl nk (r:=[eZ]) rfl
 obtain ⟨d2,nH,k7⟩:=(a2.nK Tryz.underlying3) W _ _ _ aU l3 qk
 have b4:[eZ]=_:=nH
 obtain rfl:eZ=_:=(List.cons.inj b4).1
 obtain ⟨Pr,bS,sQ,o8⟩:=a2.gm I 3 rfl rfl rfl xt (r:=[a3]) rfl
 obtain ⟨d3,m5,rl⟩:=(a2.yI Tryz.underlying9) W _ _ _ bS sQ o8
 have eu:[a3]=_:=m5
 obtain rfl:a3=_:=(List.cons.inj eu).1
 exact ⟨⟨d0,d1,d2,d3⟩,rfl,⟨k6,jo,k7,rl⟩⟩
theorem aGm:a2.hV Tryz.prog enc N 131 (a2.aH J.er) (fun l=>l.length* 40 <=N/\ ∀ e8 ∈ l,PW N e8):=by
 have h:=a2.rH (enc:=enc) (N:=N) Tryz.underlying131 abU (by decide) aGd
 rw [ahW] at h
 exact h
def Kb (N:Nat) (d:J.Method):Prop:=d.Name.length<=N/\True/\(d.bD.length* 24 <=N/\ ∀ e8 ∈ d.bD,EV N e8)/\EV N d.Returns/\a2.jg d.cT/\a2.jg d.cS/\d.Code.length<=N/\(d.bH.length* 40 <=N/\ ∀ e8 ∈ d.bH,PW N e8)
theorem aGg:a2.hV Tryz.prog enc N 133 J.b2 (Kb N):=by
 intro W n cs x h b3 hw
 obtain ⟨kh,az,I⟩:=a2.ot Tryz.underlying133 h b3 hw
 replace az:=az.trans abR
 obtain ⟨a0,dY,eZ,a3,a4,nf,mg,zp,B2,rfl⟩:=aE3 az
 obtain ⟨Bl,bE,h8,iK⟩:=a2.gm I 0 rfl rfl rfl xt (r:=[a0]) rfl
 obtain ⟨d0,ko,k6⟩:=(a2.yI Tryz.underlying9) W _ _ _ bE h8 iK
 have iy:[a0]=_:=ko
 obtain rfl:a0=_:=(List.cons.inj iy).1
 obtain ⟨Bm,aC,hl,a7⟩:=a2.gm I 1 rfl rfl rfl ajZ (r:=[dY]) rfl
 obtain ⟨d1,jQ,jo⟩:=(a2.aGi Tryz.underlying4) W _ _ _ aC hl a7
 have bO:[dY]=_:=jQ
 obtain rfl:dY=_:=(List.cons.inj bO).1
 obtain ⟨Pq,aU,l3,qk⟩:=a2.gm I 2 rfl rfl rfl ajO (r:=[eZ]) rfl
 obtain ⟨d2,nH,k7⟩:=(aGl) W _ _ _ aU l3 qk
 obtain ⟨gy,eg,b4⟩:=a2.fW nH
 obtain rfl:eZ=_:=(List.cons.inj b4).1
 obtain ⟨Pr,bS,sQ,o8⟩:=a2.gm I 3 rfl rfl rfl K3 (r:=[a3,a4]) rfl
 obtain ⟨d3,m5,rl⟩:=XT W _ _ _ bS sQ o8
 have eu:[a3,a4]=_:=m5
 simp only [List.cons.injEq,and_true] at eu
 obtain ⟨rfl,rfl⟩:=eu
 obtain ⟨ag3,ew,Ds,IJ⟩:=a2.gm I 4 rfl rfl rfl nk (r:=[nf]) rfl
 obtain ⟨d4,Dw,HV⟩:=(a2.nK Tryz.underlying3) W _ _ _ ew Ds IJ
 have g8:[nf]=_:=Dw
 obtain rfl:nf=_:=(List.cons.inj g8).1
 obtain ⟨aIc,lH,WT,Yf⟩:=a2.gm I 5 rfl rfl rfl nk (r:=[mg]) rfl
 obtain ⟨d5,M6,Wk⟩:=(a2.nK Tryz.underlying3) W _ _ _ lH WT Yf
 have j6:[mg]=_:=M6
 obtain rfl:mg=_:=(List.cons.inj j6).1
 obtain ⟨aId,tR,WU,Yg⟩:=a2.gm I 6 rfl rfl rfl xt (r:=[zp]) rfl
 obtain ⟨d6,XF,Wl⟩:=(a2.yI Tryz.underlying9) W _ _ _ tR WU Yg
 have zB:[zp]=_:=XF
 obtain rfl:zp=_:=(List.cons.inj zB).1
 obtain ⟨aKZ,zL,aFJ,aHm⟩:=a2.gm I 7 rfl rfl rfl ajP (r:=[B2]) rfl
 obtain ⟨d7,afB,aER⟩:=(aGm) W _ _ _ zL aFJ aHm
 obtain ⟨aht,aip,aj'⟩:=a2.fW afB
 obtain rfl:B2=_:=(List.cons.inj aj').1
 exact ⟨⟨d0,d1,d2,d3,d4,d5,d6,d7⟩,⟨gy,eg,aht,aip,rfl,nH,afB⟩,⟨k6,jo,k7,rl,HV,Wk,Wl,aER⟩⟩
theorem aGn:a2.hV Tryz.prog enc N 134 (a2.aH J.b2) (fun l=>l.length* 128 <=N/\ ∀ e8 ∈ l,Kb N e8):=by
 have h:=a2.rH (enc:=enc) (N:=N) Tryz.underlying134 abR (by decide) aGg
 rw [ahU] at h
 exact h
def ET (N:Nat) (d:J.aN):Prop:=d.Name.length<=N/\d.bW.length<=N/\(d.Fields.length* 40 <=N/\ ∀ e8 ∈ d.Fields,EU N e8)/\(d.aR.length* 128 <=N/\ ∀ e8 ∈ d.aR,Kb N e8)
theorem aGb:a2.hV Tryz.prog enc N 136 J.bd (ET N):=by
 intro W n cs x h b3 hw
 obtain ⟨kh,az,I⟩:=a2.ot Tryz.underlying136 h b3 hw
 replace az:=az.trans abS
 obtain ⟨a0,dY,eZ,a3,rfl⟩:=afb az
 obtain ⟨Bl,bE,h8,iK⟩:=a2.gm I 0 rfl rfl rfl xt (r:=[a0]) rfl
 obtain ⟨d0,ko,k6⟩:=(a2.yI Tryz.underlying9) W _ _ _ bE h8 iK
 have iy:[a0]=_:=ko
 obtain rfl:a0=_:=(List.cons.inj iy).1
 obtain ⟨Bm,aC,hl,a7⟩:=a2.gm I 1 rfl rfl rfl xt (r:=[dY]) rfl
 obtain ⟨d1,jQ,jo⟩:=(a2.yI Tryz.underlying9) W _ _ _ aC hl a7
 have bO:[dY]=_:=jQ
 obtain rfl:dY=_:=(List.cons.inj bO).1
 obtain ⟨Pq,aU,l3,qk⟩:=a2.gm I 2 rfl rfl rfl abQ (r:=[eZ]) rfl
 obtain ⟨d2,nH,k7⟩:=(afO) W _ _ _ aU l3 qk
 obtain ⟨gy,eg,b4⟩:=a2.fW nH
 obtain rfl:eZ=_:=(List.cons.inj b4).1
 obtain ⟨Pr,bS,sQ,o8⟩:=a2.gm I 3 rfl rfl rfl ajQ (r:=[a3]) rfl
 obtain ⟨d3,m5,rl⟩:=(aGn) W _ _ _ bS sQ o8
 obtain ⟨rY,fH,eu⟩:=a2.fW m5
 obtain rfl:a3=_:=(List.cons.inj eu).1
 exact ⟨⟨d0,d1,d2,d3⟩,⟨gy,eg,rY,fH,rfl,nH,m5⟩,⟨k6,jo,k7,rl⟩⟩
theorem aGo:a2.hV Tryz.prog enc N 25 (a2.aH J.bd) (fun l=>l.length* 80 <=N/\ ∀ e8 ∈ l,ET N e8):=by
 have h:=a2.rH (enc:=enc) (N:=N) Tryz.underlying25 abS (by decide) aGb
 rw [ahV] at h
 exact h
theorem aGp:a2.hV Tryz.prog enc N 26 (a2.aH (a2.aH J.aX)) (fun l=>l.length* 24 <=N/\ ∀ e8 ∈ l,(e8.length* 40 <=N/\ ∀ jV ∈ e8,EU N jV)):=by
 have h:=a2.rH (enc:=enc) (N:=N) Tryz.underlying26 abQ (by decide) (afO)
 rw [ahR] at h
 exact h
theorem aGj:a2.hV Tryz.prog enc N 125 (a2.aH a2.bz) (fun l=>l.length* 16 <=N/\ ∀ e8 ∈ l,e8.length<=N):=by
 have h:=a2.rH (enc:=enc) (N:=N) Tryz.underlying125 xt (by decide) (a2.yI Tryz.underlying9)
 rw [ahZ] at h
 exact h
theorem aGq:a2.hV Tryz.prog enc N 27 (a2.aH (a2.aH a2.bz)) (fun l=>l.length* 24 <=N/\ ∀ e8 ∈ l,(e8.length* 16 <=N/\ ∀ jV ∈ e8,jV.length<=N)):=by
 have h:=a2.rH (enc:=enc) (N:=N) Tryz.underlying27 ajM (by decide) (aGj)
 rw [ahS] at h
 exact h
def Kc (N:Nat) (d:J.Target):Prop:=a2.jg d.aN/\a2.jg d.Method
theorem aGh:a2.hV Tryz.prog enc N 159 J.bR (Kc N):=by
 intro W n cs x h b3 hw
 obtain ⟨kh,az,I⟩:=a2.ot Tryz.underlying159 h b3 hw
 replace az:=az.trans abW
 obtain ⟨a0,dY,rfl⟩:=afa az
 obtain ⟨Bl,bE,h8,iK⟩:=a2.gm I 0 rfl rfl rfl nk (r:=[a0]) rfl
 obtain ⟨d0,ko,k6⟩:=(a2.nK Tryz.underlying3) W _ _ _ bE h8 iK
 have iy:[a0]=_:=ko
 obtain rfl:a0=_:=(List.cons.inj iy).1
 obtain ⟨Bm,aC,hl,a7⟩:=a2.gm I 1 rfl rfl rfl nk (r:=[dY]) rfl
 obtain ⟨d1,jQ,jo⟩:=(a2.nK Tryz.underlying3) W _ _ _ aC hl a7
 have bO:[dY]=_:=jQ
 obtain rfl:dY=_:=(List.cons.inj bO).1
 exact ⟨⟨d0,d1⟩,rfl,⟨k6,jo⟩⟩
theorem aGk:a2.hV Tryz.prog enc N 126 (a2.aH J.bR) (fun l=>l.length* 16 <=N/\ ∀ e8 ∈ l,Kc N e8):=by
 have h:=a2.rH (enc:=enc) (N:=N) Tryz.underlying126 abW (by decide) aGh
 rw [ahX] at h
 exact h
theorem aGr:a2.hV Tryz.prog enc N 28 (a2.aH (a2.aH J.bR)) (fun l=>l.length* 24 <=N/\ ∀ e8 ∈ l,(e8.length* 16 <=N/\ ∀ jV ∈ e8,Kc N jV)):=by
 have h:=a2.rH (enc:=enc) (N:=N) Tryz.underlying28 ajN (by decide) (aGk)
 rw [ahT] at h
 exact h
def Ka (N:Nat) (d:J.bw):Prop:=(d.aJ.length* 80 <=N/\ ∀ e8 ∈ d.aJ,ET N e8)/\(d.aG.length* 8 <=N/\ ∀ e8 ∈ d.aG,a2.jg e8)/\(d.Fields.length* 24 <=N/\ ∀ e8 ∈ d.Fields,(e8.length* 40 <=N/\ ∀ jV ∈ e8,EU N jV))/\(d.Names.length* 24 <=N/\ ∀ e8 ∈ d.Names,(e8.length* 16 <=N/\ ∀ jV ∈ e8,jV.length<=N))/\(d.aE.length* 24 <=N/\ ∀ e8 ∈ d.aE,(e8.length* 16 <=N/\ ∀ jV ∈ e8,Kc N jV))
theorem aGf:a2.hV Tryz.prog enc N 30 J.aHg (Ka N):=by
 intro W n cs x h b3 hw
 obtain ⟨kh,az,I⟩:=a2.ot Tryz.underlying30 h b3 hw
 replace az:=az.trans ajY
 obtain ⟨a0,dY,eZ,a3,a4,rfl⟩:=aE1 az
 obtain ⟨Bl,bE,h8,iK⟩:=a2.gm I 0 rfl rfl rfl ajU (r:=[a0]) rfl
 obtain ⟨d0,ko,k6⟩:=(aGo) W _ _ _ bE h8 iK
 obtain ⟨qq,zr,iy⟩:=a2.fW ko
 obtain rfl:a0=_:=(List.cons.inj iy).1
 obtain ⟨Bm,aC,hl,a7⟩:=a2.gm I 1 rfl rfl rfl QH (r:=[dY]) rfl
 obtain ⟨d1,jQ,jo⟩:=(XU) W _ _ _ aC hl a7
 obtain ⟨gx,eb,bO⟩:=a2.fW jQ
 obtain rfl:dY=_:=(List.cons.inj bO).1
 obtain ⟨Pq,aU,l3,qk⟩:=a2.gm I 2 rfl rfl rfl ajV (r:=[eZ]) rfl
 obtain ⟨d2,nH,k7⟩:=(aGp) W _ _ _ aU l3 qk
 obtain ⟨gy,eg,b4⟩:=a2.fW nH
 obtain rfl:eZ=_:=(List.cons.inj b4).1
 obtain ⟨Pr,bS,sQ,o8⟩:=a2.gm I 3 rfl rfl rfl ajW (r:=[a3]) rfl
 obtain ⟨d3,m5,rl⟩:=(aGq) W _ _ _ bS sQ o8
 obtain ⟨rY,fH,eu⟩:=a2.fW m5
 obtain rfl:a3=_:=(List.cons.inj eu).1
 obtain ⟨ag3,ew,Ds,IJ⟩:=a2.gm I 4 rfl rfl rfl ajX (r:=[a4]) rfl
 obtain ⟨d4,Dw,HV⟩:=(aGr) W _ _ _ ew Ds IJ
 obtain ⟨vW,iQ,g8⟩:=a2.fW Dw
 obtain rfl:a4=_:=(List.cons.inj g8).1
 exact ⟨⟨d0,d1,d2,d3,d4⟩,⟨qq,zr,gx,eb,gy,eg,rY,fH,vW,iQ,rfl,ko,jQ,nH,m5,Dw⟩,⟨k6,jo,k7,rl,HV⟩⟩
end
end Go.Proofs.YtpkhpagplommoaaGreat
namespace J
def gY (bY:Int) (la:Int) (lb:Int):Option (Bool):=
 some ((decide (la<=bY)) && (decide (bY<=lb)))
def mL (bY:Int) (la:Int) (lb:Int):Option (Bool):=
 some ((decide (la<=bY)) && (decide (bY<=lb)))
def LY (aa:Int):Option (Bool):=
 some ((decide (aa= 3)) || (decide (aa= 4)))
def Aw (oL:List UInt8):Nat->Int->Option (Way (Bool) (Unit))
 | 0,_=>none
 | bu+ 1,p5=>
   cond (decide (p5 <(oL.length:Int))) ((idx oL p5).bind fun l8=>
   cond (((((decide ((l8.toNat:Int) < 97)) || (decide (122 <(l8.toNat:Int)))) && ((decide ((l8.toNat:Int) < 65)) || (decide (90 <(l8.toNat:Int))))) && ((decide ((l8.toNat:Int) < 48)) || (decide (57 <(l8.toNat:Int))))) && (!decide ((l8.toNat:Int)= 95))) (some (.out false)) (Aw oL bu (ap (p5+ 1)))) (some (.go ()))
def nA (F:Nat) (s_:List UInt8):Option (Bool):=
 (bytesOf s_).bind fun oL=>
 dw (α:=Unit) (Aw oL F 0) fun (_:Unit)=>
 some ((!decide (s_= [])) && (decide ((s_.length:Int)<= 20)))
def uy (F:Nat) (aa:Kind):Option (Bool):=
 (LY aa.Kind).bind fun AN=>
 cond (AN) ((nA F aa.aN).bind fun AP=>
 some AP) (some (((decide (aa.Kind= 1)) || (decide (aa.Kind= 2))) && (decide (aa.aN= []))))
def qH (s_:List UInt8):Nat->Int->Option (Way (Bool) (Unit))
 | 0,_=>none
 | bu+ 1,pZ=>
   cond (decide (pZ <(s_.length:Int))) ((idx s_ pZ).bind fun ly=>
   cond (!(((((decide (97 <=(ly.toNat:Int))) && (decide ((ly.toNat:Int)<= 122))) || ((decide (65 <=(ly.toNat:Int))) && (decide ((ly.toNat:Int)<= 90)))) || ((decide (48 <=(ly.toNat:Int))) && (decide ((ly.toNat:Int)<= 57)))) || (decide ((ly.toNat:Int)= 95)))) (some (.out false)) (qH s_ bu (ap (pZ+ 1)))) (some (.go ()))
def n7 (F:Nat) (s_:List UInt8):Option (Bool):=
 dw (α:=Unit) (qH s_ F 0) fun (_:Unit)=>
 some ((decide (1 <=(s_.length:Int))) && (decide ((s_.length:Int)<= 20)))
def tn (F:Nat) (aa:Kind):Option (Bool):=
 cond ((decide (aa.Kind= 1)) || (decide (aa.Kind= 2))) (some (decide (aa.aN= []))) (cond ((decide (aa.Kind= 3)) || (decide (aa.Kind= 4))) ((n7 F aa.aN).bind fun h9=>
 some h9) (some false))
end J
namespace Go.Proofs.YtpkhpagplommoaaGreat
open Go Go.RowKit a2
set_option maxHeartbeats 4000000
set_option maxRecDepth 20000
theorem oo {W:World} {X:List Nat} {bY:Int} {la:Int} {lb:Int} {r:Bool} {M0:List Nat} (hm:au W M0 X W [] []) (h:J.gY bY la lb=some r) :
 Calls Tryz.prog 41 [.i bY,.i la,.i lb].toArray W (fun e aD=>e= .returned (.bool r)/\au W M0 X aD [] []):=by
 refine enter Tryz.func41 rfl Tryz.ntmps41 rfl fun a I=>?_;rw [J.gY] at h;refine bc [] [] I fun a I=>bt [0,0,0,0] [(6,.bool ((decide (la<=bY)) && (decide (bY<=lb))))] I fun a I=>wp_ret ?_;obtain rfl:=aB h;refine bn Tryz.results41 I rfl ?_;exact ⟨rfl,hm.aW [] []⟩
theorem xr {W:World} {X:List Nat} {bY:Int} {la:Int} {lb:Int} {r:Bool} {M0:List Nat} (hm:au W M0 X W [] []) (h:J.mL bY la lb=some r) :
 Calls Tryz.prog 145 [.i bY,.i la,.i lb].toArray W (fun e aD=>e= .returned (.bool r)/\au W M0 X aD [] []):=by
 refine enter Tryz.func145 rfl Tryz.ntmps145 rfl fun a I=>?_;rw [J.mL] at h;refine bc [] [] I fun a I=>bt [0,0,0,0] [(6,.bool ((decide (la<=bY)) && (decide (bY<=lb))))] I fun a I=>wp_ret ?_;obtain rfl:=aB h;refine bn Tryz.results145 I rfl ?_;exact ⟨rfl,hm.aW [] []⟩
theorem ai9 {W:World} {X:List Nat} {aa:Int} {r:Bool} {M0:List Nat} (hm:au W M0 X W [] []) (h:J.LY aa=some r) :
 Calls Tryz.prog 144 [.i aa].toArray W (fun e aD=>e= .returned (.bool r)/\au W M0 X aD [] []):=by
 refine enter Tryz.func144 rfl Tryz.ntmps144 rfl fun a I=>?_;rw [J.LY] at h;refine bc [] [] I fun a I=>bt [0,0,0] [(2,.bool ((decide (aa= 3)) || (decide (aa= 4))))] I fun a I=>wp_ret ?_;obtain rfl:=aB h;refine bn Tryz.results144 I rfl ?_;exact ⟨rfl,hm.aW [] []⟩
theorem xq {W:World} {X:List Nat} {F:Nat} {s_:List UInt8} {r:Bool} {M0:List Nat} (hm:au W M0 X W [] []) (h:J.nA F s_=some r) :
 Calls Tryz.prog 130 [ao s_].toArray W (fun e aD=>e= .returned (.bool r)/\au W M0 X aD [] []):=by
 refine enter Tryz.func130 rfl Tryz.ntmps130 rfl fun a I=>?_;rw [J.nA] at h;refine bc [] [] I fun a I=>wp_seq_k fun K bI=>wp_seq_k fun K ca=>aY <| aP 1 [] [(5,ao s_)] I fun a I=>?_;obtain ⟨oL,ayX,h⟩:=J.aF h;refine aFs ayX Tryz.underlying9 Tryz.underlying186 Tryz.underlying5 wn rfl (I.g rfl) I hm rfl rfl fun a aI aQ w _ I hm=>aP 2 [] [(7,.i (oL.length:Int)),(8,.i 0)] I fun a I=>wpList_nil (ca _ _ ?_);obtain ⟨Vu,h,SX⟩:=J.ef h
 refine cb (fun a w=>Fr ⟨46,[]⟩ [(0,ao s_)] a/\au W M0 X w [] [U Nz aI aQ oL]/\Vu=(.go ())) (fun K cY=>?_) ?_
 · refine cA (fun (bu:Nat) a w=>∃ (p5:Int),Fr ⟨46,[]⟩ [(0,ao s_),(6,.q aI aQ oL),(7,.i (oL.length:Int)),(8,.i p5)] a/\au W M0 X w [] [U Nz aI aQ oL]/\J.Aw oL bu p5=some Vu) F ⟨0,I.cut,hm,h⟩ ?_ ?_
   · rintro a w ⟨p5,I,hm,h⟩;exact absurd h (by simp [J.Aw])
   rintro bu a w ⟨p5,I,hm,h⟩ K cu;rw [J.Aw] at h;refine bc [] [(9,.bool (decide (p5 <(oL.length:Int))))] I fun a I=>wp_seq_k fun K dt=>bi (I.g rfl) h (fun aqy h=>?_) (fun aqy h=>?_)
   · refine wp_skip <| dt _ _ <| wp_seq_k fun K cO=>wp_block <| wp_seq_k fun K dp=>aY ?_;obtain ⟨l8,aDv,h⟩:=J.aF h;obtain ⟨amL,axE,_,rfl,atn⟩:=bZ _ (hm.d 0 rfl) aDv;refine bQ wn (bF Tryz.underlying186 Tryz.sizeOf5 rfl (I.g rfl) (I.g rfl) amL axE) I rfl rfl fun a I=>bf 2 [0,0] [(4,.int .u8 (l8.toNat:Int))] [bG aI,bJ aI+(p5).toNat* 1] (aw atn ax) I fun a I=>wpList_nil (dp _ _ ?_);refine wp_seq_k fun K da=>?_
     refine ch [0,0,0,0,0,0,0,0,0,0,0,0,0,0,0,0,0,0,0,0,0,0] [(37,.bool (((((decide ((l8.toNat:Int) < 97)) || (decide (122 <(l8.toNat:Int)))) && ((decide ((l8.toNat:Int) < 65)) || (decide (90 <(l8.toNat:Int))))) && ((decide ((l8.toNat:Int) < 48)) || (decide (57 <(l8.toNat:Int))))) && (!decide ((l8.toNat:Int)= 95))))] I fun a I=>da _ _ <| bi (I.g rfl) h (fun aqU h=>?_) (fun aqU h=>?_)
     · refine bt [] [(2,.bool false)] I fun a I=>wp_ret ?_;obtain rfl:=aB h;obtain rfl:=aB SX;refine a6 (ak (ak (a6 (ak (ak ?_)))));refine bn Tryz.results130 I rfl ?_;exact ⟨rfl,hm.aW [] []⟩
     refine wp_skip <| cO _ _ <| ch [] [(8,.i (J.ap (p5+ 1)))] I fun a I=>?_;exact cu _ _ ⟨J.ap (p5+ 1),I.cut,hm,h⟩
   refine wp_exit <| bx (bx (cw ?_));exact cY _ _ ⟨I.cut,hm,(os h)⟩
 rintro a w ⟨I,hm,bb⟩;subst Vu;have h:=SX;clear SX;dsimp only [J.dZ] at h;refine bI _ _ <| bt [0,0,0,0] [(2,.bool ((!decide (s_= [])) && (decide ((s_.length:Int)<= 20))))] I fun a I=>wp_ret ?_;obtain rfl:=aB h;refine bn Tryz.results130 I rfl ?_;exact ⟨rfl,hm.aW [] []⟩
theorem K0 {W:World} {X:List Nat} {F:Nat} {aa:J.Kind} {r:Bool} {M0:List Nat} (hm:au W M0 X W [] []) (h:J.uy F aa=some r) :
 Calls Tryz.prog 131 [.agg #[.i aa.Kind,ao aa.aN]].toArray W (fun e aD=>e= .returned (.bool r)/\au W M0 X aD [] []):=by
 refine enter Tryz.func131 rfl Tryz.ntmps131 rfl fun a I=>?_;rw [J.uy] at h;refine wp_seq_k fun K cZ=>aY <| cy (cs:=[.i aa.Kind,ao aa.aN]) wn (ei rfl rfl (I.g rfl)) I hm rfl rfl fun a a8 w _ I hm=>aP 1 [] [] I fun a I=>wpList_nil (cZ _ _ ?_);refine wp_seq_k fun K bI=>wp_seq_k fun K ca=>aY <| bf 2 [0,0] [(4,.i aa.Kind)] [a8,0] (aw (aZ (hm.e 0 rfl)) ax) I fun a I=>?_;obtain ⟨AN,Ur,h⟩:=J.aF h;have hc:=hm;refine bP (vs:=[.i aa.Kind]) wn rfl Tryz.call144 ⟨(I.g rfl),trivial⟩ (ai9 ((hc.into 0).pick trivial) Ur) I rfl rfl ?_;rintro _ w ⟨rfl,af⟩
 refine ⟨_,rfl,fun a I=>?_⟩;have hm:=hc.back 0 af;clear af hc;refine wpList_nil <| ca _ _ <| bi (I.g rfl) h (fun uc h=>?_) (fun uc h=>?_)
 · refine wp_seq_k fun K cY=>aY <| jS 2 [0,1] [(7,ao aa.aN)] [a8,1] (aw (aZ (hm.e 0 rfl)) ax) I fun a I=>?_;obtain ⟨AP,Uu,h⟩:=J.aF h;have hc:=hm;refine bP (vs:=[ao aa.aN]) wn rfl Tryz.call130 ⟨(I.g rfl),trivial⟩ (xq ((hc.into 0).pick trivial) Uu) I rfl rfl ?_;rintro _ w ⟨rfl,af⟩;refine ⟨_,rfl,fun a I=>?_⟩;have hm:=hc.back 0 af;clear af hc;refine eo 1 [] [(2,.bool AP)] I fun a I=>wpList_nil (cY _ _ ?_);refine wp_ret ?_;obtain rfl:=aB h;refine ak <| bn Tryz.results131 I rfl ?_;exact ⟨rfl,hm.aW [] []⟩
 refine wp_skip <| bI _ _ <| wp_seq_k fun K cu=>rg [0,0,0,0,0,0,0,0,0,0,0,1,0,0] [(2,.bool (((decide (aa.Kind= 1)) || (decide (aa.Kind= 2))) && (decide (aa.aN= []))))] [a8,1,a8,0,a8,0] (aw (aZ (hm.e 0 rfl)) ax) I fun a I=>cu _ _ <| wp_ret ?_;obtain rfl:=aB h;refine bn Tryz.results131 I rfl ?_;exact ⟨rfl,hm.aW [] []⟩
theorem zA {W:World} {X:List Nat} {F:Nat} {s_:List UInt8} {r:Bool} {M0:List Nat} (hm:au W M0 X W [] []) (h:J.n7 F s_=some r) :
 Calls Tryz.prog 146 [ao s_].toArray W (fun e aD=>e= .returned (.bool r)/\au W M0 X aD [] []):=by
 refine enter Tryz.func146 rfl Tryz.ntmps146 rfl fun a I=>?_;rw [J.n7] at h;refine bc [] [] I fun a I=>wp_seq_k fun K bI=>bc [] [(3,.i 0)] I fun a I=>?_;obtain ⟨U4,h,Sx⟩:=J.ef h;refine cb (fun a w=>Fr ⟨49,[]⟩ [(0,ao s_)] a/\au W M0 X w [] []/\U4=(.go ())) (fun K cY=>?_) ?_
 · refine cA (fun (bu:Nat) a w=>∃ (pZ:Int),Fr ⟨49,[]⟩ [(0,ao s_),(3,.i pZ)] a/\au W M0 X w [] []/\J.qH s_ bu pZ=some U4) F ⟨0,I.cut,hm,h⟩ ?_ ?_
   · rintro a w ⟨pZ,I,hm,h⟩;exact absurd h (by simp [J.qH])
   rintro bu a w ⟨pZ,I,hm,h⟩ K cu;rw [J.qH] at h;refine wp_seq_k fun K dL=>bc [] [(8,.bool (decide (pZ <(s_.length:Int))))] I fun a I=>bi (I.g rfl) h (fun ua h=>?_) (fun ua h=>?_)
   · refine wp_skip <| dL _ _ <| wp_seq_k fun K cO=>wp_block <| wp_seq_k fun K dp=>aY <| aP 2 [] [(11,ao s_),(12,.i pZ)] I fun a I=>?_;obtain ⟨ly,LW,h⟩:=J.aF h;refine bQ wn (aIx Tryz.underlying9 rfl (I.g rfl) (I.g rfl) LW) I rfl rfl fun a I=>aP 1 [] [(4,.int .u8 (ly.toNat:Int))] I fun a I=>wpList_nil (dp _ _ ?_);refine wp_seq_k fun K da=>?_
     refine ch [0,0,0,0,0,0,0,0,0,0,0,0,0,0,0,0,0,0,0,0,0,0] [(40,.bool (!(((((decide (97 <=(ly.toNat:Int))) && (decide ((ly.toNat:Int)<= 122))) || ((decide (65 <=(ly.toNat:Int))) && (decide ((ly.toNat:Int)<= 90)))) || ((decide (48 <=(ly.toNat:Int))) && (decide ((ly.toNat:Int)<= 57)))) || (decide ((ly.toNat:Int)= 95)))))] I fun a I=>da _ _ <| bi (I.g rfl) h (fun q5 h=>?_) (fun q5 h=>?_)
     · refine bt [] [(2,.bool false)] I fun a I=>wp_ret ?_;obtain rfl:=aB h;obtain rfl:=aB Sx;refine a6 (ak (ak (a6 (ak (ak ?_)))));refine bn Tryz.results146 I rfl ?_;exact ⟨rfl,hm.aW [] []⟩
     refine wp_skip <| cO _ _ <| ch [] [(3,.i (J.ap (pZ+ 1)))] I fun a I=>?_;exact cu _ _ ⟨J.ap (pZ+ 1),I.cut,hm,h⟩
   refine wp_exit <| bx (bx (cw ?_));exact cY _ _ ⟨I.cut,hm,(os h)⟩
 rintro a w ⟨I,hm,bb⟩;subst U4;have h:=Sx;clear Sx;dsimp only [J.dZ] at h;refine bI _ _ <| bt [0,0,0,0] [(2,.bool ((decide (1 <=(s_.length:Int))) && (decide ((s_.length:Int)<= 20))))] I fun a I=>wp_ret ?_;obtain rfl:=aB h;refine bn Tryz.results146 I rfl ?_;exact ⟨rfl,hm.aW [] []⟩
theorem KW {W:World} {X:List Nat} {F:Nat} {aa:J.Kind} {r:Bool} {M0:List Nat} (hm:au W M0 X W [] []) (h:J.tn F aa=some r) :
 Calls Tryz.prog 147 [.agg #[.i aa.Kind,ao aa.aN]].toArray W (fun e aD=>e= .returned (.bool r)/\au W M0 X aD [] []):=by
 refine enter Tryz.func147 rfl Tryz.ntmps147 rfl fun a I=>?_;rw [J.tn] at h;refine wp_seq_k fun K cZ=>aY <| cy (cs:=[.i aa.Kind,ao aa.aN]) wn (ei rfl rfl (I.g rfl)) I hm rfl rfl fun a a8 w _ I hm=>aP 1 [] [] I fun a I=>wpList_nil (cZ _ _ ?_);refine wp_seq_k fun K bI=>wp_seq_k fun K ca=>eI [0,0,0,0,0,0,0,0] [(10,.bool ((decide (aa.Kind= 1)) || (decide (aa.Kind= 2))))] [a8,0,a8,0] (aw (aZ (hm.e 0 rfl)) ax) I fun a I=>ca _ _ <| bi (I.g rfl) h (fun apM h=>?_) (fun apM h=>?_)
 · refine wp_seq_k fun K cY=>rg [0,1] [(2,.bool (decide (aa.aN= [])))] [a8,1] (aw (aZ (hm.e 0 rfl)) ax) I fun a I=>cY _ _ <| wp_ret ?_;obtain rfl:=aB h;refine ak <| bn Tryz.results147 I rfl ?_;exact ⟨rfl,hm.aW [] []⟩
 refine wp_skip <| bI _ _ <| wp_seq_k fun K cu=>aY <| bf 9 [0,0,0,0,0,0,0,0] [(22,.bool ((decide (aa.Kind= 3)) || (decide (aa.Kind= 4))))] [a8,0,a8,0] (aw (aZ (hm.e 0 rfl)) ax) I fun a I=>?_;rcases Bool.eq_false_or_eq_true ((decide (aa.Kind= 3)) || (decide (aa.Kind= 4))) with k0 | k0
 · have h:=J.di k0 h;have I:=I.b5 22 rfl k0;refine bf 2 [1,1,0,1] [(24,ao aa.aN)] [a8,1] (aw (aZ (hm.e 0 rfl)) ax) I fun a I=>?_;obtain ⟨h9,Aq,h⟩:=J.aF h;have hc:=hm;refine bP (vs:=[ao aa.aN]) (c1 I rfl rfl rfl rfl) rfl Tryz.call146 ⟨(I.g rfl),trivial⟩ (zA ((hc.into 0).pick trivial) Aq) I rfl rfl ?_;rintro _ w ⟨rfl,af⟩;refine ⟨_,rfl,fun a I=>?_⟩;have hm:=hc.back 0 af;clear af hc;refine eo 2 [1] [(2,.bool h9)] I fun a I=>wpList_nil (cu _ _ ?_);refine wp_ret ?_;obtain rfl:=aB h;refine bn Tryz.results147 I rfl ?_;exact ⟨rfl,hm.aW [] []⟩
 have h:=J.dh k0 h;have I:=I.b5 22 rfl k0;refine eo 5 [1,1,1,1] [(2,.bool false)] I fun a I=>wpList_nil (cu _ _ ?_);refine wp_ret ?_;obtain rfl:=aB h;refine bn Tryz.results147 I rfl ?_;exact ⟨rfl,hm.aW [] []⟩
end Go.Proofs.YtpkhpagplommoaaGreat
namespace J
def x8 (F:Nat) (m_:Method):Nat->Int->Option (Way (Int) (Unit))
 | 0,_=>none
 | bu+ 1,p9=>
   cond (decide (p9 <(m_.bD.length:Int))) ((idx m_.bD p9).bind fun rR=>
   (uy F (⟨rR.Kind,rR.aN⟩:Kind)).bind fun XL=>
   cond (!XL) (some (.out 7)) (x8 F m_ bu (ap (p9+ 1)))) (some (.go ()))
def x9 (F:Nat) (m_:Method):Nat->Int->Option (Way (Int) (Unit))
 | 0,_=>none
 | c4+ 1,h3=>
   cond (decide (h3 <(m_.bH.length:Int))) ((idx m_.bH h3).bind fun jv=>
   (nA F jv.aN).bind fun Im=>
   cond (!Im) (some (.out 1)) ((mL jv.From 0 200).bind fun kq=>
   cond (!kq) (some (.out 3)) ((mL jv.To 0 200).bind fun Dv=>
   cond (!Dv) (some (.out 3)) ((mL jv.gX 0 200).bind fun Io=>
   cond (!Io) (some (.out 3)) (x9 F m_ c4 (ap (h3+ 1))))))) (some (.go ()))
def x' (F:Nat) (m_:Method):Nat->Int->Option (Way (Int) (Unit))
 | 0,_=>none
 | eB+ 1,p2=>
   cond (decide (p2 <(m_.bH.length:Int))) ((idx m_.bH p2).bind fun jw=>
   (nA F jw.aN).bind fun Xl=>
   cond (!Xl) (some (.out 1)) ((mL jw.From 0 200).bind fun MZ=>
   cond (!MZ) (some (.out 3)) ((mL jw.To 0 200).bind fun M1=>
   cond (!M1) (some (.out 3)) ((mL jw.gX 0 200).bind fun Xm=>
   cond (!Xm) (some (.out 3)) (x' F m_ eB (ap (p2+ 1))))))) (some (.go ()))
def Ax (F:Nat) (m_:Method):Option (Int):=
 (nA F m_.Name).bind fun dC=>
 cond (!dC) (some 1) (cond (((decide (4 <(m_.bD.length:Int))) || (decide (200 <(m_.Code.length:Int)))) || (decide (4 <(m_.bH.length:Int)))) (some 2) ((mL m_.cT 0 10).bind fun hn=>
 cond (!hn) (some 3) ((mL m_.cS 0 10).bind fun dD=>
 cond (!dD) (some 3) (dw (α:=Unit) (x8 F m_ F 0) fun (_:Unit)=>
 cond (!decide ((⟨m_.Returns.Kind,m_.Returns.aN⟩:Kind)=(⟨0,[]⟩:Kind))) ((uy F (⟨m_.Returns.Kind,m_.Returns.aN⟩:Kind)).bind fun XM=>
 cond (!XM) (some 7) (dw (α:=Unit) (x9 F m_ F 0) fun (_:Unit)=>
 some 0)) (dw (α:=Unit) (x' F m_ F 0) fun (_:Unit)=>
 some 0)))))
def x4 (F:Nat) (c_:aN):Nat->Int->Option (Way (Int) (Unit))
 | 0,_=>none
 | bu+ 1,eW=>
   cond (decide (eW <(c_.Fields.length:Int))) ((idx c_.Fields eW).bind fun l9=>
   (nA F l9.Name).bind fun AR=>
   cond (!AR) (some (.out 1)) ((uy F (⟨l9.Kind.Kind,l9.Kind.aN⟩:Kind)).bind fun kp=>
   cond (!kp) (some (.out 7)) (x4 F c_ bu (ap (eW+ 1))))) (some (.go ()))
def x5 (F:Nat) (c_:aN):Nat->Int->Option (Way (Int) (Unit))
 | 0,_=>none
 | c4+ 1,h3=>
   cond (decide (h3 <(c_.aR.length:Int))) ((idx c_.aR h3).bind fun e9=>
   (Ax F (⟨e9.Name,e9.Static,e9.bD,(⟨e9.Returns.Kind,e9.Returns.aN⟩:Kind),e9.cT,e9.cS,e9.Code,e9.bH⟩:Method)).bind fun kq=>
   cond (!decide (kq= 0)) (some (.out kq)) (x5 F c_ c4 (ap (h3+ 1)))) (some (.go ()))
def x6 (F:Nat) (c_:aN):Nat->Int->Option (Way (Int) (Unit))
 | 0,_=>none
 | eB+ 1,p1=>
   cond (decide (p1 <(c_.Fields.length:Int))) ((idx c_.Fields p1).bind fun l7=>
   (nA F l7.Name).bind fun Xf=>
   cond (!Xf) (some (.out 1)) ((uy F (⟨l7.Kind.Kind,l7.Kind.aN⟩:Kind)).bind fun Xg=>
   cond (!Xg) (some (.out 7)) (x6 F c_ eB (ap (p1+ 1))))) (some (.go ()))
def x7 (F:Nat) (c_:aN):Nat->Int->Option (Way (Int) (Unit))
 | 0,_=>none
 | fB+ 1,p3=>
   cond (decide (p3 <(c_.aR.length:Int))) ((idx c_.aR p3).bind fun fa=>
   (Ax F (⟨fa.Name,fa.Static,fa.bD,(⟨fa.Returns.Kind,fa.Returns.aN⟩:Kind),fa.cT,fa.cS,fa.Code,fa.bH⟩:Method)).bind fun Dx=>
   cond (!decide (Dx= 0)) (some (.out Dx)) (x7 F c_ fB (ap (p3+ 1)))) (some (.go ()))
def HT (F:Nat) (c_:aN):Option (Int):=
 (nA F c_.Name).bind fun dC=>
 cond (!dC) (some 1) (cond (!decide (c_.bW= [])) ((nA F c_.bW).bind fun hn=>
 cond (!hn) (some 1) (cond ((decide (6 <(c_.Fields.length:Int))) || (decide (8 <(c_.aR.length:Int)))) (some 2) (dw (α:=Unit) (x4 F c_ F 0) fun (_:Unit)=>
 dw (α:=Unit) (x5 F c_ F 0) fun (_:Unit)=>
 some 0))) (cond ((decide (6 <(c_.Fields.length:Int))) || (decide (8 <(c_.aR.length:Int)))) (some 2) (dw (α:=Unit) (x6 F c_ F 0) fun (_:Unit)=>
 dw (α:=Unit) (x7 F c_ F 0) fun (_:Unit)=>
 some 0)))
def x3 (F:Nat) (aK:List aN):Nat->Int->Option (Way (Int) (Unit))
 | 0,_=>none
 | bu+ 1,p'=>
   cond (decide (p' <(aK.length:Int))) ((idx aK p').bind fun iM=>
   (HT F (⟨iM.Name,iM.bW,iM.Fields,iM.aR⟩:aN)).bind fun Dt=>
   cond (!decide (Dt= 0)) (some (.out Dt)) (x3 F aK bu (ap (p'+ 1)))) (some (.go ()))
def HS (F:Nat) (aK:List aN):Option (Int):=
 cond (decide (10 <(aK.length:Int))) (some 2) (dw (α:=Unit) (x3 F aK F 0) fun (_:Unit)=>
 some 0)
def wI (F:Nat) (m_:Method):Nat->Int->Option (Way (Int) (Unit))
 | 0,_=>none
 | bu+ 1,o0=>
   cond (decide (o0 <(m_.bD.length:Int))) ((idx m_.bD o0).bind fun DY=>
   (tn F DY).bind fun XK=>
   cond (!XK) (some (.out 7)) (wI F m_ bu (ap (o0+ 1)))) (some (.go ()))
def wJ (F:Nat) (m_:Method):Nat->Int->Option (Way (Int) (Unit))
 | 0,_=>none
 | c4+ 1,oS=>
   cond (decide (oS <(m_.bH.length:Int))) ((idx m_.bH oS).bind fun ju=>
   (n7 F ju.aN).bind fun W'=>
   cond (!W') (some (.out 1)) ((gY ju.From 0 200).bind fun MW=>
   cond (!MW) (some (.out 3)) ((gY ju.To 0 200).bind fun MX=>
   cond (!MX) (some (.out 3)) ((gY ju.gX 0 200).bind fun Xa=>
   cond (!Xa) (some (.out 3)) (wJ F m_ c4 (ap (oS+ 1))))))) (some (.go ()))
def zj (F:Nat) (m_:Method):Option (Int):=
 (n7 F m_.Name).bind fun dC=>
 cond (!dC) (some 1) (cond (((decide (4 <(m_.bD.length:Int))) || (decide (200 <(m_.Code.length:Int)))) || (decide (4 <(m_.bH.length:Int)))) (some 2) ((gY m_.cT 0 10).bind fun hn=>
 cond (!hn) (some 3) ((gY m_.cS 0 10).bind fun dD=>
 cond (!dD) (some 3) (dw (α:=Unit) (wI F m_ F 0) fun (_:Unit)=>
 (tn F (⟨m_.Returns.Kind,m_.Returns.aN⟩:Kind)).bind fun m7=>
 cond ((!m7) && ((!decide (m_.Returns.Kind= 0)) || (!decide (m_.Returns.aN= [])))) (some 7) (dw (α:=Unit) (wJ F m_ F 0) fun (_:Unit)=>
 some 0)))))
def wi (F:Nat) (cz:aN):Nat->Int->Option (Way (Int) (Unit))
 | 0,_=>none
 | c4+ 1,lX=>
   cond (decide (lX <(cz.Fields.length:Int))) ((idx cz.Fields lX).bind fun Og=>
   (n7 F Og.Name).bind fun Xy=>
   cond (!Xy) (some (.out 1)) ((idx cz.Fields lX).bind fun Ba=>
   (tn F (⟨Ba.Kind.Kind,Ba.Kind.aN⟩:Kind)).bind fun Xz=>
   cond (!Xz) (some (.out 7)) (wi F cz c4 (ap (lX+ 1))))) (some (.go ()))
def wj (F:Nat) (cz:aN):Nat->Int->Option (Way (Int) (Unit))
 | 0,_=>none
 | eB+ 1,oX=>
   cond (decide (oX <(cz.aR.length:Int))) ((idx cz.aR oX).bind fun jb=>
   (zj F jb).bind fun Dz=>
   cond (!decide (Dz= 0)) (some (.out Dz)) (wj F cz eB (ap (oX+ 1)))) (some (.go ()))
def wk (F:Nat) (cz:aN):Nat->Int->Option (Way (Int) (Unit))
 | 0,_=>none
 | fB+ 1,lY=>
   cond (decide (lY <(cz.Fields.length:Int))) ((idx cz.Fields lY).bind fun Oi=>
   (n7 F Oi.Name).bind fun XB=>
   cond (!XB) (some (.out 1)) ((idx cz.Fields lY).bind fun Bb=>
   (tn F (⟨Bb.Kind.Kind,Bb.Kind.aN⟩:Kind)).bind fun XC=>
   cond (!XC) (some (.out 7)) (wk F cz fB (ap (lY+ 1))))) (some (.go ()))
def wl (F:Nat) (cz:aN):Nat->Int->Option (Way (Int) (Unit))
 | 0,_=>none
 | h1+ 1,oY=>
   cond (decide (oY <(cz.aR.length:Int))) ((idx cz.aR oY).bind fun jc=>
   (zj F jc).bind fun DA=>
   cond (!decide (DA= 0)) (some (.out DA)) (wl F cz h1 (ap (oY+ 1)))) (some (.go ()))
def wh (F:Nat) (aK:List aN):Nat->Int->Option (Way (Int) (Unit))
 | 0,_=>none
 | bu+ 1,iW=>
   cond (decide (iW <(aK.length:Int))) (ed (α:=Unit) ((idx aK iW).bind fun cz=>
   (n7 F cz.Name).bind fun M8=>
   cond (!M8) (some (.out 1)) (cond (!decide (cz.bW= [])) ((n7 F cz.bW).bind fun Xw=>
   cond (!Xw) (some (.out 1)) (cond ((decide (6 <(cz.Fields.length:Int))) || (decide (8 <(cz.aR.length:Int)))) (some (.out 2)) (ed (α:=Unit) (wi F cz F 0) fun (_:Unit)=>
   ed (α:=Unit) (wj F cz F 0) fun (_:Unit)=>
   some (.go ())))) (cond ((decide (6 <(cz.Fields.length:Int))) || (decide (8 <(cz.aR.length:Int)))) (some (.out 2)) (ed (α:=Unit) (wk F cz F 0) fun (_:Unit)=>
   ed (α:=Unit) (wl F cz F 0) fun (_:Unit)=>
   some (.go ()))))) fun (_:Unit)=>
   wh F aK bu (ap (iW+ 1))) (some (.go ()))
def EW (F:Nat) (aK:List aN):Option (Int):=
 cond (decide (10 <(aK.length:Int))) (some 2) (dw (α:=Unit) (wh F aK F 0) fun (_:Unit)=>
 some 0)
end J
namespace Go.Proofs.YtpkhpagplommoaaGreat
open Go Go.RowKit a2
set_option maxHeartbeats 4000000
set_option maxRecDepth 20000
theorem abB {W:World} {X:List Nat} {F:Nat} {m_:J.Method} {r:Int} {ag:aS} {ah:Nat} {aI:aS} {aQ:Nat} {M0:List Nat} (hm:au W M0 X W [] [U J.dx ag ah m_.bD,U J.er aI aQ m_.bH]) (h:J.Ax F m_=some r) :
 Calls Tryz.prog 132 [.agg #[ao m_.Name,.bool m_.Static,.q ag ah m_.bD,.i m_.Returns.Kind,ao m_.Returns.aN,.i m_.cT,.i m_.cS,ao m_.Code,.q aI aQ m_.bH]].toArray W (fun e aD=>e= .returned (.i r)/\au W M0 X aD [] []):=by
 refine enter Tryz.func132 rfl Tryz.ntmps132 rfl fun a I=>?_;rw [J.Ax] at h;refine wp_seq_k fun K cZ=>aY <| cy (cs:=[ao m_.Name,.bool m_.Static,.q ag ah m_.bD,.i m_.Returns.Kind,ao m_.Returns.aN,.i m_.cT,.i m_.cS,ao m_.Code,.q aI aQ m_.bH]) wn (ei rfl rfl (I.g rfl)) I hm rfl rfl fun a cl w _ I hm=>aP 1 [] [] I fun a I=>wpList_nil (cZ _ _ ?_);refine wp_seq_k fun K bI=>wp_block <| wp_seq_k fun K ca=>aY <| bf 2 [0,0] [(9,ao m_.Name)] [cl,0] (aw (aZ (hm.e 0 rfl)) ax) I fun a I=>?_;obtain ⟨dC,uv,h⟩:=J.aF h;have hc:=hm
 refine bP (vs:=[ao m_.Name]) wn rfl Tryz.call130 ⟨(I.g rfl),trivial⟩ (xq ((hc.into 0).pick trivial) uv) I rfl rfl ?_;rintro _ w ⟨rfl,af⟩;refine ⟨_,rfl,fun a I=>?_⟩;have hm:=hc.back 0 af;clear af hc;refine aP 2 [] [(7,.bool (!dC))] I fun a I=>wpList_nil (ca _ _ ?_);refine bi (I.g rfl) h (fun k1 h=>?_) (fun k1 h=>?_)
 · refine bt [] [(2,.i 1)] I fun a I=>wp_ret ?_;obtain rfl:=aB h;refine a6 (ak ?_);refine bn Tryz.results132 I rfl ?_;exact ⟨rfl,hm.aW [] []⟩
 refine wp_seq_k fun K cu=>eI [0,2,0,0,0,7,0,0,0,0,0,0,8,0,0,0] [(12,.bool (((decide (4 <(m_.bD.length:Int))) || (decide (200 <(m_.Code.length:Int)))) || (decide (4 <(m_.bH.length:Int)))))] [cl,8,cl,7,cl,2] (aw (aZ (hm.e 0 rfl)) ax) I fun a I=>cu _ _ <| bi (I.g rfl) h (fun q7 h=>?_) (fun q7 h=>?_)
 · refine bt [] [(2,.i 2)] I fun a I=>wp_ret ?_;obtain rfl:=aB h;refine a6 (ak ?_);refine bn Tryz.results132 I rfl ?_;exact ⟨rfl,hm.aW [] []⟩
 refine wp_seq_k fun K dt=>aY <| bf 2 [0,5] [(31,.i m_.cT)] [cl,5] (aw (aZ (hm.e 0 rfl)) ax) I fun a I=>?_;obtain ⟨hn,An,h⟩:=J.aF h;have hc:=hm;refine bP (vs:=[.i m_.cT,.i 0,.i 10]) wn rfl Tryz.call145 ⟨(I.g rfl),(cW _ _),(cW _ _),trivial⟩ (xr ((hc.into 0).pick trivial) An) I rfl rfl ?_;rintro _ w ⟨rfl,af⟩;refine ⟨_,rfl,fun a I=>?_⟩;have hm:=hc.back 0 af;clear af hc;refine aP 2 [] [(34,.bool (!hn))] I fun a I=>?_;rcases Bool.eq_false_or_eq_true (!hn) with ga | ga
 · have h:=J.di ga h;have I:=I.b5 34 rfl ga;refine aP 6 [1,1,1,1,1] [(29,.bool true)] I fun a I=>wpList_nil (dt _ _ ?_);refine eN (I.g rfl) rfl <| bt [] [(2,.i 3)] I fun a I=>wp_ret ?_;obtain rfl:=aB h;refine a6 (ak ?_);refine bn Tryz.results132 I rfl ?_;exact ⟨rfl,hm.aW [] []⟩
 have h:=J.dh ga h;have I:=I.b5 34 rfl ga;refine bf 2 [1,1,0,6] [(36,.i m_.cS)] [cl,6] (aw (aZ (hm.e 0 rfl)) ax) I fun a I=>?_;obtain ⟨dD,uu,h⟩:=J.aF h;have hc:=hm;refine bP (vs:=[.i m_.cS,.i 0,.i 10]) (c1 I rfl rfl rfl rfl) rfl Tryz.call145 ⟨(I.g rfl),(cW _ _),(cW _ _),trivial⟩ (xr ((hc.into 0).pick trivial) uu) I rfl rfl ?_;rintro _ w ⟨rfl,af⟩;refine ⟨_,rfl,fun a I=>?_⟩;have hm:=hc.back 0 af;clear af hc;refine aP 3 [1,1] [(29,.bool (!dD))] I fun a I=>wpList_nil (dt _ _ ?_);refine bi (I.g rfl) h (fun jn h=>?_) (fun jn h=>?_)
 · refine bt [] [(2,.i 3)] I fun a I=>wp_ret ?_;obtain rfl:=aB h;refine a6 (ak ?_);refine bn Tryz.results132 I rfl ?_;exact ⟨rfl,hm.aW [] []⟩
 refine wp_skip <| bI _ _ <| wp_seq_k fun K da=>wp_seq_k fun K dA=>eI [0,2] [(41,.q ag ah m_.bD),(42,.i (m_.bD.length:Int)),(43,.i 0)] [cl,2] (aw (aZ (hm.e 0 rfl)) ax) I fun a I=>dA _ _ ?_;obtain ⟨C6,h,Ag⟩:=J.ef h;refine cb (fun a w=>Fr ⟨91,[]⟩ [(1,.aL cl)] a/\au W M0 X w [aq.bm cl 133 [ao m_.Name,.bool m_.Static,.q ag ah m_.bD,.i m_.Returns.Kind,ao m_.Returns.aN,.i m_.cT,.i m_.cS,ao m_.Code,.q aI aQ m_.bH]] [U J.dx ag ah m_.bD,U J.er aI aQ m_.bH]/\C6=(.go ())) (fun K d_=>?_) ?_
 · refine cA (fun (bu:Nat) a w=>∃ (p9:Int),Fr ⟨91,[]⟩ [(1,.aL cl),(41,.q ag ah m_.bD),(42,.i (m_.bD.length:Int)),(43,.i p9)] a/\au W M0 X w [aq.bm cl 133 [ao m_.Name,.bool m_.Static,.q ag ah m_.bD,.i m_.Returns.Kind,ao m_.Returns.aN,.i m_.cT,.i m_.cS,ao m_.Code,.q aI aQ m_.bH]] [U J.dx ag ah m_.bD,U J.er aI aQ m_.bH]/\J.x8 F m_ bu p9=some C6) F ⟨0,I.cut,hm,h⟩ ?_ ?_
   · rintro a w ⟨p9,I,hm,h⟩;exact absurd h (by simp [J.x8])
   rintro bu a w ⟨p9,I,hm,h⟩ K dQ;rw [J.x8] at h;refine bc [] [(44,.bool (decide (p9 <(m_.bD.length:Int))))] I fun a I=>wp_seq_k fun K fi=>bi (I.g rfl) h (fun arj h=>?_) (fun arj h=>?_)
   · refine wp_skip <| fi _ _ <| wp_seq_k fun K gA=>wp_block <| wp_seq_k fun K hf=>aY ?_;obtain ⟨rR,aD2,h⟩:=J.aF h;obtain ⟨ani,aya,_,rfl,atW⟩:=bZ _ (hm.d 0 rfl) aD2;refine bQ wn (bF Tryz.underlying130 Tryz.sizeOf103 rfl (I.g rfl) (I.g rfl) ani aya) I rfl rfl fun a I=>bf 1 [0,0] [(46,.agg #[.i rR.Kind,ao rR.aN])] [bG ag,bJ ag+(p9).toNat* 2] (aw atW ax) I fun a I=>cy (cs:=[.i 0,ao []]) wn (eJ Tryz.zeroValue103 rfl rfl) I hm rfl rfl fun a akU w _ I hm=>cx (vs:=[.i rR.Kind,ao rR.aN]) 0 hm rfl wn rfl Tryz.sizeOf103 rfl rfl rfl rfl (I.g rfl) (I.g rfl) rfl fun w hm=>?_
     refine wpList_nil <| hf _ _ <| wp_seq_k fun K fy=>aY <| bf 1 [0,0] [(47,.agg #[.i rR.Kind,ao rR.aN])] [akU,0] (aw (aZ (hm.e 0 rfl)) ax) I fun a I=>?_;obtain ⟨XL,aBj,h⟩:=J.aF h;have hc:=hm;refine bP (vs:=[.agg #[.i rR.Kind,ao rR.aN]]) wn rfl Tryz.call131 ⟨(I.g rfl),trivial⟩ (K0 ((hc.into 0).pick trivial) aBj) I rfl rfl ?_;rintro _ w ⟨rfl,af⟩;refine ⟨_,rfl,fun a I=>?_⟩;have hm:=hc.back 0 af;clear af hc
     refine aP 1 [] [(49,.bool (!XL))] I fun a I=>wpList_nil (fy _ _ ?_);refine bi (I.g rfl) h (fun arn h=>?_) (fun arn h=>?_)
     · refine bt [] [(2,.i 7)] I fun a I=>wp_ret ?_;obtain rfl:=aB h;obtain rfl:=aB Ag;refine a6 (ak (ak (a6 (ak (ak ?_)))));refine bn Tryz.results132 I rfl ?_;exact ⟨rfl,hm.aW [] []⟩
     refine wp_skip <| gA _ _ <| ch [] [(43,.i (J.ap (p9+ 1)))] I fun a I=>?_;exact dQ _ _ ⟨J.ap (p9+ 1),I.cut,(hm.kr [1] rfl rfl),h⟩
   refine wp_exit <| bx (bx (cw ?_));exact d_ _ _ ⟨I.cut,hm,(os h)⟩
 rintro a w ⟨I,hm,bb⟩;subst C6;have h:=Ag;clear Ag;dsimp only [J.dZ] at h;refine da _ _ <| wp_seq_k fun K fU=>wp_seq_k fun K gr=>aY <| bf 2 [0,3] [(52,.agg #[.i m_.Returns.Kind,ao m_.Returns.aN])] [cl,3] (aw (aZ (hm.e 0 rfl)) ax) I fun a I=>bQ wn (gk (vs:=[]) (cs:=[.i 0,ao []]) Tryz.zeroValue103 Tryz.underlying103 afs rfl trivial (by kernel_rfl)) I rfl rfl fun a I=>bQ wn (FT (X:=m_.Returns) (Y:=(⟨0,[]⟩:J.Kind)) rfl (I.g rfl) (I.g rfl)) I rfl rfl fun a I=>aP 1 [] [(55,.bool (!decide (m_.Returns=(⟨0,[]⟩:J.Kind))))] I fun a I=>?_
 rcases Bool.eq_false_or_eq_true (!decide (m_.Returns=(⟨0,[]⟩:J.Kind))) with GZ | GZ
 · have h:=J.di GZ h;have I:=I.b5 55 rfl GZ;refine bf 2 [1,1,0,3] [(57,.agg #[.i m_.Returns.Kind,ao m_.Returns.aN])] [cl,3] (aw (aZ (hm.e 0 rfl)) ax) I fun a I=>?_;obtain ⟨XM,aBm,h⟩:=J.aF h;have hc:=hm;refine bP (vs:=[.agg #[.i m_.Returns.Kind,ao m_.Returns.aN]]) (c1 I rfl rfl rfl rfl) rfl Tryz.call131 ⟨(I.g rfl),trivial⟩ (K0 ((hc.into 0).pick trivial) aBm) I rfl rfl ?_;rintro _ w ⟨rfl,af⟩;refine ⟨_,rfl,fun a I=>?_⟩;have hm:=hc.back 0 af;clear af hc;refine aP 2 [1,1] [(60,.bool (!XM))] I fun a I=>wpList_nil (gr _ _ ?_)
   refine bi (I.g rfl) h (fun art h=>?_) (fun art h=>?_)
   · refine bt [] [(2,.i 7)] I fun a I=>wp_ret ?_;obtain rfl:=aB h;refine ak <| bn Tryz.results132 I rfl ?_;exact ⟨rfl,hm.aW [] []⟩
   refine wp_skip <| fU _ _ <| wp_seq_k fun K hG=>wp_seq_k fun K hY=>rg [0,8] [(62,.q aI aQ m_.bH),(63,.i (m_.bH.length:Int)),(64,.i 0)] [cl,8] (aw (aZ (hm.e 0 rfl)) ax) I fun a I=>hY _ _ ?_;obtain ⟨U2,h,CT⟩:=J.ef h;refine cb (fun a w=>Fr ⟨91,[]⟩ [] a/\au W M0 X w [aq.bm cl 133 [ao m_.Name,.bool m_.Static,.q ag ah m_.bD,.i m_.Returns.Kind,ao m_.Returns.aN,.i m_.cT,.i m_.cS,ao m_.Code,.q aI aQ m_.bH]] [U J.dx ag ah m_.bD,U J.er aI aQ m_.bH]/\U2=(.go ())) (fun K ht=>?_) ?_
   · refine cA (fun (c4:Nat) a w=>∃ (h3:Int),Fr ⟨91,[]⟩ [(62,.q aI aQ m_.bH),(63,.i (m_.bH.length:Int)),(64,.i h3)] a/\au W M0 X w [aq.bm cl 133 [ao m_.Name,.bool m_.Static,.q ag ah m_.bD,.i m_.Returns.Kind,ao m_.Returns.aN,.i m_.cT,.i m_.cS,ao m_.Code,.q aI aQ m_.bH]] [U J.dx ag ah m_.bD,U J.er aI aQ m_.bH]/\J.x9 F m_ c4 h3=some U2) F ⟨0,I.cut,hm,h⟩ ?_ ?_
     · rintro a w ⟨h3,I,hm,h⟩;exact absurd h (by simp [J.x9])
     rintro c4 a w ⟨h3,I,hm,h⟩ K hv;rw [J.x9] at h;refine bc [] [(65,.bool (decide (h3 <(m_.bH.length:Int))))] I fun a I=>wp_seq_k fun K jz=>bi (I.g rfl) h (fun apr h=>?_) (fun apr h=>?_)
     · refine wp_skip <| jz _ _ <| wp_seq_k fun K jk=>wp_block <| wp_seq_k fun K mw=>aY ?_;obtain ⟨jv,aCr,h⟩:=J.aF h;obtain ⟨alA,awr,_,rfl,ar_⟩:=bZ _ (hm.d 1 rfl) aCr;refine bQ wn (bF Tryz.underlying131 Tryz.sizeOf150 rfl (I.g rfl) (I.g rfl) alA awr) I rfl rfl fun a I=>bf 1 [0,0] [(67,.agg #[.i jv.From,.i jv.To,.i jv.gX,ao jv.aN])] [bG aI,bJ aI+(h3).toNat* 4] (aw ar_ ax) I fun a I=>cy (cs:=[.i 0,.i 0,.i 0,ao []]) wn (eJ Tryz.zeroValue150 rfl rfl) I hm rfl rfl fun a Ld w _ I hm=>?_
       refine cx (vs:=[.i jv.From,.i jv.To,.i jv.gX,ao jv.aN]) 0 hm rfl wn rfl Tryz.sizeOf150 rfl rfl rfl rfl (I.g rfl) (I.g rfl) rfl fun w hm=>wpList_nil <| mw _ _ <| wp_block <| wp_seq_k fun K jA=>aY <| bf 2 [0,3] [(70,ao jv.aN)] [Ld,3] (aw (aZ (hm.e 0 rfl)) ax) I fun a I=>?_;obtain ⟨Im,az9,h⟩:=J.aF h;have hc:=hm;refine bP (vs:=[ao jv.aN]) wn rfl Tryz.call130 ⟨(I.g rfl),trivial⟩ (xq ((hc.into 0).pick trivial) az9) I rfl rfl ?_;rintro _ w ⟨rfl,af⟩;refine ⟨_,rfl,fun a I=>?_⟩;have ad:a' [] _ w:=af.ev;have hm:=hc.back 0 af
       clear af hc;clear ad;refine aP 2 [] [(68,.bool (!Im))] I fun a I=>wpList_nil (jA _ _ ?_);refine bi (I.g rfl) h (fun apy h=>?_) (fun apy h=>?_)
       · refine bt [] [(2,.i 1)] I fun a I=>wp_ret ?_;obtain rfl:=aB h;obtain rfl:=aB CT;refine a6 (a6 (ak (ak (a6 (ak (ak ?_))))));refine bn Tryz.results132 I rfl ?_;exact ⟨rfl,hm.aW [] []⟩
       refine wp_seq_k fun K j_=>aY <| bf 2 [0,0] [(75,.i jv.From)] [Ld,0] (aw (aZ (hm.e 0 rfl)) ax) I fun a I=>?_;obtain ⟨kq,Ui,h⟩:=J.aF h;have hc:=hm;refine bP (vs:=[.i jv.From,.i 0,.i 200]) wn rfl Tryz.call145 ⟨(I.g rfl),(cW _ _),(cW _ _),trivial⟩ (xr ((hc.into 0).pick trivial) Ui) I rfl rfl ?_;rintro _ w ⟨rfl,af⟩;refine ⟨_,rfl,fun a I=>?_⟩;have hm:=hc.back 0 af;clear af hc;refine aP 2 [] [(78,.bool (!kq))] I fun a I=>?_;rcases Bool.eq_false_or_eq_true (!kq) with zV | zV
       · have h:=J.di zV h;have I:=I.b5 78 rfl zV;refine aP 12 [1,1,1,1,1,1,1,1,1,1] [(73,.bool true)] I fun a I=>wpList_nil (j_ _ _ ?_);refine eN (I.g rfl) rfl <| bt [] [(2,.i 3)] I fun a I=>wp_ret ?_;obtain rfl:=aB h;obtain rfl:=aB CT;refine a6 (a6 (ak (ak (a6 (ak (ak ?_))))));refine bn Tryz.results132 I rfl ?_;exact ⟨rfl,hm.aW [] []⟩
       have h:=J.dh zV h;have I:=I.b5 78 rfl zV;refine bf 2 [1,1,0,1] [(80,.i jv.To)] [Ld,1] (aw (aZ (hm.e 0 rfl)) ax) I fun a I=>?_;obtain ⟨Dv,az',h⟩:=J.aF h;have hc:=hm;refine bP (vs:=[.i jv.To,.i 0,.i 200]) (c1 I rfl rfl rfl rfl) rfl Tryz.call145 ⟨(I.g rfl),(cW _ _),(cW _ _),trivial⟩ (xr ((hc.into 0).pick trivial) az') I rfl rfl ?_;rintro _ w ⟨rfl,af⟩;refine ⟨_,rfl,fun a I=>?_⟩;have hm:=hc.back 0 af;clear af hc;refine aP 3 [1,1] [(84,.bool (!Dv))] I fun a I=>?_;rcases Bool.eq_false_or_eq_true (!Dv) with Gr | Gr
       · have h:=J.di Gr h;have I:=I.b5 84 rfl Gr;refine aP 6 [1,1,1,1,1] [(73,.bool true)] I fun a I=>wpList_nil (j_ _ _ ?_);refine eN (I.g rfl) rfl <| bt [] [(2,.i 3)] I fun a I=>wp_ret ?_;obtain rfl:=aB h;obtain rfl:=aB CT;refine a6 (a6 (ak (ak (a6 (ak (ak ?_))))));refine bn Tryz.results132 I rfl ?_;exact ⟨rfl,hm.aW [] []⟩
       have h:=J.dh Gr h;have I:=I.b5 84 rfl Gr;refine bf 2 [1,1,0,2] [(86,.i jv.gX)] [Ld,2] (aw (aZ (hm.e 0 rfl)) ax) I fun a I=>?_;obtain ⟨Io,aAa,h⟩:=J.aF h;have hc:=hm;refine bP (vs:=[.i jv.gX,.i 0,.i 200]) (c1 I rfl rfl rfl rfl) rfl Tryz.call145 ⟨(I.g rfl),(cW _ _),(cW _ _),trivial⟩ (xr ((hc.into 0).pick trivial) aAa) I rfl rfl ?_;rintro _ w ⟨rfl,af⟩;refine ⟨_,rfl,fun a I=>?_⟩;have hm:=hc.back 0 af;clear af hc;refine aP 3 [1,1] [(73,.bool (!Io))] I fun a I=>wpList_nil (j_ _ _ ?_)
       refine bi (I.g rfl) h (fun apB h=>?_) (fun apB h=>?_)
       · refine bt [] [(2,.i 3)] I fun a I=>wp_ret ?_;obtain rfl:=aB h;obtain rfl:=aB CT;refine a6 (a6 (ak (ak (a6 (ak (ak ?_))))));refine bn Tryz.results132 I rfl ?_;exact ⟨rfl,hm.aW [] []⟩
       refine wp_skip <| jk _ _ <| ch [] [(64,.i (J.ap (h3+ 1)))] I fun a I=>?_;exact hv _ _ ⟨J.ap (h3+ 1),I.cut,(hm.kr [1] rfl rfl),h⟩
     refine wp_exit <| bx (bx (cw ?_));exact ht _ _ ⟨I.cut,hm,(os h)⟩
   rintro a w ⟨I,hm,bb⟩;subst U2;have h:=CT;clear CT;dsimp only [J.dZ] at h;refine hG _ _ <| bt [] [(2,.i 0)] I fun a I=>wp_ret ?_;obtain rfl:=aB h;refine bn Tryz.results132 I rfl ?_;exact ⟨rfl,hm.aW [] []⟩
 have h:=J.dh GZ h;have I:=I.b5 55 rfl GZ;refine aP 5 [1,1,1,1,1] [(60,.bool false)] I fun a I=>wpList_nil (gr _ _ ?_);refine ij (I.g rfl) rfl <| wp_skip <| fU _ _ <| wp_seq_k fun K ox=>wp_seq_k fun K lJ=>rg [0,8] [(62,.q aI aQ m_.bH),(63,.i (m_.bH.length:Int)),(64,.i 0)] [cl,8] (aw (aZ (hm.e 0 rfl)) ax) I fun a I=>lJ _ _ ?_;obtain ⟨Vp,h,CX⟩:=J.ef h
 refine cb (fun a w=>Fr ⟨91,[]⟩ [] a/\au W M0 X w [aq.bm cl 133 [ao m_.Name,.bool m_.Static,.q ag ah m_.bD,.i m_.Returns.Kind,ao m_.Returns.aN,.i m_.cT,.i m_.cS,ao m_.Code,.q aI aQ m_.bH]] [U J.dx ag ah m_.bD,U J.er aI aQ m_.bH]/\Vp=(.go ())) (fun K mx=>?_) ?_
 · refine cA (fun (eB:Nat) a w=>∃ (p2:Int),Fr ⟨91,[]⟩ [(62,.q aI aQ m_.bH),(63,.i (m_.bH.length:Int)),(64,.i p2)] a/\au W M0 X w [aq.bm cl 133 [ao m_.Name,.bool m_.Static,.q ag ah m_.bD,.i m_.Returns.Kind,ao m_.Returns.aN,.i m_.cT,.i m_.cS,ao m_.Code,.q aI aQ m_.bH]] [U J.dx ag ah m_.bD,U J.er aI aQ m_.bH]/\J.x' F m_ eB p2=some Vp) F ⟨0,I.cut,hm,h⟩ ?_ ?_
   · rintro a w ⟨p2,I,hm,h⟩;exact absurd h (by simp [J.x'])
   rintro eB a w ⟨p2,I,hm,h⟩ K q2;rw [J.x'] at h;refine bc [] [(65,.bool (decide (p2 <(m_.bH.length:Int))))] I fun a I=>wp_seq_k fun K my=>bi (I.g rfl) h (fun apS h=>?_) (fun apS h=>?_)
   · refine wp_skip <| my _ _ <| wp_seq_k fun K tS=>wp_block <| wp_seq_k fun K q3=>aY ?_;obtain ⟨jw,aCL,h⟩:=J.aF h;obtain ⟨alX,awO,_,rfl,asv⟩:=bZ _ (hm.d 1 rfl) aCL;refine bQ wn (bF Tryz.underlying131 Tryz.sizeOf150 rfl (I.g rfl) (I.g rfl) alX awO) I rfl rfl fun a I=>bf 1 [0,0] [(67,.agg #[.i jw.From,.i jw.To,.i jw.gX,ao jw.aN])] [bG aI,bJ aI+(p2).toNat* 4] (aw asv ax) I fun a I=>cy (cs:=[.i 0,.i 0,.i 0,ao []]) wn (eJ Tryz.zeroValue150 rfl rfl) I hm rfl rfl fun a Lg w _ I hm=>?_
     refine cx (vs:=[.i jw.From,.i jw.To,.i jw.gX,ao jw.aN]) 0 hm rfl wn rfl Tryz.sizeOf150 rfl rfl rfl rfl (I.g rfl) (I.g rfl) rfl fun w hm=>wpList_nil <| q3 _ _ <| wp_block <| wp_seq_k fun K oy=>aY <| bf 2 [0,3] [(70,ao jw.aN)] [Lg,3] (aw (aZ (hm.e 0 rfl)) ax) I fun a I=>?_;obtain ⟨Xl,aAo,h⟩:=J.aF h;have hc:=hm;refine bP (vs:=[ao jw.aN]) wn rfl Tryz.call130 ⟨(I.g rfl),trivial⟩ (xq ((hc.into 0).pick trivial) aAo) I rfl rfl ?_;rintro _ w ⟨rfl,af⟩;refine ⟨_,rfl,fun a I=>?_⟩;have ad:a' [] _ w:=af.ev;have hm:=hc.back 0 af
     clear af hc;clear ad;refine aP 2 [] [(68,.bool (!Xl))] I fun a I=>wpList_nil (oy _ _ ?_);refine bi (I.g rfl) h (fun apT h=>?_) (fun apT h=>?_)
     · refine bt [] [(2,.i 1)] I fun a I=>wp_ret ?_;obtain rfl:=aB h;obtain rfl:=aB CX;refine a6 (a6 (ak (ak (a6 (ak (ak ?_))))));refine bn Tryz.results132 I rfl ?_;exact ⟨rfl,hm.aW [] []⟩
     refine wp_seq_k fun K mz=>aY <| bf 2 [0,0] [(75,.i jw.From)] [Lg,0] (aw (aZ (hm.e 0 rfl)) ax) I fun a I=>?_;obtain ⟨MZ,aAp,h⟩:=J.aF h;have hc:=hm;refine bP (vs:=[.i jw.From,.i 0,.i 200]) wn rfl Tryz.call145 ⟨(I.g rfl),(cW _ _),(cW _ _),trivial⟩ (xr ((hc.into 0).pick trivial) aAp) I rfl rfl ?_;rintro _ w ⟨rfl,af⟩;refine ⟨_,rfl,fun a I=>?_⟩;have hm:=hc.back 0 af;clear af hc;refine aP 2 [] [(78,.bool (!MZ))] I fun a I=>?_;rcases Bool.eq_false_or_eq_true (!MZ) with Gy | Gy
     · have h:=J.di Gy h;have I:=I.b5 78 rfl Gy;refine aP 12 [1,1,1,1,1,1,1,1,1,1] [(73,.bool true)] I fun a I=>wpList_nil (mz _ _ ?_);refine eN (I.g rfl) rfl <| bt [] [(2,.i 3)] I fun a I=>wp_ret ?_;obtain rfl:=aB h;obtain rfl:=aB CX;refine a6 (a6 (ak (ak (a6 (ak (ak ?_))))));refine bn Tryz.results132 I rfl ?_;exact ⟨rfl,hm.aW [] []⟩
     have h:=J.dh Gy h;have I:=I.b5 78 rfl Gy;refine bf 2 [1,1,0,1] [(80,.i jw.To)] [Lg,1] (aw (aZ (hm.e 0 rfl)) ax) I fun a I=>?_;obtain ⟨M1,aAq,h⟩:=J.aF h;have hc:=hm;refine bP (vs:=[.i jw.To,.i 0,.i 200]) (c1 I rfl rfl rfl rfl) rfl Tryz.call145 ⟨(I.g rfl),(cW _ _),(cW _ _),trivial⟩ (xr ((hc.into 0).pick trivial) aAq) I rfl rfl ?_;rintro _ w ⟨rfl,af⟩;refine ⟨_,rfl,fun a I=>?_⟩;have hm:=hc.back 0 af;clear af hc;refine aP 3 [1,1] [(84,.bool (!M1))] I fun a I=>?_;rcases Bool.eq_false_or_eq_true (!M1) with Gz | Gz
     · have h:=J.di Gz h;have I:=I.b5 84 rfl Gz;refine aP 6 [1,1,1,1,1] [(73,.bool true)] I fun a I=>wpList_nil (mz _ _ ?_);refine eN (I.g rfl) rfl <| bt [] [(2,.i 3)] I fun a I=>wp_ret ?_;obtain rfl:=aB h;obtain rfl:=aB CX;refine a6 (a6 (ak (ak (a6 (ak (ak ?_))))));refine bn Tryz.results132 I rfl ?_;exact ⟨rfl,hm.aW [] []⟩
     have h:=J.dh Gz h;have I:=I.b5 84 rfl Gz;refine bf 2 [1,1,0,2] [(86,.i jw.gX)] [Lg,2] (aw (aZ (hm.e 0 rfl)) ax) I fun a I=>?_;obtain ⟨Xm,aAr,h⟩:=J.aF h;have hc:=hm;refine bP (vs:=[.i jw.gX,.i 0,.i 200]) (c1 I rfl rfl rfl rfl) rfl Tryz.call145 ⟨(I.g rfl),(cW _ _),(cW _ _),trivial⟩ (xr ((hc.into 0).pick trivial) aAr) I rfl rfl ?_;rintro _ w ⟨rfl,af⟩;refine ⟨_,rfl,fun a I=>?_⟩;have hm:=hc.back 0 af;clear af hc;refine aP 3 [1,1] [(73,.bool (!Xm))] I fun a I=>wpList_nil (mz _ _ ?_)
     refine bi (I.g rfl) h (fun apW h=>?_) (fun apW h=>?_)
     · refine bt [] [(2,.i 3)] I fun a I=>wp_ret ?_;obtain rfl:=aB h;obtain rfl:=aB CX;refine a6 (a6 (ak (ak (a6 (ak (ak ?_))))));refine bn Tryz.results132 I rfl ?_;exact ⟨rfl,hm.aW [] []⟩
     refine wp_skip <| tS _ _ <| ch [] [(64,.i (J.ap (p2+ 1)))] I fun a I=>?_;exact q2 _ _ ⟨J.ap (p2+ 1),I.cut,(hm.kr [1] rfl rfl),h⟩
   refine wp_exit <| bx (bx (cw ?_));exact mx _ _ ⟨I.cut,hm,(os h)⟩
 rintro a w ⟨I,hm,bb⟩;subst Vp;have h:=CX;clear CX;dsimp only [J.dZ] at h;refine ox _ _ <| bt [] [(2,.i 0)] I fun a I=>wp_ret ?_;obtain rfl:=aB h;refine bn Tryz.results132 I rfl ?_;exact ⟨rfl,hm.aW [] []⟩
theorem ai8 {W:World} {X:List Nat} {F:Nat} {c_:J.aN} {r:Int} {ag:aS} {ah:Nat} {aI:aS} {aQ:Nat} {M0:List Nat} (hm:au W M0 X W [] [U J.aX ag ah c_.Fields,U J.b2 aI aQ c_.aR]) (h:J.HT F c_=some r) :
 Calls Tryz.prog 98 [.agg #[ao c_.Name,ao c_.bW,.q ag ah c_.Fields,.q aI aQ c_.aR]].toArray W (fun e aD=>e= .returned (.i r)/\au W M0 X aD [] []):=by
 refine enter Tryz.func98 rfl Tryz.ntmps98 rfl fun a I=>?_;rw [J.HT] at h;refine wp_seq_k fun K cZ=>aY <| cy (cs:=[ao c_.Name,ao c_.bW,.q ag ah c_.Fields,.q aI aQ c_.aR]) wn (ei rfl rfl (I.g rfl)) I hm rfl rfl fun a cl w _ I hm=>aP 1 [] [] I fun a I=>wpList_nil (cZ _ _ ?_);refine wp_seq_k fun K bI=>wp_block <| wp_seq_k fun K ca=>aY <| bf 2 [0,0] [(10,ao c_.Name)] [cl,0] (aw (aZ (hm.e 0 rfl)) ax) I fun a I=>?_;obtain ⟨dC,uv,h⟩:=J.aF h;have hc:=hm
 refine bP (vs:=[ao c_.Name]) wn rfl Tryz.call130 ⟨(I.g rfl),trivial⟩ (xq ((hc.into 0).pick trivial) uv) I rfl rfl ?_;rintro _ w ⟨rfl,af⟩;refine ⟨_,rfl,fun a I=>?_⟩;have hm:=hc.back 0 af;clear af hc;refine aP 2 [] [(13,.bool (!dC))] I fun a I=>?_;rcases Bool.eq_false_or_eq_true (!dC) with k1 | k1
 · have h:=J.di k1 h;have I:=I.b5 13 rfl k1;refine aP 11 [1,1,1,1,1,1,1,1,1,1] [(8,.bool true)] I fun a I=>wpList_nil (ca _ _ ?_);refine eN (I.g rfl) rfl <| bt [] [(2,.i 1)] I fun a I=>wp_ret ?_;obtain rfl:=aB h;refine a6 (ak ?_);refine bn Tryz.results98 I rfl ?_;exact ⟨rfl,hm.aW [] []⟩
 have h:=J.dh k1 h;have I:=I.b5 13 rfl k1;refine bf 4 [1,1,0,1,1,1] [(17,.bool (!decide (c_.bW= [])))] [cl,1] (aw (aZ (hm.e 0 rfl)) ax) I fun a I=>?_;rcases Bool.eq_false_or_eq_true (!decide (c_.bW= [])) with q7 | q7
 · have h:=J.di q7 h;have I:=I.b5 17 rfl q7;refine bf 2 [1,1,0,1] [(19,ao c_.bW)] [cl,1] (aw (aZ (hm.e 0 rfl)) ax) I fun a I=>?_;obtain ⟨hn,An,h⟩:=J.aF h;have hc:=hm;refine bP (vs:=[ao c_.bW]) (c1 I rfl rfl rfl rfl) rfl Tryz.call130 ⟨(I.g rfl),trivial⟩ (xq ((hc.into 0).pick trivial) An) I rfl rfl ?_;rintro _ w ⟨rfl,af⟩;refine ⟨_,rfl,fun a I=>?_⟩;have hm:=hc.back 0 af;clear af hc;refine aP 4 [1,1,1,1] [(8,.bool (!hn))] I fun a I=>wpList_nil (ca _ _ ?_);refine bi (I.g rfl) h (fun ga h=>?_) (fun ga h=>?_)
   · refine bt [] [(2,.i 1)] I fun a I=>wp_ret ?_;obtain rfl:=aB h;refine a6 (ak ?_);refine bn Tryz.results98 I rfl ?_;exact ⟨rfl,hm.aW [] []⟩
   refine wp_seq_k fun K dL=>eI [0,2,0,0,0,3,0,0,0] [(24,.bool ((decide (6 <(c_.Fields.length:Int))) || (decide (8 <(c_.aR.length:Int)))))] [cl,3,cl,2] (aw (aZ (hm.e 0 rfl)) ax) I fun a I=>dL _ _ <| bi (I.g rfl) h (fun kb h=>?_) (fun kb h=>?_)
   · refine bt [] [(2,.i 2)] I fun a I=>wp_ret ?_;obtain rfl:=aB h;refine a6 (ak ?_);refine bn Tryz.results98 I rfl ?_;exact ⟨rfl,hm.aW [] []⟩
   refine wp_skip <| bI _ _ <| wp_seq_k fun K cO=>wp_seq_k fun K dp=>eI [0,2] [(36,.q ag ah c_.Fields),(37,.i (c_.Fields.length:Int)),(38,.i 0)] [cl,2] (aw (aZ (hm.e 0 rfl)) ax) I fun a I=>dp _ _ ?_;obtain ⟨Az,h,xS⟩:=J.ef h;refine cb (fun a w=>Fr ⟨66,[]⟩ [(1,.aL cl)] a/\au W M0 X w [aq.bm cl 136 [ao c_.Name,ao c_.bW,.q ag ah c_.Fields,.q aI aQ c_.aR]] [U J.aX ag ah c_.Fields,U J.b2 aI aQ c_.aR]/\Az=(.go ())) (fun K da=>?_) ?_
   · refine cA (fun (bu:Nat) a w=>∃ (eW:Int),Fr ⟨66,[]⟩ [(1,.aL cl),(36,.q ag ah c_.Fields),(37,.i (c_.Fields.length:Int)),(38,.i eW)] a/\au W M0 X w [aq.bm cl 136 [ao c_.Name,ao c_.bW,.q ag ah c_.Fields,.q aI aQ c_.aR]] [U J.aX ag ah c_.Fields,U J.b2 aI aQ c_.aR]/\J.x4 F c_ bu eW=some Az) F ⟨0,I.cut,hm,h⟩ ?_ ?_
     · rintro a w ⟨eW,I,hm,h⟩;exact absurd h (by simp [J.x4])
     rintro bu a w ⟨eW,I,hm,h⟩ K dA;rw [J.x4] at h;refine bc [] [(39,.bool (decide (eW <(c_.Fields.length:Int))))] I fun a I=>wp_seq_k fun K dQ=>bi (I.g rfl) h (fun G0 h=>?_) (fun G0 h=>?_)
     · refine wp_skip <| dQ _ _ <| wp_seq_k fun K fx=>wp_block <| wp_seq_k fun K fi=>aY ?_;obtain ⟨l9,aEg,h⟩:=J.aF h;obtain ⟨anC,ayr,_,rfl,aub⟩:=bZ _ (hm.d 0 rfl) aEg;refine bQ wn (bF Tryz.underlying106 Tryz.sizeOf105 rfl (I.g rfl) (I.g rfl) anC ayr) I rfl rfl fun a I=>bf 1 [0,0] [(41,.agg #[ao l9.Name,.i l9.Kind.Kind,ao l9.Kind.aN])] [bG ag,bJ ag+(eW).toNat* 3] (aw aub ax) I fun a I=>cy (cs:=[ao [],.i 0,ao []]) wn (eJ Tryz.zeroValue105 rfl rfl) I hm rfl rfl fun a acF w _ I hm=>?_
       refine cx (vs:=[ao l9.Name,.i l9.Kind.Kind,ao l9.Kind.aN]) 0 hm rfl wn rfl Tryz.sizeOf105 rfl rfl rfl rfl (I.g rfl) (I.g rfl) rfl fun w hm=>wpList_nil <| fi _ _ <| wp_block <| wp_seq_k fun K gA=>aY <| bf 2 [0,0] [(44,ao l9.Name)] [acF,0] (aw (aZ (hm.e 0 rfl)) ax) I fun a I=>?_;obtain ⟨AR,aBp,h⟩:=J.aF h;have hc:=hm;refine bP (vs:=[ao l9.Name]) wn rfl Tryz.call130 ⟨(I.g rfl),trivial⟩ (xq ((hc.into 0).pick trivial) aBp) I rfl rfl ?_;rintro _ w ⟨rfl,af⟩;refine ⟨_,rfl,fun a I=>?_⟩;have ad:a' [] _ w:=af.ev;have hm:=hc.back 0 af
       clear af hc;clear ad;refine aP 2 [] [(42,.bool (!AR))] I fun a I=>wpList_nil (gA _ _ ?_);refine bi (I.g rfl) h (fun arw h=>?_) (fun arw h=>?_)
       · refine bt [] [(2,.i 1)] I fun a I=>wp_ret ?_;obtain rfl:=aB h;obtain rfl:=aB xS;refine a6 (a6 (ak (ak (a6 (ak (ak ?_))))));refine bn Tryz.results98 I rfl ?_;exact ⟨rfl,hm.aW [] []⟩
       refine wp_seq_k fun K fy=>aY <| bf 2 [0,1] [(49,.agg #[.i l9.Kind.Kind,ao l9.Kind.aN])] [acF,1] (aw (aZ (hm.e 0 rfl)) ax) I fun a I=>?_;obtain ⟨kp,Uf,h⟩:=J.aF h;have hc:=hm;refine bP (vs:=[.agg #[.i l9.Kind.Kind,ao l9.Kind.aN]]) wn rfl Tryz.call131 ⟨(I.g rfl),trivial⟩ (K0 ((hc.into 0).pick trivial) Uf) I rfl rfl ?_;rintro _ w ⟨rfl,af⟩;refine ⟨_,rfl,fun a I=>?_⟩;have hm:=hc.back 0 af;clear af hc;refine aP 2 [] [(47,.bool (!kp))] I fun a I=>wpList_nil (fy _ _ ?_);refine bi (I.g rfl) h (fun t_ h=>?_) (fun t_ h=>?_)
       · refine bt [] [(2,.i 7)] I fun a I=>wp_ret ?_;obtain rfl:=aB h;obtain rfl:=aB xS;refine a6 (a6 (ak (ak (a6 (ak (ak ?_))))));refine bn Tryz.results98 I rfl ?_;exact ⟨rfl,hm.aW [] []⟩
       refine wp_skip <| fx _ _ <| ch [] [(38,.i (J.ap (eW+ 1)))] I fun a I=>?_;exact dA _ _ ⟨J.ap (eW+ 1),I.cut,(hm.kr [1] rfl rfl),h⟩
     refine wp_exit <| bx (bx (cw ?_));exact da _ _ ⟨I.cut,hm,(os h)⟩
   rintro a w ⟨I,hm,bb⟩;subst Az;have h:=xS;clear xS;dsimp only [J.dZ] at h;refine cO _ _ <| wp_seq_k fun K fU=>wp_seq_k fun K gr=>rg [0,3] [(54,.q aI aQ c_.aR),(55,.i (c_.aR.length:Int)),(56,.i 0)] [cl,3] (aw (aZ (hm.e 0 rfl)) ax) I fun a I=>gr _ _ ?_;obtain ⟨U3,h,Sw⟩:=J.ef h;refine cb (fun a w=>Fr ⟨66,[]⟩ [] a/\au W M0 X w [aq.bm cl 136 [ao c_.Name,ao c_.bW,.q ag ah c_.Fields,.q aI aQ c_.aR]] [U J.aX ag ah c_.Fields,U J.b2 aI aQ c_.aR]/\U3=(.go ())) (fun K gN=>?_) ?_
   · refine cA (fun (c4:Nat) a w=>∃ (h3:Int),Fr ⟨66,[]⟩ [(54,.q aI aQ c_.aR),(55,.i (c_.aR.length:Int)),(56,.i h3)] a/\au W M0 X w [aq.bm cl 136 [ao c_.Name,ao c_.bW,.q ag ah c_.Fields,.q aI aQ c_.aR]] [U J.aX ag ah c_.Fields,U J.b2 aI aQ c_.aR]/\J.x5 F c_ c4 h3=some U3) F ⟨0,I.cut,hm,h⟩ ?_ ?_
     · rintro a w ⟨h3,I,hm,h⟩;exact absurd h (by simp [J.x5])
     rintro c4 a w ⟨h3,I,hm,h⟩ K hG;rw [J.x5] at h;refine bc [] [(57,.bool (decide (h3 <(c_.aR.length:Int))))] I fun a I=>wp_seq_k fun K ht=>bi (I.g rfl) h (fun apq h=>?_) (fun apq h=>?_)
     · refine wp_skip <| ht _ _ <| wp_seq_k fun K hv=>wp_block <| wp_seq_k fun K hx=>aY ?_;obtain ⟨e9,aCp,h⟩:=J.aF h;obtain ⟨aly,awp,_,⟨Ek,Fb,vS,xc,rfl,auA,auB⟩,ar9⟩:=bZ _ (hm.d 1 rfl) aCp;have hm:=hm.more (y:=U J.dx Ek Fb e9.bD) auA;have hm:=hm.more (y:=U J.er vS xc e9.bH) auB;refine bQ wn (bF Tryz.underlying134 Tryz.sizeOf133 rfl (I.g rfl) (I.g rfl) aly awp) I rfl rfl fun a I=>?_
       refine bf 1 [0,0] [(59,.agg #[ao e9.Name,.bool e9.Static,.q Ek Fb e9.bD,.i e9.Returns.Kind,ao e9.Returns.aN,.i e9.cT,.i e9.cS,ao e9.Code,.q vS xc e9.bH])] [bG aI,bJ aI+(h3).toNat* 9] (aw ar9 ax) I fun a I=>cy (cs:=[ao [],.bool false,.slice none 0 0,.i 0,ao [],.i 0,.i 0,ao [],.slice none 0 0]) wn (eJ Tryz.zeroValue133 rfl rfl) I hm rfl rfl fun a akJ w _ I hm=>?_
       refine cx (vs:=[ao e9.Name,.bool e9.Static,.q Ek Fb e9.bD,.i e9.Returns.Kind,ao e9.Returns.aN,.i e9.cT,.i e9.cS,ao e9.Code,.q vS xc e9.bH]) 0 hm rfl wn rfl Tryz.sizeOf133 rfl rfl rfl rfl (I.g rfl) (I.g rfl) rfl fun w hm=>wpList_nil <| hx _ _ <| wp_seq_k fun K jz=>aY ?_
       refine bf 1 [0,0] [(60,.agg #[ao e9.Name,.bool e9.Static,.q Ek Fb e9.bD,.i e9.Returns.Kind,ao e9.Returns.aN,.i e9.cT,.i e9.cS,ao e9.Code,.q vS xc e9.bH])] [akJ,0] (aw (aZ (hm.e 0 rfl)) ax) I fun a I=>?_;obtain ⟨kq,Ui,h⟩:=J.aF h;have hc:=hm
       refine bP (vs:=[.agg #[ao e9.Name,.bool e9.Static,.q Ek Fb e9.bD,.i e9.Returns.Kind,ao e9.Returns.aN,.i e9.cT,.i e9.cS,ao e9.Code,.q vS xc e9.bH]]) wn rfl Tryz.call132 ⟨(I.g rfl),trivial⟩ (abB (m_:=e9) ((hc.into 0).pick ⟨⟨1,rfl⟩,⟨0,rfl⟩,trivial⟩) Ui) I rfl rfl ?_;rintro _ w ⟨rfl,af⟩;refine ⟨_,rfl,fun a I=>?_⟩;have hm:=hc.back 0 af;clear af hc
       refine aP 1 [] [(7,.i kq)] I fun a I=>wpList_nil (jz _ _ ?_);refine bc [] [(63,.bool (!decide (kq= 0)))] I fun a I=>bi (I.g rfl) h (fun zV h=>?_) (fun zV h=>?_)
       · refine bt [] [(2,.i kq)] I fun a I=>wp_ret ?_;obtain rfl:=aB h;obtain rfl:=aB Sw;refine a6 (ak (ak (a6 (ak (ak ?_)))));refine bn Tryz.results98 I rfl ?_;exact ⟨rfl,hm.aW [] []⟩
       refine wp_skip <| hv _ _ <| ch [] [(56,.i (J.ap (h3+ 1)))] I fun a I=>?_;exact hG _ _ ⟨J.ap (h3+ 1),I.cut,hm.aW [1] [2,3],h⟩
     refine wp_exit <| bx (bx (cw ?_));exact gN _ _ ⟨I.cut,hm,(os h)⟩
   rintro a w ⟨I,hm,bb⟩;subst U3;have h:=Sw;clear Sw;dsimp only [J.dZ] at h;refine fU _ _ <| bt [] [(2,.i 0)] I fun a I=>wp_ret ?_;obtain rfl:=aB h;refine bn Tryz.results98 I rfl ?_;exact ⟨rfl,hm.aW [] []⟩
 have h:=J.dh q7 h;have I:=I.b5 17 rfl q7;refine aP 7 [1,1,1,1,1,1,1] [(8,.bool false)] I fun a I=>wpList_nil (ca _ _ ?_);refine ij (I.g rfl) rfl <| wp_seq_k fun K jB=>eI [0,2,0,0,0,3,0,0,0] [(24,.bool ((decide (6 <(c_.Fields.length:Int))) || (decide (8 <(c_.aR.length:Int)))))] [cl,3,cl,2] (aw (aZ (hm.e 0 rfl)) ax) I fun a I=>jB _ _ <| bi (I.g rfl) h (fun apA h=>?_) (fun apA h=>?_)
 · refine bt [] [(2,.i 2)] I fun a I=>wp_ret ?_;obtain rfl:=aB h;refine a6 (ak ?_);refine bn Tryz.results98 I rfl ?_;exact ⟨rfl,hm.aW [] []⟩
 refine wp_skip <| bI _ _ <| wp_seq_k fun K j'=>wp_seq_k fun K nv=>eI [0,2] [(36,.q ag ah c_.Fields),(37,.i (c_.Fields.length:Int)),(38,.i 0)] [cl,2] (aw (aZ (hm.e 0 rfl)) ax) I fun a I=>nv _ _ ?_;obtain ⟨Vk,h,LA⟩:=J.ef h;refine cb (fun a w=>Fr ⟨66,[]⟩ [(1,.aL cl)] a/\au W M0 X w [aq.bm cl 136 [ao c_.Name,ao c_.bW,.q ag ah c_.Fields,.q aI aQ c_.aR]] [U J.aX ag ah c_.Fields,U J.b2 aI aQ c_.aR]/\Vk=(.go ())) (fun K ow=>?_) ?_
 · refine cA (fun (eB:Nat) a w=>∃ (p1:Int),Fr ⟨66,[]⟩ [(1,.aL cl),(36,.q ag ah c_.Fields),(37,.i (c_.Fields.length:Int)),(38,.i p1)] a/\au W M0 X w [aq.bm cl 136 [ao c_.Name,ao c_.bW,.q ag ah c_.Fields,.q aI aQ c_.aR]] [U J.aX ag ah c_.Fields,U J.b2 aI aQ c_.aR]/\J.x6 F c_ eB p1=some Vk) F ⟨0,I.cut,hm,h⟩ ?_ ?_
   · rintro a w ⟨p1,I,hm,h⟩;exact absurd h (by simp [J.x6])
   rintro eB a w ⟨p1,I,hm,h⟩ K lI;rw [J.x6] at h;refine bc [] [(39,.bool (decide (p1 <(c_.Fields.length:Int))))] I fun a I=>wp_seq_k fun K lJ=>bi (I.g rfl) h (fun apL h=>?_) (fun apL h=>?_)
   · refine wp_skip <| lJ _ _ <| wp_seq_k fun K mx=>wp_block <| wp_seq_k fun K q2=>aY ?_;obtain ⟨l7,aCG,h⟩:=J.aF h;obtain ⟨alR,awI,_,rfl,asp⟩:=bZ _ (hm.d 0 rfl) aCG;refine bQ wn (bF Tryz.underlying106 Tryz.sizeOf105 rfl (I.g rfl) (I.g rfl) alR awI) I rfl rfl fun a I=>bf 1 [0,0] [(41,.agg #[ao l7.Name,.i l7.Kind.Kind,ao l7.Kind.aN])] [bG ag,bJ ag+(p1).toNat* 3] (aw asp ax) I fun a I=>cy (cs:=[ao [],.i 0,ao []]) wn (eJ Tryz.zeroValue105 rfl rfl) I hm rfl rfl fun a acw w _ I hm=>?_
     refine cx (vs:=[ao l7.Name,.i l7.Kind.Kind,ao l7.Kind.aN]) 0 hm rfl wn rfl Tryz.sizeOf105 rfl rfl rfl rfl (I.g rfl) (I.g rfl) rfl fun w hm=>wpList_nil <| q2 _ _ <| wp_block <| wp_seq_k fun K zO=>aY <| bf 2 [0,0] [(44,ao l7.Name)] [acw,0] (aw (aZ (hm.e 0 rfl)) ax) I fun a I=>?_;obtain ⟨Xf,aAg,h⟩:=J.aF h;have hc:=hm;refine bP (vs:=[ao l7.Name]) wn rfl Tryz.call130 ⟨(I.g rfl),trivial⟩ (xq ((hc.into 0).pick trivial) aAg) I rfl rfl ?_;rintro _ w ⟨rfl,af⟩;refine ⟨_,rfl,fun a I=>?_⟩;have ad:a' [] _ w:=af.ev;have hm:=hc.back 0 af
     clear af hc;clear ad;refine aP 2 [] [(42,.bool (!Xf))] I fun a I=>wpList_nil (zO _ _ ?_);refine bi (I.g rfl) h (fun Rv h=>?_) (fun Rv h=>?_)
     · refine bt [] [(2,.i 1)] I fun a I=>wp_ret ?_;obtain rfl:=aB h;obtain rfl:=aB LA;refine a6 (a6 (ak (ak (a6 (ak (ak ?_))))));refine bn Tryz.results98 I rfl ?_;exact ⟨rfl,hm.aW [] []⟩
     refine wp_seq_k fun K tS=>aY <| bf 2 [0,1] [(49,.agg #[.i l7.Kind.Kind,ao l7.Kind.aN])] [acw,1] (aw (aZ (hm.e 0 rfl)) ax) I fun a I=>?_;obtain ⟨Xg,aAh,h⟩:=J.aF h;have hc:=hm;refine bP (vs:=[.agg #[.i l7.Kind.Kind,ao l7.Kind.aN]]) wn rfl Tryz.call131 ⟨(I.g rfl),trivial⟩ (K0 ((hc.into 0).pick trivial) aAh) I rfl rfl ?_;rintro _ w ⟨rfl,af⟩;refine ⟨_,rfl,fun a I=>?_⟩;have hm:=hc.back 0 af;clear af hc;refine aP 2 [] [(47,.bool (!Xg))] I fun a I=>wpList_nil (tS _ _ ?_);refine bi (I.g rfl) h (fun Rw h=>?_) (fun Rw h=>?_)
     · refine bt [] [(2,.i 7)] I fun a I=>wp_ret ?_;obtain rfl:=aB h;obtain rfl:=aB LA;refine a6 (a6 (ak (ak (a6 (ak (ak ?_))))));refine bn Tryz.results98 I rfl ?_;exact ⟨rfl,hm.aW [] []⟩
     refine wp_skip <| mx _ _ <| ch [] [(38,.i (J.ap (p1+ 1)))] I fun a I=>?_;exact lI _ _ ⟨J.ap (p1+ 1),I.cut,(hm.kr [1] rfl rfl),h⟩
   refine wp_exit <| bx (bx (cw ?_));exact ow _ _ ⟨I.cut,hm,(os h)⟩
 rintro a w ⟨I,hm,bb⟩;subst Vk;have h:=LA;clear LA;dsimp only [J.dZ] at h;refine j' _ _ <| wp_seq_k fun K oy=>wp_seq_k fun K oz=>rg [0,3] [(54,.q aI aQ c_.aR),(55,.i (c_.aR.length:Int)),(56,.i 0)] [cl,3] (aw (aZ (hm.e 0 rfl)) ax) I fun a I=>oz _ _ ?_;obtain ⟨Vx,h,S1⟩:=J.ef h;refine cb (fun a w=>Fr ⟨66,[]⟩ [] a/\au W M0 X w [aq.bm cl 136 [ao c_.Name,ao c_.bW,.q ag ah c_.Fields,.q aI aQ c_.aR]] [U J.aX ag ah c_.Fields,U J.b2 aI aQ c_.aR]/\Vx=(.go ())) (fun K mz=>?_) ?_
 · refine cA (fun (fB:Nat) a w=>∃ (p3:Int),Fr ⟨66,[]⟩ [(54,.q aI aQ c_.aR),(55,.i (c_.aR.length:Int)),(56,.i p3)] a/\au W M0 X w [aq.bm cl 136 [ao c_.Name,ao c_.bW,.q ag ah c_.Fields,.q aI aQ c_.aR]] [U J.aX ag ah c_.Fields,U J.b2 aI aQ c_.aR]/\J.x7 F c_ fB p3=some Vx) F ⟨0,I.cut,hm,h⟩ ?_ ?_
   · rintro a w ⟨p3,I,hm,h⟩;exact absurd h (by simp [J.x7])
   rintro fB a w ⟨p3,I,hm,h⟩ K sm;rw [J.x7] at h;refine bc [] [(57,.bool (decide (p3 <(c_.aR.length:Int))))] I fun a I=>wp_seq_k fun K tU=>bi (I.g rfl) h (fun ap8 h=>?_) (fun ap8 h=>?_)
   · refine wp_skip <| tU _ _ <| wp_seq_k fun K sn=>wp_block <| wp_seq_k fun K tV=>aY ?_;obtain ⟨fa,aCZ,h⟩:=J.aF h;obtain ⟨ama,aw3,_,⟨Et,Fm,Eu,Fo,rfl,auS,auT⟩,asL⟩:=bZ _ (hm.d 1 rfl) aCZ;have hm:=hm.more (y:=U J.dx Et Fm fa.bD) auS;have hm:=hm.more (y:=U J.er Eu Fo fa.bH) auT;refine bQ wn (bF Tryz.underlying134 Tryz.sizeOf133 rfl (I.g rfl) (I.g rfl) ama aw3) I rfl rfl fun a I=>?_
     refine bf 1 [0,0] [(59,.agg #[ao fa.Name,.bool fa.Static,.q Et Fm fa.bD,.i fa.Returns.Kind,ao fa.Returns.aN,.i fa.cT,.i fa.cS,ao fa.Code,.q Eu Fo fa.bH])] [bG aI,bJ aI+(p3).toNat* 9] (aw asL ax) I fun a I=>cy (cs:=[ao [],.bool false,.slice none 0 0,.i 0,ao [],.i 0,.i 0,ao [],.slice none 0 0]) wn (eJ Tryz.zeroValue133 rfl rfl) I hm rfl rfl fun a akL w _ I hm=>?_
     refine cx (vs:=[ao fa.Name,.bool fa.Static,.q Et Fm fa.bD,.i fa.Returns.Kind,ao fa.Returns.aN,.i fa.cT,.i fa.cS,ao fa.Code,.q Eu Fo fa.bH]) 0 hm rfl wn rfl Tryz.sizeOf133 rfl rfl rfl rfl (I.g rfl) (I.g rfl) rfl fun w hm=>wpList_nil <| tV _ _ <| wp_seq_k fun K xG=>aY ?_
     refine bf 1 [0,0] [(60,.agg #[ao fa.Name,.bool fa.Static,.q Et Fm fa.bD,.i fa.Returns.Kind,ao fa.Returns.aN,.i fa.cT,.i fa.cS,ao fa.Code,.q Eu Fo fa.bH])] [akL,0] (aw (aZ (hm.e 0 rfl)) ax) I fun a I=>?_;obtain ⟨Dx,aAx,h⟩:=J.aF h;have hc:=hm
     refine bP (vs:=[.agg #[ao fa.Name,.bool fa.Static,.q Et Fm fa.bD,.i fa.Returns.Kind,ao fa.Returns.aN,.i fa.cT,.i fa.cS,ao fa.Code,.q Eu Fo fa.bH]]) wn rfl Tryz.call132 ⟨(I.g rfl),trivial⟩ (abB (m_:=fa) ((hc.into 0).pick ⟨⟨1,rfl⟩,⟨0,rfl⟩,trivial⟩) aAx) I rfl rfl ?_;rintro _ w ⟨rfl,af⟩;refine ⟨_,rfl,fun a I=>?_⟩;have hm:=hc.back 0 af;clear af hc
     refine aP 1 [] [(7,.i Dx)] I fun a I=>wpList_nil (xG _ _ ?_);refine bc [] [(63,.bool (!decide (Dx= 0)))] I fun a I=>bi (I.g rfl) h (fun aqb h=>?_) (fun aqb h=>?_)
     · refine bt [] [(2,.i Dx)] I fun a I=>wp_ret ?_;obtain rfl:=aB h;obtain rfl:=aB S1;refine a6 (ak (ak (a6 (ak (ak ?_)))));refine bn Tryz.results98 I rfl ?_;exact ⟨rfl,hm.aW [] []⟩
     refine wp_skip <| sn _ _ <| ch [] [(56,.i (J.ap (p3+ 1)))] I fun a I=>?_;exact sm _ _ ⟨J.ap (p3+ 1),I.cut,hm.aW [1] [2,3],h⟩
   refine wp_exit <| bx (bx (cw ?_));exact mz _ _ ⟨I.cut,hm,(os h)⟩
 rintro a w ⟨I,hm,bb⟩;subst Vx;have h:=S1;clear S1;dsimp only [J.dZ] at h;refine oy _ _ <| bt [] [(2,.i 0)] I fun a I=>wp_ret ?_;obtain rfl:=aB h;refine bn Tryz.results98 I rfl ?_;exact ⟨rfl,hm.aW [] []⟩
theorem ai7 {W:World} {X:List Nat} {F:Nat} {aK:List J.aN} {r:Int} {ag:aS} {ah:Nat} {M0:List Nat} (hm:au W M0 X W [] [U J.bd ag ah aK]) (h:J.HS F aK=some r) :
 Calls Tryz.prog 73 [.q ag ah aK].toArray W (fun e aD=>e= .returned (.i r)/\au W M0 X aD [] []):=by
 refine enter Tryz.func73 rfl Tryz.ntmps73 rfl fun a I=>?_;rw [J.HS] at h;refine bc [] [] I fun a I=>wp_seq_k fun K bI=>bc [] [(8,.bool (decide (10 <(aK.length:Int))))] I fun a I=>bi (I.g rfl) h (fun k0 h=>?_) (fun k0 h=>?_)
 · refine bt [] [(2,.i 2)] I fun a I=>wp_ret ?_;obtain rfl:=aB h;refine ak <| bn Tryz.results73 I rfl ?_;exact ⟨rfl,hm.aW [] []⟩
 refine wp_skip <| bI _ _ <| wp_seq_k fun K cu=>bt [] [(9,.q ag ah aK),(10,.i (aK.length:Int)),(11,.i 0)] I fun a I=>?_;obtain ⟨rj,h,ra⟩:=J.ef h;refine cb (fun a w=>Fr ⟨21,[]⟩ [] a/\au W M0 X w [] [U J.bd ag ah aK]/\rj=(.go ())) (fun K dt=>?_) ?_
 · refine cA (fun (bu:Nat) a w=>∃ (p':Int),Fr ⟨21,[]⟩ [(9,.q ag ah aK),(10,.i (aK.length:Int)),(11,.i p')] a/\au W M0 X w [] [U J.bd ag ah aK]/\J.x3 F aK bu p'=some rj) F ⟨0,I.cut,hm,h⟩ ?_ ?_
   · rintro a w ⟨p',I,hm,h⟩;exact absurd h (by simp [J.x3])
   rintro bu a w ⟨p',I,hm,h⟩ K cO;rw [J.x3] at h;refine bc [] [(12,.bool (decide (p' <(aK.length:Int))))] I fun a I=>wp_seq_k fun K da=>bi (I.g rfl) h (fun k2 h=>?_) (fun k2 h=>?_)
   · refine wp_skip <| da _ _ <| wp_seq_k fun K dA=>wp_block <| wp_seq_k fun K d_=>aY ?_;obtain ⟨iM,aEj,h⟩:=J.aF h;obtain ⟨anF,ayu,_,⟨l_,mh,qs,qN,rfl,aul,aum⟩,aue⟩:=bZ _ (hm.d 0 rfl) aEj;have hm:=hm.more (y:=U J.aX l_ mh iM.Fields) aul;have hm:=hm.more (y:=U J.b2 qs qN iM.aR) aum;refine bQ wn (bF Tryz.underlying25 Tryz.sizeOf136 rfl (I.g rfl) (I.g rfl) anF ayu) I rfl rfl fun a I=>?_
     refine bf 1 [0,0] [(14,.agg #[ao iM.Name,ao iM.bW,.q l_ mh iM.Fields,.q qs qN iM.aR])] [bG ag,bJ ag+(p').toNat* 4] (aw aue ax) I fun a I=>cy (cs:=[ao [],ao [],.slice none 0 0,.slice none 0 0]) wn (eJ Tryz.zeroValue136 rfl rfl) I hm rfl rfl fun a akG w _ I hm=>cx (vs:=[ao iM.Name,ao iM.bW,.q l_ mh iM.Fields,.q qs qN iM.aR]) 0 hm rfl wn rfl Tryz.sizeOf136 rfl rfl rfl rfl (I.g rfl) (I.g rfl) rfl fun w hm=>wpList_nil <| d_ _ _ <| wp_seq_k fun K dQ=>aY ?_
     refine bf 1 [0,0] [(15,.agg #[ao iM.Name,ao iM.bW,.q l_ mh iM.Fields,.q qs qN iM.aR])] [akG,0] (aw (aZ (hm.e 0 rfl)) ax) I fun a I=>?_;obtain ⟨Dt,azG,h⟩:=J.aF h;have hc:=hm;refine bP (vs:=[.agg #[ao iM.Name,ao iM.bW,.q l_ mh iM.Fields,.q qs qN iM.aR]]) wn rfl Tryz.call98 ⟨(I.g rfl),trivial⟩ (ai8 ((hc.into 0).pick ⟨⟨1,rfl⟩,⟨0,rfl⟩,trivial⟩) azG) I rfl rfl ?_;rintro _ w ⟨rfl,af⟩;refine ⟨_,rfl,fun a I=>?_⟩;have hm:=hc.back 0 af;clear af hc
     refine aP 1 [] [(5,.i Dt)] I fun a I=>wpList_nil (dQ _ _ ?_);refine bc [] [(18,.bool (!decide (Dt= 0)))] I fun a I=>bi (I.g rfl) h (fun aoN h=>?_) (fun aoN h=>?_)
     · refine bt [] [(2,.i Dt)] I fun a I=>wp_ret ?_;obtain rfl:=aB h;obtain rfl:=aB ra;refine a6 (ak (ak (a6 (ak (ak ?_)))));refine bn Tryz.results73 I rfl ?_;exact ⟨rfl,hm.aW [] []⟩
     refine wp_skip <| dA _ _ <| ch [] [(11,.i (J.ap (p'+ 1)))] I fun a I=>?_;exact cO _ _ ⟨J.ap (p'+ 1),I.cut,hm.aW [] [2],h⟩
   refine wp_exit <| bx (bx (cw ?_));exact dt _ _ ⟨I.cut,hm,(os h)⟩
 rintro a w ⟨I,hm,bb⟩;subst rj;have h:=ra;clear ra;dsimp only [J.dZ] at h;refine cu _ _ <| bt [] [(2,.i 0)] I fun a I=>wp_ret ?_;obtain rfl:=aB h;refine bn Tryz.results73 I rfl ?_;exact ⟨rfl,hm.aW [] []⟩
theorem abj {W:World} {X:List Nat} {F:Nat} {m_:J.Method} {r:Int} {ag:aS} {ah:Nat} {aI:aS} {aQ:Nat} {M0:List Nat} (hm:au W M0 X W [] [U J.dx ag ah m_.bD,U J.er aI aQ m_.bH]) (h:J.zj F m_=some r) :
 Calls Tryz.prog 148 [.agg #[ao m_.Name,.bool m_.Static,.q ag ah m_.bD,.i m_.Returns.Kind,ao m_.Returns.aN,.i m_.cT,.i m_.cS,ao m_.Code,.q aI aQ m_.bH]].toArray W (fun e aD=>e= .returned (.i r)/\au W M0 X aD [] []):=by
 refine enter Tryz.func148 rfl Tryz.ntmps148 rfl fun a I=>?_;rw [J.zj] at h;refine wp_seq_k fun K cZ=>aY <| cy (cs:=[ao m_.Name,.bool m_.Static,.q ag ah m_.bD,.i m_.Returns.Kind,ao m_.Returns.aN,.i m_.cT,.i m_.cS,ao m_.Code,.q aI aQ m_.bH]) wn (ei rfl rfl (I.g rfl)) I hm rfl rfl fun a cl w _ I hm=>aP 1 [] [] I fun a I=>wpList_nil (cZ _ _ ?_);refine wp_seq_k fun K bI=>wp_seq_k fun K ca=>aY <| bf 2 [0,0] [(7,ao m_.Name)] [cl,0] (aw (aZ (hm.e 0 rfl)) ax) I fun a I=>?_;obtain ⟨dC,uv,h⟩:=J.aF h;have hc:=hm
 refine bP (vs:=[ao m_.Name]) wn rfl Tryz.call146 ⟨(I.g rfl),trivial⟩ (zA ((hc.into 0).pick trivial) uv) I rfl rfl ?_;rintro _ w ⟨rfl,af⟩;refine ⟨_,rfl,fun a I=>?_⟩;have hm:=hc.back 0 af;clear af hc;refine aP 1 [] [(9,.bool (!dC))] I fun a I=>wpList_nil (ca _ _ ?_);refine bi (I.g rfl) h (fun k1 h=>?_) (fun k1 h=>?_)
 · refine bt [] [(2,.i 1)] I fun a I=>wp_ret ?_;obtain rfl:=aB h;refine ak <| bn Tryz.results148 I rfl ?_;exact ⟨rfl,hm.aW [] []⟩
 refine wp_skip <| bI _ _ <| wp_seq_k fun K cu=>wp_seq_k fun K dL=>eI [0,2,0,0,0,7,0,0,0,0,0,0,8,0,0,0] [(25,.bool (((decide (4 <(m_.bD.length:Int))) || (decide (200 <(m_.Code.length:Int)))) || (decide (4 <(m_.bH.length:Int)))))] [cl,8,cl,7,cl,2] (aw (aZ (hm.e 0 rfl)) ax) I fun a I=>dL _ _ <| bi (I.g rfl) h (fun q7 h=>?_) (fun q7 h=>?_)
 · refine bt [] [(2,.i 2)] I fun a I=>wp_ret ?_;obtain rfl:=aB h;refine ak <| bn Tryz.results148 I rfl ?_;exact ⟨rfl,hm.aW [] []⟩
 refine wp_skip <| cu _ _ <| wp_seq_k fun K cO=>wp_seq_k fun K dp=>aY <| bf 2 [0,5] [(27,.i m_.cT)] [cl,5] (aw (aZ (hm.e 0 rfl)) ax) I fun a I=>?_;obtain ⟨hn,An,h⟩:=J.aF h;have hc:=hm;refine bP (vs:=[.i m_.cT,.i 0,.i 10]) wn rfl Tryz.call41 ⟨(I.g rfl),(cW _ _),(cW _ _),trivial⟩ (oo ((hc.into 0).pick trivial) An) I rfl rfl ?_;rintro _ w ⟨rfl,af⟩;refine ⟨_,rfl,fun a I=>?_⟩;have hm:=hc.back 0 af;clear af hc;refine aP 2 [] [(30,.bool (!hn))] I fun a I=>?_;rcases Bool.eq_false_or_eq_true (!hn) with ga | ga
 · have h:=J.di ga h;have I:=I.b5 30 rfl ga;refine aP 5 [1,1,1,1,1] [(35,.bool true)] I fun a I=>wpList_nil (dp _ _ ?_);refine eN (I.g rfl) rfl <| bt [] [(2,.i 3)] I fun a I=>wp_ret ?_;obtain rfl:=aB h;refine ak <| bn Tryz.results148 I rfl ?_;exact ⟨rfl,hm.aW [] []⟩
 have h:=J.dh ga h;have I:=I.b5 30 rfl ga;refine bf 2 [1,1,0,6] [(32,.i m_.cS)] [cl,6] (aw (aZ (hm.e 0 rfl)) ax) I fun a I=>?_;obtain ⟨dD,uu,h⟩:=J.aF h;have hc:=hm;refine bP (vs:=[.i m_.cS,.i 0,.i 10]) (c1 I rfl rfl rfl rfl) rfl Tryz.call41 ⟨(I.g rfl),(cW _ _),(cW _ _),trivial⟩ (oo ((hc.into 0).pick trivial) uu) I rfl rfl ?_;rintro _ w ⟨rfl,af⟩;refine ⟨_,rfl,fun a I=>?_⟩;have hm:=hc.back 0 af;clear af hc;refine aP 2 [1,1] [(35,.bool (!dD))] I fun a I=>wpList_nil (dp _ _ ?_);refine bi (I.g rfl) h (fun jn h=>?_) (fun jn h=>?_)
 · refine bt [] [(2,.i 3)] I fun a I=>wp_ret ?_;obtain rfl:=aB h;refine ak <| bn Tryz.results148 I rfl ?_;exact ⟨rfl,hm.aW [] []⟩
 refine wp_skip <| cO _ _ <| wp_seq_k fun K d_=>bc [] [(3,.i 0)] I fun a I=>?_;obtain ⟨VM,h,Ti⟩:=J.ef h;refine cb (fun a w=>Fr ⟨98,[]⟩ [(1,.aL cl)] a/\au W M0 X w [aq.bm cl 133 [ao m_.Name,.bool m_.Static,.q ag ah m_.bD,.i m_.Returns.Kind,ao m_.Returns.aN,.i m_.cT,.i m_.cS,ao m_.Code,.q aI aQ m_.bH]] [U J.dx ag ah m_.bD,U J.er aI aQ m_.bH]/\VM=(.go ())) (fun K fx=>?_) ?_
 · refine cA (fun (bu:Nat) a w=>∃ (o0:Int),Fr ⟨98,[]⟩ [(1,.aL cl),(3,.i o0)] a/\au W M0 X w [aq.bm cl 133 [ao m_.Name,.bool m_.Static,.q ag ah m_.bD,.i m_.Returns.Kind,ao m_.Returns.aN,.i m_.cT,.i m_.cS,ao m_.Code,.q aI aQ m_.bH]] [U J.dx ag ah m_.bD,U J.er aI aQ m_.bH]/\J.wI F m_ bu o0=some VM) F ⟨0,I.cut,hm,h⟩ ?_ ?_
   · rintro a w ⟨o0,I,hm,h⟩;exact absurd h (by simp [J.wI])
   rintro bu a w ⟨o0,I,hm,h⟩ K fi;rw [J.wI] at h;refine wp_seq_k fun K gA=>wp_seq_k fun K hf=>eI [0,2] [(40,.bool (decide (o0 <(m_.bD.length:Int))))] [cl,2] (aw (aZ (hm.e 0 rfl)) ax) I fun a I=>hf _ _ <| bi (I.g rfl) h (fun zY h=>?_) (fun zY h=>?_)
   · refine wp_skip <| gA _ _ <| wp_seq_k fun K fy=>wp_block <| wp_seq_k fun K fO=>aY <| bf 3 [0,2] [(44,.q ag ah m_.bD),(45,.i o0)] [cl,2] (aw (aZ (hm.e 0 rfl)) ax) I fun a I=>?_;obtain ⟨DY,aD0,h⟩:=J.aF h;obtain ⟨ang,ax8,_,rfl,atQ⟩:=bZ _ (hm.d 0 rfl) aD0;refine bQ wn (bF Tryz.underlying130 Tryz.sizeOf103 rfl (I.g rfl) (I.g rfl) ang ax8) I rfl rfl fun a I=>bf 1 [0,0] [(47,.agg #[.i DY.Kind,ao DY.aN])] [bG ag,bJ ag+(o0).toNat* 2] (aw atQ ax) I fun a I=>?_;obtain ⟨XK,aBf,h⟩:=J.aF h;have hc:=hm
     refine bP (vs:=[.agg #[.i DY.Kind,ao DY.aN]]) wn rfl Tryz.call147 ⟨(I.g rfl),trivial⟩ (KW ((hc.into 0).pick trivial) aBf) I rfl rfl ?_;rintro _ w ⟨rfl,af⟩;refine ⟨_,rfl,fun a I=>?_⟩;have hm:=hc.back 0 af;clear af hc;refine aP 1 [] [(49,.bool (!XK))] I fun a I=>wpList_nil (fO _ _ ?_);refine bi (I.g rfl) h (fun RC h=>?_) (fun RC h=>?_)
     · refine bt [] [(2,.i 7)] I fun a I=>wp_ret ?_;obtain rfl:=aB h;obtain rfl:=aB Ti;refine a6 (ak (ak (a6 (ak (ak ?_)))));refine bn Tryz.results148 I rfl ?_;exact ⟨rfl,hm.aW [] []⟩
     refine wp_skip <| fy _ _ <| ch [] [(3,.i (J.ap (o0+ 1)))] I fun a I=>?_;exact fi _ _ ⟨J.ap (o0+ 1),I.cut,hm,h⟩
   refine wp_exit <| bx (bx (cw ?_));exact fx _ _ ⟨I.cut,hm,(os h)⟩
 rintro a w ⟨I,hm,bb⟩;subst VM;have h:=Ti;clear Ti;dsimp only [J.dZ] at h;refine d_ _ _ <| wp_seq_k fun K gr=>wp_seq_k fun K gN=>aY <| bf 2 [0,3] [(51,.agg #[.i m_.Returns.Kind,ao m_.Returns.aN])] [cl,3] (aw (aZ (hm.e 0 rfl)) ax) I fun a I=>?_;obtain ⟨m7,Uv,h⟩:=J.aF h;have hc:=hm;refine bP (vs:=[.agg #[.i m_.Returns.Kind,ao m_.Returns.aN]]) wn rfl Tryz.call147 ⟨(I.g rfl),trivial⟩ (KW ((hc.into 0).pick trivial) Uv) I rfl rfl ?_;rintro _ w ⟨rfl,af⟩;refine ⟨_,rfl,fun a I=>?_⟩;have hm:=hc.back 0 af;clear af hc
 refine bf 13 [0,0,0,0,3,0,0,0,0,0,0,4,0,0,0,0] [(65,.bool ((!m7) && ((!decide (m_.Returns.Kind= 0)) || (!decide (m_.Returns.aN= [])))))] [cl,4,cl,3] (aw (aZ (hm.e 0 rfl)) ax) I fun a I=>wpList_nil (gN _ _ ?_);refine bi (I.g rfl) h (fun arm h=>?_) (fun arm h=>?_)
 · refine bt [] [(2,.i 7)] I fun a I=>wp_ret ?_;obtain rfl:=aB h;refine ak <| bn Tryz.results148 I rfl ?_;exact ⟨rfl,hm.aW [] []⟩
 refine wp_skip <| gr _ _ <| wp_seq_k fun K hY=>bc [] [(4,.i 0)] I fun a I=>?_;obtain ⟨U1,h,CS⟩:=J.ef h;refine cb (fun a w=>Fr ⟨98,[]⟩ [] a/\au W M0 X w [aq.bm cl 133 [ao m_.Name,.bool m_.Static,.q ag ah m_.bD,.i m_.Returns.Kind,ao m_.Returns.aN,.i m_.cT,.i m_.cS,ao m_.Code,.q aI aQ m_.bH]] [U J.dx ag ah m_.bD,U J.er aI aQ m_.bH]/\U1=(.go ())) (fun K hv=>?_) ?_
 · refine cA (fun (c4:Nat) a w=>∃ (oS:Int),Fr ⟨98,[]⟩ [(1,.aL cl),(4,.i oS)] a/\au W M0 X w [aq.bm cl 133 [ao m_.Name,.bool m_.Static,.q ag ah m_.bD,.i m_.Returns.Kind,ao m_.Returns.aN,.i m_.cT,.i m_.cS,ao m_.Code,.q aI aQ m_.bH]] [U J.dx ag ah m_.bD,U J.er aI aQ m_.bH]/\J.wJ F m_ c4 oS=some U1) F ⟨0,I.cut,hm,h⟩ ?_ ?_
   · rintro a w ⟨oS,I,hm,h⟩;exact absurd h (by simp [J.wJ])
   rintro c4 a w ⟨oS,I,hm,h⟩ K hx;rw [J.wJ] at h;refine wp_seq_k fun K jz=>wp_seq_k fun K jk=>eI [0,8] [(70,.bool (decide (oS <(m_.bH.length:Int))))] [cl,8] (aw (aZ (hm.e 0 rfl)) ax) I fun a I=>jk _ _ <| bi (I.g rfl) h (fun apn h=>?_) (fun apn h=>?_)
   · refine wp_skip <| jz _ _ <| wp_seq_k fun K mw=>wp_block <| wp_seq_k fun K jA=>aY <| bf 3 [0,8] [(74,.q aI aQ m_.bH),(75,.i oS)] [cl,8] (aw (aZ (hm.e 0 rfl)) ax) I fun a I=>?_;obtain ⟨ju,aCo,h⟩:=J.aF h;obtain ⟨alx,awo,_,rfl,ar7⟩:=bZ _ (hm.d 1 rfl) aCo;refine bQ wn (bF Tryz.underlying131 Tryz.sizeOf150 rfl (I.g rfl) (I.g rfl) alx awo) I rfl rfl fun a I=>bf 1 [0,0] [(77,.agg #[.i ju.From,.i ju.To,.i ju.gX,ao ju.aN])] [bG aI,bJ aI+(oS).toNat* 4] (aw ar7 ax) I fun a I=>?_
     refine cy (cs:=[.i 0,.i 0,.i 0,ao []]) wn (eJ Tryz.zeroValue150 rfl rfl) I hm rfl rfl fun a Lc w _ I hm=>cx (vs:=[.i ju.From,.i ju.To,.i ju.gX,ao ju.aN]) 0 hm rfl wn rfl Tryz.sizeOf150 rfl rfl rfl rfl (I.g rfl) (I.g rfl) rfl fun w hm=>wpList_nil <| jA _ _ <| wp_seq_k fun K jB=>wp_seq_k fun K j_=>aY <| bf 2 [0,3] [(79,ao ju.aN)] [Lc,3] (aw (aZ (hm.e 0 rfl)) ax) I fun a I=>?_;obtain ⟨W',az5,h⟩:=J.aF h;have hc:=hm
     refine bP (vs:=[ao ju.aN]) wn rfl Tryz.call146 ⟨(I.g rfl),trivial⟩ (zA ((hc.into 0).pick trivial) az5) I rfl rfl ?_;rintro _ w ⟨rfl,af⟩;refine ⟨_,rfl,fun a I=>?_⟩;have hm:=hc.back 0 af;clear af hc;refine aP 1 [] [(81,.bool (!W'))] I fun a I=>wpList_nil (j_ _ _ ?_);refine bi (I.g rfl) h (fun apv h=>?_) (fun apv h=>?_)
     · refine bt [] [(2,.i 1)] I fun a I=>wp_ret ?_;obtain rfl:=aB h;obtain rfl:=aB CS;refine ak (a6 (ak (ak (a6 (ak (ak ?_))))));refine bn Tryz.results148 I rfl ?_;exact ⟨rfl,hm.aW [] []⟩
     refine wp_skip <| jB _ _ <| wp_seq_k fun K nv=>aY <| bf 2 [0,0] [(83,.i ju.From)] [Lc,0] (aw (aZ (hm.e 0 rfl)) ax) I fun a I=>?_;obtain ⟨MW,az7,h⟩:=J.aF h;have hc:=hm;refine bP (vs:=[.i ju.From,.i 0,.i 200]) wn rfl Tryz.call41 ⟨(I.g rfl),(cW _ _),(cW _ _),trivial⟩ (oo ((hc.into 0).pick trivial) az7) I rfl rfl ?_;rintro _ w ⟨rfl,af⟩;refine ⟨_,rfl,fun a I=>?_⟩;have hm:=hc.back 0 af;clear af hc;refine aP 2 [] [(86,.bool (!MW))] I fun a I=>?_;rcases Bool.eq_false_or_eq_true (!MW) with Gp | Gp
     · have h:=J.di Gp h;have I:=I.b5 86 rfl Gp;refine aP 11 [1,1,1,1,1,1,1,1,1,1] [(97,.bool true)] I fun a I=>wpList_nil (nv _ _ ?_);refine eN (I.g rfl) rfl <| bt [] [(2,.i 3)] I fun a I=>wp_ret ?_;obtain rfl:=aB h;obtain rfl:=aB CS;refine a6 (ak (ak (a6 (ak (ak ?_)))));refine bn Tryz.results148 I rfl ?_;exact ⟨rfl,hm.aW [] []⟩
     have h:=J.dh Gp h;have I:=I.b5 86 rfl Gp;refine bf 2 [1,1,0,1] [(88,.i ju.To)] [Lc,1] (aw (aZ (hm.e 0 rfl)) ax) I fun a I=>?_;obtain ⟨MX,az8,h⟩:=J.aF h;have hc:=hm;refine bP (vs:=[.i ju.To,.i 0,.i 200]) (c1 I rfl rfl rfl rfl) rfl Tryz.call41 ⟨(I.g rfl),(cW _ _),(cW _ _),trivial⟩ (oo ((hc.into 0).pick trivial) az8) I rfl rfl ?_;rintro _ w ⟨rfl,af⟩;refine ⟨_,rfl,fun a I=>?_⟩;have hm:=hc.back 0 af;clear af hc;refine aP 3 [1,1] [(92,.bool (!MX))] I fun a I=>?_;rcases Bool.eq_false_or_eq_true (!MX) with Gq | Gq
     · have h:=J.di Gq h;have I:=I.b5 92 rfl Gq;refine aP 5 [1,1,1,1,1] [(97,.bool true)] I fun a I=>wpList_nil (nv _ _ ?_);refine eN (I.g rfl) rfl <| bt [] [(2,.i 3)] I fun a I=>wp_ret ?_;obtain rfl:=aB h;obtain rfl:=aB CS;refine a6 (ak (ak (a6 (ak (ak ?_)))));refine bn Tryz.results148 I rfl ?_;exact ⟨rfl,hm.aW [] []⟩
     have h:=J.dh Gq h;have I:=I.b5 92 rfl Gq;refine bf 2 [1,1,0,2] [(94,.i ju.gX)] [Lc,2] (aw (aZ (hm.e 0 rfl)) ax) I fun a I=>?_;obtain ⟨Xa,az_,h⟩:=J.aF h;have hc:=hm;refine bP (vs:=[.i ju.gX,.i 0,.i 200]) (c1 I rfl rfl rfl rfl) rfl Tryz.call41 ⟨(I.g rfl),(cW _ _),(cW _ _),trivial⟩ (oo ((hc.into 0).pick trivial) az_) I rfl rfl ?_;rintro _ w ⟨rfl,af⟩;refine ⟨_,rfl,fun a I=>?_⟩;have hm:=hc.back 0 af;clear af hc;refine aP 2 [1,1] [(97,.bool (!Xa))] I fun a I=>wpList_nil (nv _ _ ?_);refine bi (I.g rfl) h (fun apz h=>?_) (fun apz h=>?_)
     · refine bt [] [(2,.i 3)] I fun a I=>wp_ret ?_;obtain rfl:=aB h;obtain rfl:=aB CS;refine a6 (ak (ak (a6 (ak (ak ?_)))));refine bn Tryz.results148 I rfl ?_;exact ⟨rfl,hm.aW [] []⟩
     refine wp_skip <| mw _ _ <| ch [] [(4,.i (J.ap (oS+ 1)))] I fun a I=>?_;exact hx _ _ ⟨J.ap (oS+ 1),I.cut,(hm.kr [1] rfl rfl),h⟩
   refine wp_exit <| bx (bx (cw ?_));exact hv _ _ ⟨I.cut,hm,(os h)⟩
 rintro a w ⟨I,hm,bb⟩;subst U1;have h:=CS;clear CS;dsimp only [J.dZ] at h;refine hY _ _ <| bt [] [(2,.i 0)] I fun a I=>wp_ret ?_;obtain rfl:=aB h;refine bn Tryz.results148 I rfl ?_;exact ⟨rfl,hm.aW [] []⟩
theorem aiD {W:World} {X:List Nat} {F:Nat} {aK:List J.aN} {r:Int} {ag:aS} {ah:Nat} {M0:List Nat} (hm:au W M0 X W [] [U J.bd ag ah aK]) (h:J.EW F aK=some r) :
 Calls Tryz.prog 135 [.q ag ah aK].toArray W (fun e aD=>e= .returned (.i r)/\au W M0 X aD [] []):=by
 refine enter Tryz.func135 rfl Tryz.ntmps135 rfl fun a I=>?_;rw [J.EW] at h;refine bc [] [] I fun a I=>wp_seq_k fun K bI=>bc [] [(10,.bool (decide (10 <(aK.length:Int))))] I fun a I=>bi (I.g rfl) h (fun k0 h=>?_) (fun k0 h=>?_)
 · refine bt [] [(2,.i 2)] I fun a I=>wp_ret ?_;obtain rfl:=aB h;refine ak <| bn Tryz.results135 I rfl ?_;exact ⟨rfl,hm.aW [] []⟩
 refine wp_skip <| bI _ _ <| wp_seq_k fun K cu=>bc [] [(3,.i 0)] I fun a I=>?_;obtain ⟨Vo,h,po⟩:=J.ef h;refine cb (fun a w=>Fr ⟨85,[]⟩ [] a/\au W M0 X w [] [U J.bd ag ah aK]/\Vo=(.go ())) (fun K dt=>?_) ?_
 · refine cA (fun (bu:Nat) a w=>∃ (iW:Int),Fr ⟨85,[]⟩ [(0,.q ag ah aK),(3,.i iW)] a/\au W M0 X w [] [U J.bd ag ah aK]/\J.wh F aK bu iW=some Vo) F ⟨0,I.cut,hm,h⟩ ?_ ?_
   · rintro a w ⟨iW,I,hm,h⟩;exact absurd h (by simp [J.wh])
   rintro bu a w ⟨iW,I,hm,h⟩ K cO;rw [J.wh] at h;refine wp_seq_k fun K dp=>bc [] [(14,.bool (decide (iW <(aK.length:Int))))] I fun a I=>bi (I.g rfl) h (fun aqs h=>?_) (fun aqs h=>?_)
   · refine wp_skip <| dp _ _ <| wp_seq_k fun K dA=>?_;obtain ⟨aeF,h,pq⟩:=J.e3 h;refine cb (fun a w=>Fr ⟨85,[]⟩ [(0,.q ag ah aK),(3,.i iW)] a/\au W M0 X w [] [U J.bd ag ah aK]/\aeF=(.go ())) (fun K d_=>?_) ?_
     · refine wp_seq_k fun K dQ=>aY <| aP 2 [] [(17,.q ag ah aK),(18,.i iW)] I fun a I=>?_;obtain ⟨cz,aDo,h⟩:=J.aF h;obtain ⟨amD,axu,_,⟨gW,iw,hU,ji,rfl,au6,au7⟩,atc⟩:=bZ _ (hm.d 0 rfl) aDo;have hm:=hm.more (y:=U J.aX gW iw cz.Fields) au6;have hm:=hm.more (y:=U J.b2 hU ji cz.aR) au7;refine bQ wn (bF Tryz.underlying25 Tryz.sizeOf136 rfl (I.g rfl) (I.g rfl) amD axu) I rfl rfl fun a I=>?_
       refine bf 1 [0,0] [(20,.agg #[ao cz.Name,ao cz.bW,.q gW iw cz.Fields,.q hU ji cz.aR])] [bG ag,bJ ag+(iW).toNat* 4] (aw atc ax) I fun a I=>cy (cs:=[ao [],ao [],.slice none 0 0,.slice none 0 0]) wn (eJ Tryz.zeroValue136 rfl rfl) I hm rfl rfl fun a g2 w _ I hm=>cx (vs:=[ao cz.Name,ao cz.bW,.q gW iw cz.Fields,.q hU ji cz.aR]) 0 hm rfl wn rfl Tryz.sizeOf136 rfl rfl rfl rfl (I.g rfl) (I.g rfl) rfl fun w hm=>wpList_nil <| dQ _ _ <| wp_seq_k fun K fx=>?_
       refine wp_seq_k fun K fi=>aY <| bf 2 [0,0] [(22,ao cz.Name)] [g2,0] (aw (aZ (hm.e 0 rfl)) ax) I fun a I=>?_;obtain ⟨M8,aAP,h⟩:=J.aF h;have hc:=hm;refine bP (vs:=[ao cz.Name]) wn rfl Tryz.call146 ⟨(I.g rfl),trivial⟩ (zA ((hc.into 0).pick trivial) aAP) I rfl rfl ?_;rintro _ w ⟨rfl,af⟩;refine ⟨_,rfl,fun a I=>?_⟩;have hm:=hc.back 0 af;clear af hc;refine aP 2 [] [(25,.bool (!M8))] I fun a I=>?_;rcases Bool.eq_false_or_eq_true (!M8) with GN | GN
       · have h:=J.di GN h;have I:=I.b5 25 rfl GN;refine aP 10 [1,1,1,1,1,1,1,1,1,1] [(35,.bool true)] I fun a I=>wpList_nil (fi _ _ ?_);refine eN (I.g rfl) rfl <| bt [] [(2,.i 1)] I fun a I=>wp_ret ?_;obtain rfl:=aB h;obtain rfl:=aB pq;obtain rfl:=aB po;refine ak (a6 (ak (ak (ak (a6 (ak (ak ?_)))))));refine bn Tryz.results135 I rfl ?_;exact ⟨rfl,hm.aW [] []⟩
       have h:=J.dh GN h;have I:=I.b5 25 rfl GN;refine bf 4 [1,1,0,1,1,1] [(29,.bool (!decide (cz.bW= [])))] [g2,1] (aw (aZ (hm.e 0 rfl)) ax) I fun a I=>?_;rcases Bool.eq_false_or_eq_true (!decide (cz.bW= [])) with GO | GO
       · have h:=J.di GO h;have I:=I.b5 29 rfl GO;refine bf 2 [1,1,0,1] [(31,ao cz.bW)] [g2,1] (aw (aZ (hm.e 0 rfl)) ax) I fun a I=>?_;obtain ⟨Xw,aAQ,h⟩:=J.aF h;have hc:=hm;refine bP (vs:=[ao cz.bW]) (c1 I rfl rfl rfl rfl) rfl Tryz.call146 ⟨(I.g rfl),trivial⟩ (zA ((hc.into 0).pick trivial) aAQ) I rfl rfl ?_;rintro _ w ⟨rfl,af⟩;refine ⟨_,rfl,fun a I=>?_⟩;have hm:=hc.back 0 af;clear af hc;refine aP 3 [1,1,1,1] [(35,.bool (!Xw))] I fun a I=>wpList_nil (fi _ _ ?_);refine bi (I.g rfl) h (fun aqz h=>?_) (fun aqz h=>?_)
         · refine bt [] [(2,.i 1)] I fun a I=>wp_ret ?_;obtain rfl:=aB h;obtain rfl:=aB pq;obtain rfl:=aB po;refine ak (a6 (ak (ak (ak (a6 (ak (ak ?_)))))));refine bn Tryz.results135 I rfl ?_;exact ⟨rfl,hm.aW [] []⟩
         refine wp_skip <| fx _ _ <| wp_seq_k fun K fy=>wp_seq_k fun K fO=>eI [0,2,0,0,0,3,0,0,0] [(45,.bool ((decide (6 <(cz.Fields.length:Int))) || (decide (8 <(cz.aR.length:Int)))))] [g2,3,g2,2] (aw (aZ (hm.e 0 rfl)) ax) I fun a I=>fO _ _ <| bi (I.g rfl) h (fun aqA h=>?_) (fun aqA h=>?_)
         · refine bt [] [(2,.i 2)] I fun a I=>wp_ret ?_;obtain rfl:=aB h;obtain rfl:=aB pq;obtain rfl:=aB po;refine ak (a6 (ak (ak (ak (a6 (ak (ak ?_)))))));refine bn Tryz.results135 I rfl ?_;exact ⟨rfl,hm.aW [] []⟩
         refine wp_skip <| fy _ _ <| wp_seq_k fun K gr=>bc [] [(5,.i 0)] I fun a I=>?_;obtain ⟨VQ,h,LI⟩:=J.e3 h;refine cb (fun a w=>Fr ⟨85,[]⟩ [(0,.q ag ah aK),(3,.i iW),(4,.aL g2)] a/\au W M0 X w [aq.bm g2 136 [ao cz.Name,ao cz.bW,.q gW iw cz.Fields,.q hU ji cz.aR]] [U J.b2 hU ji cz.aR,U J.aX gW iw cz.Fields,U J.bd ag ah aK]/\VQ=(.go ())) (fun K hG=>?_) ?_
         · refine cA (fun (c4:Nat) a w=>∃ (lX:Int),Fr ⟨85,[]⟩ [(0,.q ag ah aK),(3,.i iW),(4,.aL g2),(5,.i lX)] a/\au W M0 X w [aq.bm g2 136 [ao cz.Name,ao cz.bW,.q gW iw cz.Fields,.q hU ji cz.aR]] [U J.b2 hU ji cz.aR,U J.aX gW iw cz.Fields,U J.bd ag ah aK]/\J.wi F cz c4 lX=some VQ) F ⟨0,I.cut,hm,h⟩ ?_ ?_
           · rintro a w ⟨lX,I,hm,h⟩;exact absurd h (by simp [J.wi])
           rintro c4 a w ⟨lX,I,hm,h⟩ K hY;rw [J.wi] at h;refine wp_seq_k fun K ht=>wp_seq_k fun K hv=>eI [0,2] [(50,.bool (decide (lX <(cz.Fields.length:Int))))] [g2,2] (aw (aZ (hm.e 0 rfl)) ax) I fun a I=>hv _ _ <| bi (I.g rfl) h (fun aqD h=>?_) (fun aqD h=>?_)
           · refine wp_skip <| ht _ _ <| wp_seq_k fun K hx=>wp_block <| wp_seq_k fun K jz=>wp_seq_k fun K jk=>aY <| bf 3 [0,2] [(54,.q gW iw cz.Fields),(55,.i lX)] [g2,2] (aw (aZ (hm.e 0 rfl)) ax) I fun a I=>?_;obtain ⟨Og,aDs,h⟩:=J.aF h;obtain ⟨amG,axx,_,rfl,atf⟩:=bZ _ (hm.d 1 rfl) aDs;refine bQ wn (bF Tryz.underlying106 Tryz.sizeOf105 rfl (I.g rfl) (I.g rfl) amG axx) I rfl rfl fun a I=>bf 2 [0,0] [(58,ao Og.Name)] [bG gW,bJ gW+(lX).toNat* 3 + 0] (aw atf ax) I fun a I=>?_;obtain ⟨Xy,aAU,h⟩:=J.aF h;have hc:=hm
             refine bP (vs:=[ao Og.Name]) wn rfl Tryz.call146 ⟨(I.g rfl),trivial⟩ (zA ((hc.into 0).pick trivial) aAU) I rfl rfl ?_;rintro _ w ⟨rfl,af⟩;refine ⟨_,rfl,fun a I=>?_⟩;have hm:=hc.back 0 af;clear af hc;refine aP 1 [] [(60,.bool (!Xy))] I fun a I=>wpList_nil (jk _ _ ?_);refine bi (I.g rfl) h (fun aqF h=>?_) (fun aqF h=>?_)
             · refine bt [] [(2,.i 1)] I fun a I=>wp_ret ?_;obtain rfl:=aB h;obtain rfl:=aB LI;obtain rfl:=aB pq;obtain rfl:=aB po;refine ak (a6 (ak (ak (a6 (ak (ak (a6 (ak (ak (ak (a6 (ak (ak ?_)))))))))))));refine bn Tryz.results135 I rfl ?_;exact ⟨rfl,hm.aW [] []⟩
             refine wp_skip <| jz _ _ <| wp_seq_k fun K jA=>aY <| bf 3 [0,2] [(62,.q gW iw cz.Fields),(63,.i lX)] [g2,2] (aw (aZ (hm.e 0 rfl)) ax) I fun a I=>?_;obtain ⟨Ba,aDt,h⟩:=J.aF h;obtain ⟨amH,axy,_,rfl,atg⟩:=bZ _ (hm.d 1 rfl) aDt;refine bQ wn (bF Tryz.underlying106 Tryz.sizeOf105 rfl (I.g rfl) (I.g rfl) amH axy) I rfl rfl fun a I=>bf 2 [0,1] [(66,.agg #[.i Ba.Kind.Kind,ao Ba.Kind.aN])] [bG gW,bJ gW+(lX).toNat* 3 + 1] (aw atg ax) I fun a I=>?_;obtain ⟨Xz,aAV,h⟩:=J.aF h;have hc:=hm
             refine bP (vs:=[.agg #[.i Ba.Kind.Kind,ao Ba.Kind.aN]]) wn rfl Tryz.call147 ⟨(I.g rfl),trivial⟩ (KW ((hc.into 0).pick trivial) aAV) I rfl rfl ?_;rintro _ w ⟨rfl,af⟩;refine ⟨_,rfl,fun a I=>?_⟩;have hm:=hc.back 0 af;clear af hc;refine aP 1 [] [(68,.bool (!Xz))] I fun a I=>wpList_nil (jA _ _ ?_);refine bi (I.g rfl) h (fun aqG h=>?_) (fun aqG h=>?_)
             · refine bt [] [(2,.i 7)] I fun a I=>wp_ret ?_;obtain rfl:=aB h;obtain rfl:=aB LI;obtain rfl:=aB pq;obtain rfl:=aB po;refine a6 (ak (ak (a6 (ak (ak (a6 (ak (ak (ak (a6 (ak (ak ?_))))))))))));refine bn Tryz.results135 I rfl ?_;exact ⟨rfl,hm.aW [] []⟩
             refine wp_skip <| hx _ _ <| ch [] [(5,.i (J.ap (lX+ 1)))] I fun a I=>?_;exact hY _ _ ⟨J.ap (lX+ 1),I.cut,hm,h⟩
           refine wp_exit <| bx (bx (cw ?_));exact hG _ _ ⟨I.cut,hm,(os h)⟩
         rintro a w ⟨I,hm,bb⟩;subst VQ;have h:=LI;clear LI;dsimp only [J.eV] at h;refine gr _ _ <| bc [] [(6,.i 0)] I fun a I=>?_;obtain ⟨VR,h,Tn⟩:=J.e3 h;refine cb (fun a w=>Fr ⟨85,[]⟩ [(0,.q ag ah aK),(3,.i iW)] a/\au W M0 X w [aq.bm g2 136 [ao cz.Name,ao cz.bW,.q gW iw cz.Fields,.q hU ji cz.aR]] [U J.b2 hU ji cz.aR,U J.aX gW iw cz.Fields,U J.bd ag ah aK]/\VR=(.go ())) (fun K j'=>?_) ?_
         · refine cA (fun (eB:Nat) a w=>∃ (oX:Int),Fr ⟨85,[]⟩ [(0,.q ag ah aK),(3,.i iW),(4,.aL g2),(6,.i oX)] a/\au W M0 X w [aq.bm g2 136 [ao cz.Name,ao cz.bW,.q gW iw cz.Fields,.q hU ji cz.aR]] [U J.b2 hU ji cz.aR,U J.aX gW iw cz.Fields,U J.bd ag ah aK]/\J.wj F cz eB oX=some VR) F ⟨0,I.cut,hm,h⟩ ?_ ?_
           · rintro a w ⟨oX,I,hm,h⟩;exact absurd h (by simp [J.wj])
           rintro eB a w ⟨oX,I,hm,h⟩ K nv;rw [J.wj] at h;refine wp_seq_k fun K ow=>wp_seq_k fun K lI=>eI [0,3] [(73,.bool (decide (oX <(cz.aR.length:Int))))] [g2,3] (aw (aZ (hm.e 0 rfl)) ax) I fun a I=>lI _ _ <| bi (I.g rfl) h (fun aqH h=>?_) (fun aqH h=>?_)
           · refine wp_skip <| ow _ _ <| wp_seq_k fun K ox=>wp_block <| wp_seq_k fun K lJ=>aY <| bf 3 [0,3] [(77,.q hU ji cz.aR),(78,.i oX)] [g2,3] (aw (aZ (hm.e 0 rfl)) ax) I fun a I=>?_;obtain ⟨jb,aDw,h⟩:=J.aF h;obtain ⟨amK,axA,_,⟨PF,Qh,PG,Qi,rfl,ava,avb⟩,ati⟩:=bZ _ (hm.d 0 rfl) aDw;have hm:=hm.more (y:=U J.dx PF Qh jb.bD) ava;have hm:=hm.more (y:=U J.er PG Qi jb.bH) avb
             refine bQ wn (bF Tryz.underlying134 Tryz.sizeOf133 rfl (I.g rfl) (I.g rfl) amK axA) I rfl rfl fun a I=>bf 1 [0,0] [(80,.agg #[ao jb.Name,.bool jb.Static,.q PF Qh jb.bD,.i jb.Returns.Kind,ao jb.Returns.aN,.i jb.cT,.i jb.cS,ao jb.Code,.q PG Qi jb.bH])] [bG hU,bJ hU+(oX).toNat* 9] (aw ati ax) I fun a I=>?_;obtain ⟨Dz,aAW,h⟩:=J.aF h;have hc:=hm
             refine bP (vs:=[.agg #[ao jb.Name,.bool jb.Static,.q PF Qh jb.bD,.i jb.Returns.Kind,ao jb.Returns.aN,.i jb.cT,.i jb.cS,ao jb.Code,.q PG Qi jb.bH]]) wn rfl Tryz.call148 ⟨(I.g rfl),trivial⟩ (abj ((hc.into 0).pick ⟨⟨1,rfl⟩,⟨0,rfl⟩,trivial⟩) aAW) I rfl rfl ?_;rintro _ w ⟨rfl,af⟩;refine ⟨_,rfl,fun a I=>?_⟩;have hm:=hc.back 0 af;clear af hc;refine aP 1 [] [(7,.i Dz)] I fun a I=>wpList_nil (lJ _ _ ?_);refine bc [] [(83,.bool (!decide (Dz= 0)))] I fun a I=>?_
             refine bi (I.g rfl) h (fun aqI h=>?_) (fun aqI h=>?_)
             · refine bt [] [(2,.i Dz)] I fun a I=>wp_ret ?_;obtain rfl:=aB h;obtain rfl:=aB Tn;obtain rfl:=aB pq;obtain rfl:=aB po;refine a6 (ak (ak (a6 (ak (a6 (ak (ak (ak (a6 (ak (ak ?_)))))))))));refine bn Tryz.results135 I rfl ?_;exact ⟨rfl,hm.aW [] []⟩
             refine wp_skip <| ox _ _ <| ch [] [(6,.i (J.ap (oX+ 1)))] I fun a I=>?_;exact nv _ _ ⟨J.ap (oX+ 1),I.cut,hm.ec [2,3,4],h⟩
           refine wp_exit <| bx (bx (cw ?_));exact j' _ _ ⟨I.cut,hm,(os h)⟩
         rintro a w ⟨I,hm,bb⟩;subst VR;have h:=Tn;clear Tn;dsimp only [J.eV] at h;exact d_ _ _ ⟨I.cut,hm.aW [] [2],(os h)⟩
       have h:=J.dh GO h;have I:=I.b5 29 rfl GO;refine aP 6 [1,1,1,1,1,1,1] [(35,.bool false)] I fun a I=>wpList_nil (fi _ _ ?_);refine ij (I.g rfl) rfl <| wp_skip <| fx _ _ <| wp_seq_k fun K zO=>wp_seq_k fun K my=>eI [0,2,0,0,0,3,0,0,0] [(45,.bool ((decide (6 <(cz.Fields.length:Int))) || (decide (8 <(cz.aR.length:Int)))))] [g2,3,g2,2] (aw (aZ (hm.e 0 rfl)) ax) I fun a I=>my _ _ <| bi (I.g rfl) h (fun aqJ h=>?_) (fun aqJ h=>?_)
       · refine bt [] [(2,.i 2)] I fun a I=>wp_ret ?_;obtain rfl:=aB h;obtain rfl:=aB pq;obtain rfl:=aB po;refine ak (a6 (ak (ak (ak (a6 (ak (ak ?_)))))));refine bn Tryz.results135 I rfl ?_;exact ⟨rfl,hm.aW [] []⟩
       refine wp_skip <| zO _ _ <| wp_seq_k fun K q3=>bc [] [(5,.i 0)] I fun a I=>?_;obtain ⟨VT,h,LJ⟩:=J.e3 h;refine cb (fun a w=>Fr ⟨85,[]⟩ [(0,.q ag ah aK),(3,.i iW),(4,.aL g2)] a/\au W M0 X w [aq.bm g2 136 [ao cz.Name,ao cz.bW,.q gW iw cz.Fields,.q hU ji cz.aR]] [U J.b2 hU ji cz.aR,U J.aX gW iw cz.Fields,U J.bd ag ah aK]/\VT=(.go ())) (fun K oz=>?_) ?_
       · refine cA (fun (fB:Nat) a w=>∃ (lY:Int),Fr ⟨85,[]⟩ [(0,.q ag ah aK),(3,.i iW),(4,.aL g2),(5,.i lY)] a/\au W M0 X w [aq.bm g2 136 [ao cz.Name,ao cz.bW,.q gW iw cz.Fields,.q hU ji cz.aR]] [U J.b2 hU ji cz.aR,U J.aX gW iw cz.Fields,U J.bd ag ah aK]/\J.wk F cz fB lY=some VT) F ⟨0,I.cut,hm,h⟩ ?_ ?_
         · rintro a w ⟨lY,I,hm,h⟩;exact absurd h (by simp [J.wk])
         rintro fB a w ⟨lY,I,hm,h⟩ K mz;rw [J.wk] at h;refine wp_seq_k fun K sm=>wp_seq_k fun K tT=>eI [0,2] [(50,.bool (decide (lY <(cz.Fields.length:Int))))] [g2,2] (aw (aZ (hm.e 0 rfl)) ax) I fun a I=>tT _ _ <| bi (I.g rfl) h (fun aqK h=>?_) (fun aqK h=>?_)
         · refine wp_skip <| sm _ _ <| wp_seq_k fun K tU=>wp_block <| wp_seq_k fun K sn=>wp_seq_k fun K tV=>aY <| bf 3 [0,2] [(54,.q gW iw cz.Fields),(55,.i lY)] [g2,2] (aw (aZ (hm.e 0 rfl)) ax) I fun a I=>?_;obtain ⟨Oi,aDy,h⟩:=J.aF h;obtain ⟨amM,axC,_,rfl,atj⟩:=bZ _ (hm.d 1 rfl) aDy;refine bQ wn (bF Tryz.underlying106 Tryz.sizeOf105 rfl (I.g rfl) (I.g rfl) amM axC) I rfl rfl fun a I=>bf 2 [0,0] [(58,ao Oi.Name)] [bG gW,bJ gW+(lY).toNat* 3 + 0] (aw atj ax) I fun a I=>?_;obtain ⟨XB,aAY,h⟩:=J.aF h;have hc:=hm
           refine bP (vs:=[ao Oi.Name]) wn rfl Tryz.call146 ⟨(I.g rfl),trivial⟩ (zA ((hc.into 0).pick trivial) aAY) I rfl rfl ?_;rintro _ w ⟨rfl,af⟩;refine ⟨_,rfl,fun a I=>?_⟩;have hm:=hc.back 0 af;clear af hc;refine aP 1 [] [(60,.bool (!XB))] I fun a I=>wpList_nil (tV _ _ ?_);refine bi (I.g rfl) h (fun aqL h=>?_) (fun aqL h=>?_)
           · refine bt [] [(2,.i 1)] I fun a I=>wp_ret ?_;obtain rfl:=aB h;obtain rfl:=aB LJ;obtain rfl:=aB pq;obtain rfl:=aB po;refine ak (a6 (ak (ak (a6 (ak (ak (a6 (ak (ak (ak (a6 (ak (ak ?_)))))))))))));refine bn Tryz.results135 I rfl ?_;exact ⟨rfl,hm.aW [] []⟩
           refine wp_skip <| sn _ _ <| wp_seq_k fun K tW=>aY <| bf 3 [0,2] [(62,.q gW iw cz.Fields),(63,.i lY)] [g2,2] (aw (aZ (hm.e 0 rfl)) ax) I fun a I=>?_;obtain ⟨Bb,aDz,h⟩:=J.aF h;obtain ⟨amN,axD,_,rfl,atk⟩:=bZ _ (hm.d 1 rfl) aDz;refine bQ wn (bF Tryz.underlying106 Tryz.sizeOf105 rfl (I.g rfl) (I.g rfl) amN axD) I rfl rfl fun a I=>bf 2 [0,1] [(66,.agg #[.i Bb.Kind.Kind,ao Bb.Kind.aN])] [bG gW,bJ gW+(lY).toNat* 3 + 1] (aw atk ax) I fun a I=>?_;obtain ⟨XC,aAZ,h⟩:=J.aF h;have hc:=hm
           refine bP (vs:=[.agg #[.i Bb.Kind.Kind,ao Bb.Kind.aN]]) wn rfl Tryz.call147 ⟨(I.g rfl),trivial⟩ (KW ((hc.into 0).pick trivial) aAZ) I rfl rfl ?_;rintro _ w ⟨rfl,af⟩;refine ⟨_,rfl,fun a I=>?_⟩;have hm:=hc.back 0 af;clear af hc;refine aP 1 [] [(68,.bool (!XC))] I fun a I=>wpList_nil (tW _ _ ?_);refine bi (I.g rfl) h (fun aqM h=>?_) (fun aqM h=>?_)
           · refine bt [] [(2,.i 7)] I fun a I=>wp_ret ?_;obtain rfl:=aB h;obtain rfl:=aB LJ;obtain rfl:=aB pq;obtain rfl:=aB po;refine a6 (ak (ak (a6 (ak (ak (a6 (ak (ak (ak (a6 (ak (ak ?_))))))))))));refine bn Tryz.results135 I rfl ?_;exact ⟨rfl,hm.aW [] []⟩
           refine wp_skip <| tU _ _ <| ch [] [(5,.i (J.ap (lY+ 1)))] I fun a I=>?_;exact mz _ _ ⟨J.ap (lY+ 1),I.cut,hm,h⟩
         refine wp_exit <| bx (bx (cw ?_));exact oz _ _ ⟨I.cut,hm,(os h)⟩
       rintro a w ⟨I,hm,bb⟩;subst VT;have h:=LJ;clear LJ;dsimp only [J.eV] at h;refine q3 _ _ <| bc [] [(6,.i 0)] I fun a I=>?_;obtain ⟨VV,h,Tr⟩:=J.e3 h;refine cb (fun a w=>Fr ⟨85,[]⟩ [(0,.q ag ah aK),(3,.i iW)] a/\au W M0 X w [aq.bm g2 136 [ao cz.Name,ao cz.bW,.q gW iw cz.Fields,.q hU ji cz.aR]] [U J.b2 hU ji cz.aR,U J.aX gW iw cz.Fields,U J.bd ag ah aK]/\VV=(.go ())) (fun K xH=>?_) ?_
       · refine cA (fun (h1:Nat) a w=>∃ (oY:Int),Fr ⟨85,[]⟩ [(0,.q ag ah aK),(3,.i iW),(4,.aL g2),(6,.i oY)] a/\au W M0 X w [aq.bm g2 136 [ao cz.Name,ao cz.bW,.q gW iw cz.Fields,.q hU ji cz.aR]] [U J.b2 hU ji cz.aR,U J.aX gW iw cz.Fields,U J.bd ag ah aK]/\J.wl F cz h1 oY=some VV) F ⟨0,I.cut,hm,h⟩ ?_ ?_
         · rintro a w ⟨oY,I,hm,h⟩;exact absurd h (by simp [J.wl])
         rintro h1 a w ⟨oY,I,hm,h⟩ K zP;rw [J.wl] at h;refine wp_seq_k fun K tX=>wp_seq_k fun K aoo=>eI [0,3] [(73,.bool (decide (oY <(cz.aR.length:Int))))] [g2,3] (aw (aZ (hm.e 0 rfl)) ax) I fun a I=>aoo _ _ <| bi (I.g rfl) h (fun aqQ h=>?_) (fun aqQ h=>?_)
         · refine wp_skip <| tX _ _ <| wp_seq_k fun K zQ=>wp_block <| wp_seq_k fun K xI=>aY <| bf 3 [0,3] [(77,.q hU ji cz.aR),(78,.i oY)] [g2,3] (aw (aZ (hm.e 0 rfl)) ax) I fun a I=>?_;obtain ⟨jc,aDA,h⟩:=J.aF h;obtain ⟨amP,axF,_,⟨PH,Qj,PI,Qk,rfl,ave,avf⟩,atm⟩:=bZ _ (hm.d 0 rfl) aDA;have hm:=hm.more (y:=U J.dx PH Qj jc.bD) ave;have hm:=hm.more (y:=U J.er PI Qk jc.bH) avf
           refine bQ wn (bF Tryz.underlying134 Tryz.sizeOf133 rfl (I.g rfl) (I.g rfl) amP axF) I rfl rfl fun a I=>bf 1 [0,0] [(80,.agg #[ao jc.Name,.bool jc.Static,.q PH Qj jc.bD,.i jc.Returns.Kind,ao jc.Returns.aN,.i jc.cT,.i jc.cS,ao jc.Code,.q PI Qk jc.bH])] [bG hU,bJ hU+(oY).toNat* 9] (aw atm ax) I fun a I=>?_;obtain ⟨DA,aA1,h⟩:=J.aF h;have hc:=hm
           refine bP (vs:=[.agg #[ao jc.Name,.bool jc.Static,.q PH Qj jc.bD,.i jc.Returns.Kind,ao jc.Returns.aN,.i jc.cT,.i jc.cS,ao jc.Code,.q PI Qk jc.bH]]) wn rfl Tryz.call148 ⟨(I.g rfl),trivial⟩ (abj ((hc.into 0).pick ⟨⟨1,rfl⟩,⟨0,rfl⟩,trivial⟩) aA1) I rfl rfl ?_;rintro _ w ⟨rfl,af⟩;refine ⟨_,rfl,fun a I=>?_⟩;have hm:=hc.back 0 af;clear af hc;refine aP 1 [] [(7,.i DA)] I fun a I=>wpList_nil (xI _ _ ?_);refine bc [] [(83,.bool (!decide (DA= 0)))] I fun a I=>?_
           refine bi (I.g rfl) h (fun aqR h=>?_) (fun aqR h=>?_)
           · refine bt [] [(2,.i DA)] I fun a I=>wp_ret ?_;obtain rfl:=aB h;obtain rfl:=aB Tr;obtain rfl:=aB pq;obtain rfl:=aB po;refine a6 (ak (ak (a6 (ak (a6 (ak (ak (ak (a6 (ak (ak ?_)))))))))));refine bn Tryz.results135 I rfl ?_;exact ⟨rfl,hm.aW [] []⟩
           refine wp_skip <| zQ _ _ <| ch [] [(6,.i (J.ap (oY+ 1)))] I fun a I=>?_;exact zP _ _ ⟨J.ap (oY+ 1),I.cut,hm.ec [2,3,4],h⟩
         refine wp_exit <| bx (bx (cw ?_));exact xH _ _ ⟨I.cut,hm,(os h)⟩
       rintro a w ⟨I,hm,bb⟩;subst VV;have h:=Tr;clear Tr;dsimp only [J.eV] at h;exact d_ _ _ ⟨I.cut,hm.aW [] [2],(os h)⟩
     rintro a w ⟨I,hm,bb⟩;subst aeF;have h:=pq;clear pq;dsimp only [J.eV] at h;refine dA _ _ <| ch [] [(3,.i (J.ap (iW+ 1)))] I fun a I=>?_;exact cO _ _ ⟨J.ap (iW+ 1),I.cut,hm,h⟩
   refine wp_exit <| bx (bx (cw ?_));exact dt _ _ ⟨I.cut,hm,(os h)⟩
 rintro a w ⟨I,hm,bb⟩;subst Vo;have h:=po;clear po;dsimp only [J.dZ] at h;refine cu _ _ <| bt [] [(2,.i 0)] I fun a I=>wp_ret ?_;obtain rfl:=aB h;refine bn Tryz.results135 I rfl ?_;exact ⟨rfl,hm.aW [] []⟩
end Go.Proofs.YtpkhpagplommoaaGreat
namespace J
def n8 (a_:List Kind) (b_:List Kind):Nat->Int->Option (Way (Bool) (Unit))
 | 0,_=>none
 | bu+ 1,cf=>
   cond (decide (cf <(a_.length:Int))) ((idx a_ cf).bind fun fk=>
   (idx b_ cf).bind fun fu=>
   cond (!decide (fk=fu)) (some (.out false)) (n8 a_ b_ bu (ap (cf+ 1)))) (some (.go ()))
def tp (F:Nat) (a_:List Kind) (b_:List Kind):Option (Bool):=
 cond (!decide ((a_.length:Int)=(b_.length:Int))) (some false) (dw (α:=Unit) (n8 a_ b_ F 0) fun (_:Unit)=>
 some true)
def wS (a_:List Field) (b_:List Field):Nat->Int->Option (Way (Bool) (Unit))
 | 0,_=>none
 | bu+ 1,cf=>
   cond (decide (cf <(a_.length:Int))) ((idx a_ cf).bind fun fk=>
   (idx b_ cf).bind fun fu=>
   cond (!decide (fk=fu)) (some (.out false)) (wS a_ b_ bu (ap (cf+ 1)))) (some (.go ()))
def BV (F:Nat) (a_:List Field) (b_:List Field):Option (Bool):=
 cond (!decide ((a_.length:Int)=(b_.length:Int))) (some false) (dw (α:=Unit) (wS a_ b_ F 0) fun (_:Unit)=>
 some true)
def wR (dG:Method) (dH:Method):Nat->Int->Option (Way (Bool) (Unit))
 | 0,_=>none
 | eB+ 1,ld=>
   cond (decide (ld <(dG.bH.length:Int))) ((idx dG.bH ld).bind fun A5=>
   (idx dH.bH ld).bind fun A6=>
   cond (!decide (A5=A6)) (some (.out false)) (wR dG dH eB (ap (ld+ 1)))) (some (.go ()))
def wQ (F:Nat) (et:aN) (eC:aN):Nat->Int->Option (Way (Bool) (Unit))
 | 0,_=>none
 | c4+ 1,jL=>
   cond (decide (jL <(et.aR.length:Int))) (ed (α:=Unit) ((idx et.aR jL).bind fun dG=>
   (idx eC.aR jL).bind fun dH=>
   cond ((!decide (dG.Name=dH.Name)) || (!(dG.Static == dH.Static))) (some (.out false)) ((tp F dG.bD dH.bD).bind fun MS=>
   cond (!MS) (some (.out false)) (cond (((((!decide ((⟨dG.Returns.Kind,dG.Returns.aN⟩:Kind)=(⟨dH.Returns.Kind,dH.Returns.aN⟩:Kind))) || (!decide (dG.cT=dH.cT))) || (!decide (dG.cS=dH.cS))) || (!decide (dG.Code=dH.Code))) || (!decide ((dG.bH.length:Int)=(dH.bH.length:Int)))) (some (.out false)) (ed (α:=Unit) (wR dG dH F 0) fun (_:Unit)=>
   some (.go ()))))) fun (_:Unit)=>
   wQ F et eC c4 (ap (jL+ 1))) (some (.go ()))
def wP (F:Nat) (a_:List aN) (b_:List aN):Nat->Int->Option (Way (Bool) (Unit))
 | 0,_=>none
 | bu+ 1,iF=>
   cond (decide (iF <(a_.length:Int))) (ed (α:=Unit) ((idx a_ iF).bind fun et=>
   (idx b_ iF).bind fun eC=>
   cond ((!decide (et.Name=eC.Name)) || (!decide (et.bW=eC.bW))) (some (.out false)) ((BV F et.Fields eC.Fields).bind fun W5=>
   cond ((!W5) || (!decide ((et.aR.length:Int)=(eC.aR.length:Int)))) (some (.out false)) (ed (α:=Unit) (wQ F et eC F 0) fun (_:Unit)=>
   some (.go ())))) fun (_:Unit)=>
   wP F a_ b_ bu (ap (iF+ 1))) (some (.go ()))
def BU (F:Nat) (a_:List aN) (b_:List aN):Option (Bool):=
 cond (!decide ((a_.length:Int)=(b_.length:Int))) (some false) (dw (α:=Unit) (wP F a_ b_ F 0) fun (_:Unit)=>
 some true)
def wT (a_:bw) (b_:bw):Nat->Int->Option (Way (Bool) (Unit))
 | 0,_=>none
 | bu+ 1,l2=>
   cond (decide (l2 <(a_.aG.length:Int))) ((idx a_.aG l2).bind fun NF=>
   (idx b_.aG l2).bind fun vC=>
   cond (!decide (NF=vC)) (some (.out false)) (wT a_ b_ bu (ap (l2+ 1)))) (some (.go ()))
def wU (F:Nat) (a_:bw) (b_:bw):Nat->Int->Option (Way (Bool) (Unit))
 | 0,_=>none
 | c4+ 1,lU=>
   cond (decide (lU <(a_.Fields.length:Int))) ((idx a_.Fields lU).bind fun DO=>
   (idx b_.Fields lU).bind fun DQ=>
   (BV F DO DQ).bind fun Xd=>
   cond (!Xd) (some (.out false)) (wU F a_ b_ c4 (ap (lU+ 1)))) (some (.go ()))
def wW (a_:bw) (b_:bw) (gP:Int):Nat->Int->Option (Way (Bool) (Unit))
 | 0,_=>none
 | fB+ 1,lg=>
   (idx a_.Names gP).bind fun NU=>
   cond (decide (lg <(NU.length:Int))) ((idx a_.Names gP).bind fun NV=>
   (idx NV lg).bind fun NZ=>
   (idx b_.Names gP).bind fun N1=>
   (idx N1 lg).bind fun Yr=>
   cond (!decide (NZ=Yr)) (some (.out false)) (wW a_ b_ gP fB (ap (lg+ 1)))) (some (.go ()))
def wV (F:Nat) (a_:bw) (b_:bw):Nat->Int->Option (Way (Bool) (Unit))
 | 0,_=>none
 | eB+ 1,gP=>
   cond (decide (gP <(a_.Names.length:Int))) (ed (α:=Unit) ((idx a_.Names gP).bind fun A_=>
   (idx b_.Names gP).bind fun DR=>
   cond (!decide ((A_.length:Int)=(DR.length:Int))) (some (.out false)) (ed (α:=Unit) (wW a_ b_ gP F 0) fun (_:Unit)=>
   some (.go ()))) fun (_:Unit)=>
   wV F a_ b_ eB (ap (gP+ 1))) (some (.go ()))
def wY (a_:bw) (b_:bw) (gF:Int):Nat->Int->Option (Way (Bool) (Unit))
 | 0,_=>none
 | jE+ 1,lh=>
   (idx a_.aE gF).bind fun Ot=>
   cond (decide (lh <(Ot.length:Int))) ((idx a_.aE gF).bind fun Ou=>
   (idx Ou lh).bind fun I0=>
   (idx b_.aE gF).bind fun Ov=>
   (idx Ov lh).bind fun I1=>
   cond (!decide (I0=I1)) (some (.out false)) (wY a_ b_ gF jE (ap (lh+ 1)))) (some (.go ()))
def wX (F:Nat) (a_:bw) (b_:bw):Nat->Int->Option (Way (Bool) (Unit))
 | 0,_=>none
 | h1+ 1,gF=>
   cond (decide (gF <(a_.aE.length:Int))) (ed (α:=Unit) ((idx a_.aE gF).bind fun Bd=>
   (idx b_.aE gF).bind fun DX=>
   cond (!decide ((Bd.length:Int)=(DX.length:Int))) (some (.out false)) (ed (α:=Unit) (wY a_ b_ gF F 0) fun (_:Unit)=>
   some (.go ()))) fun (_:Unit)=>
   wX F a_ b_ h1 (ap (gF+ 1))) (some (.go ()))
def BX (F:Nat) (a_:bw) (b_:bw):Option (Bool):=
 (BU F a_.aJ b_.aJ).bind fun yD=>
 cond (((((!yD) || (!decide ((b_.aG.length:Int)=(a_.aG.length:Int)))) || (!decide ((a_.Fields.length:Int)=(b_.Fields.length:Int)))) || (!decide ((a_.Names.length:Int)=(b_.Names.length:Int)))) || (!decide ((a_.aE.length:Int)=(b_.aE.length:Int)))) (some false) (dw (α:=Unit) (wT a_ b_ F 0) fun (_:Unit)=>
 dw (α:=Unit) (wU F a_ b_ F 0) fun (_:Unit)=>
 dw (α:=Unit) (wV F a_ b_ F 0) fun (_:Unit)=>
 dw (α:=Unit) (wX F a_ b_ F 0) fun (_:Unit)=>
 some true)
def wK (aK:List aN) (sO:List UInt8):Nat->Int->Option (Way (Int) (Unit))
 | 0,_=>none
 | bu+ 1,m0=>
   cond (decide (m0 <(aK.length:Int))) ((idx aK m0).bind fun I2=>
   cond (decide (I2.Name=sO)) (some (.out m0)) (wK aK sO bu (ap (m0+ 1)))) (some (.go ()))
def n6 (F:Nat) (aK:List aN) (sO:List UInt8):Option (Int):=
 dw (α:=Unit) (wK aK sO F 0) fun (_:Unit)=>
 some (-1)
def w3 (F:Nat) (aK:List aN):Nat->Int->(List Int)->Option (Way (List Int) (List Int))
 | 0,_,_=>none
 | bu+ 1,lc,pz=>
   cond (decide (0 <=lc)) (cond (decide ((aK.length:Int) <(pz.length:Int))) (some (.out [])) ((ej 8 [lc] pz).bind fun HX=>
   (idx aK lc).bind fun A7=>
   (n6 F aK A7.bW).bind fun MV=>
   w3 F aK bu MV HX)) (some (.go pz))
def w2 (F:Nat) (aK:List aN) (bY:Int):Option (List Int):=
 dw (α:=List Int) (w3 F aK F bY []) fun (AB:List Int)=>
 some AB
def ts (F:Nat) (kinds_:List Kind) (aK:List aN):Nat->Int->Option (Way (Bool) (Unit))
 | 0,_=>none
 | bu+ 1,km=>
   cond (decide (km <(kinds_.length:Int))) ((idx kinds_ km).bind fun Oz=>
   cond (!decide (Oz.aN= [])) ((idx kinds_ km).bind fun NG=>
   (n6 F aK NG.aN).bind fun W1=>
   cond (decide (W1 < 0)) (some (.out false)) (ts F kinds_ aK bu (ap (km+ 1)))) (ts F kinds_ aK bu (ap (km+ 1)))) (some (.go ()))
def zm (F:Nat) (aK:List aN) (kinds_:List Kind):Option (Bool):=
 dw (α:=Unit) (ts F kinds_ aK F 0) fun (_:Unit)=>
 some true
def qG (aK:List aN) (ez:List Int):Nat->(List Field)->Int->Option (List Field)
 | 0,_,_=>none
 | bu+ 1,pI,oU=>
   cond (decide (oU <(ez.length:Int))) ((idx ez oU).bind fun NR=>
   (idx aK NR).bind fun IV=>
   (ej 40 pI IV.Fields).bind fun Mf=>
   qG aK ez bu Mf (ap (oU+ 1))) (some pI)
def zi (F:Nat) (aK:List aN) (bY:Int):Option (List Field):=
 (w2 F aK bY).bind fun ez=>
 Option.bind (α:=List Field) (qG aK ez F [] 0) fun (uD:List Field)=>
 some uD
def tq (gD:List (List UInt8)) (iL:Method):Nat->Int->Option (Int)
 | 0,_=>none
 | eB+ 1,kJ=>
   cond (decide (kJ <(gD.length:Int))) ((idx gD kJ).bind fun Yv=>
   cond (!decide (Yv=iL.Name)) (tq gD iL eB (ap (kJ+ 1))) (some kJ)) (some kJ)
def w0 (F:Nat) (aK:List aN) (ez:List Int) (g4:Int):Nat->(List Target)->(List (List UInt8))->Int->Option ((List Target) × (List (List UInt8)))
 | 0,_,_,_=>none
 | c4+ 1,iS,gD,h6=>
   (idx ez g4).bind fun Oo=>
   (idx aK Oo).bind fun pa=>
   cond (decide (h6 <(pa.aR.length:Int))) (Option.bind (α:=(List Target) × (List (List UInt8))) ((idx ez g4).bind fun Oq=>
   (idx aK Oq).bind fun rQ=>
   (idx rQ.aR h6).bind fun iL=>
   Option.bind (α:=Int) (tq gD iL F 0) fun (sN:Int)=>
   Option.bind (α:=(List Target) × (List (List UInt8))) (cond (decide (sN=(gD.length:Int))) ((ej 16 gD [iL.Name]).bind fun Mo=>
   (ej 16 iS [(⟨0,0⟩:Target)]).bind fun Mp=>
   some (Mp,Mo)) (some (iS,gD))) fun ((sF,sG):(List Target) × (List (List UInt8)))=>
   (idx ez g4).bind fun Bc=>
   (idx sF sN).bind fun Yw=>
   (some (sF.set (sN).toNat (⟨Bc,h6⟩:Target))).bind fun Mq=>
   some (Mq,sG)) fun ((u0,u1):(List Target) × (List (List UInt8)))=>
   w0 F aK ez g4 c4 u0 u1 (ap (h6+ 1))) (some (iS,gD))
def wZ (F:Nat) (aK:List aN) (ez:List Int):Nat->(List Target)->(List (List UInt8))->Int->Option ((List Target) × (List (List UInt8)))
 | 0,_,_,_=>none
 | bu+ 1,pP,pQ,g4=>
   cond (decide (g4 <(ez.length:Int))) (Option.bind (α:=(List Target) × (List (List UInt8))) (Option.bind (α:=(List Target) × (List (List UInt8))) (w0 F aK ez g4 F pP pQ 0) fun ((uY,uZ):(List Target) × (List (List UInt8)))=>
   some (uY,uZ)) fun ((uW,uX):(List Target) × (List (List UInt8)))=>
   wZ F aK ez bu uW uX (ap (g4+ 1))) (some (pP,pQ))
def EZ (F:Nat) (aK:List aN) (bY:Int):Option ((List (List UInt8)) × (List Target)):=
 (w2 F aK bY).bind fun ez=>
 Option.bind (α:=(List Target) × (List (List UInt8))) (wZ F aK ez F [] [] 0) fun ((uN,uO):(List Target) × (List (List UInt8)))=>
 some (uO,uN)
end J
namespace Go.Proofs.YtpkhpagplommoaaGreat
open Go Go.RowKit a2
set_option maxHeartbeats 4000000
set_option maxRecDepth 20000
theorem abo {W:World} {X:List Nat} {F:Nat} {a_:List J.Kind} {b_:List J.Kind} {r:Bool} {ag:aS} {ah:Nat} {aI:aS} {aQ:Nat} {M0:List Nat} (hm:au W M0 X W [] [U J.dx ag ah a_,U J.dx aI aQ b_]) (h:J.tp F a_ b_=some r) :
 Calls Tryz.prog 138 [.q ag ah a_,.q aI aQ b_].toArray W (fun e aD=>e= .returned (.bool r)/\au W M0 X aD [] []):=by
 refine enter Tryz.func138 rfl Tryz.ntmps138 rfl fun a I=>?_;rw [J.tp] at h;refine bc [] [] I fun a I=>wp_seq_k fun K bI=>bc [] [(10,.bool (!decide ((a_.length:Int)=(b_.length:Int))))] I fun a I=>bi (I.g rfl) h (fun hZ h=>?_) (fun hZ h=>?_)
 · refine bt [] [(4,.bool false)] I fun a I=>wp_ret ?_;obtain rfl:=aB h;refine ak <| bn Tryz.results138 I rfl ?_;exact ⟨rfl,hm.aW [] []⟩
 refine wp_skip <| bI _ _ <| wp_seq_k fun K cu=>bc [] [(5,.i 0)] I fun a I=>?_;obtain ⟨gv,h,gd⟩:=J.ef h;refine cb (fun a w=>Fr ⟨26,[]⟩ [] a/\au W M0 X w [] [U J.dx ag ah a_,U J.dx aI aQ b_]/\gv=(.go ())) (fun K dt=>?_) ?_
 · refine cA (fun (bu:Nat) a w=>∃ (cf:Int),Fr ⟨26,[]⟩ [(0,.q ag ah a_),(1,.q aI aQ b_),(5,.i cf)] a/\au W M0 X w [] [U J.dx ag ah a_,U J.dx aI aQ b_]/\J.n8 a_ b_ bu cf=some gv) F ⟨0,I.cut,hm,h⟩ ?_ ?_
   · rintro a w ⟨cf,I,hm,h⟩;exact absurd h (by simp [J.n8])
   rintro bu a w ⟨cf,I,hm,h⟩ K cO;rw [J.n8] at h;refine wp_seq_k fun K dp=>bc [] [(14,.bool (decide (cf <(a_.length:Int))))] I fun a I=>bi (I.g rfl) h (fun mB h=>?_) (fun mB h=>?_)
   · refine wp_skip <| dp _ _ <| wp_seq_k fun K dA=>wp_block <| wp_seq_k fun K d_=>hF (by kernel_rfl) (by kernel_rfl) <| dM 2 [] [(17,.q ag ah a_),(18,.i cf)] [] (fun a7 ad=>ax) I fun a I=>?_;obtain ⟨fk,mJ,h⟩:=J.aF h;obtain ⟨mu,mG,_,rfl,mC⟩:=bZ _ (hm.d 0 rfl) mJ;refine eM wn (fun a7 ad=>bF Tryz.underlying130 Tryz.sizeOf103 rfl (I.g rfl) (I.g rfl) mu mG) I rfl rfl fun a I=>dM 3 [0,0] [(20,.agg #[.i fk.Kind,ao fk.aN]),(21,.q aI aQ b_),(22,.i cf)] [bG ag,bJ ag+(cf).toNat* 2] (fun a7 ad=>(aw (b9 ad mC) ax)) I fun a I=>?_;obtain ⟨fu,mK,h⟩:=J.aF h
     obtain ⟨mv,mH,_,rfl,mD⟩:=bZ _ (hm.d 1 rfl) mK;refine eM wn (fun a7 ad=>bF Tryz.underlying130 Tryz.sizeOf103 rfl (I.g rfl) (I.g rfl) mv mH) I rfl rfl fun a I=>dM 1 [0,0] [(24,.agg #[.i fu.Kind,ao fu.aN])] [bG aI,bJ aI+(cf).toNat* 2] (fun a7 ad=>(aw (b9 ad mD) ax)) I fun a I=>eM wn (fun a7 ad=>FT (X:=fk) (Y:=fu) rfl (I.g rfl) (I.g rfl)) I rfl rfl fun a I=>wpQuiet_nil fun w ad=>?_;have hm:=hm.dB ad;clear ad;refine d_ _ _ <| bi (I.g rfl) h (fun k2 h=>?_) (fun k2 h=>?_)
     · refine bt [] [(4,.bool false)] I fun a I=>wp_ret ?_;obtain rfl:=aB h;obtain rfl:=aB gd;refine a6 (ak (ak (a6 (ak (ak ?_)))));refine bn Tryz.results138 I rfl ?_;exact ⟨rfl,hm.aW [] []⟩
     refine wp_skip <| dA _ _ <| ch [] [(5,.i (J.ap (cf+ 1)))] I fun a I=>?_;exact cO _ _ ⟨J.ap (cf+ 1),I.cut,hm,h⟩
   refine wp_exit <| bx (bx (cw ?_));exact dt _ _ ⟨I.cut,hm,(os h)⟩
 rintro a w ⟨I,hm,bb⟩;subst gv;have h:=gd;clear gd;dsimp only [J.dZ] at h;refine cu _ _ <| bt [] [(4,.bool true)] I fun a I=>wp_ret ?_;obtain rfl:=aB h;refine bn Tryz.results138 I rfl ?_;exact ⟨rfl,hm.aW [] []⟩
theorem abm {W:World} {X:List Nat} {F:Nat} {a_:List J.Field} {b_:List J.Field} {r:Bool} {ag:aS} {ah:Nat} {aI:aS} {aQ:Nat} {M0:List Nat} (hm:au W M0 X W [] [U J.aX ag ah a_,U J.aX aI aQ b_]) (h:J.BV F a_ b_=some r) :
 Calls Tryz.prog 114 [.q ag ah a_,.q aI aQ b_].toArray W (fun e aD=>e= .returned (.bool r)/\au W M0 X aD [] []):=by
 refine enter Tryz.func114 rfl Tryz.ntmps114 rfl fun a I=>?_;rw [J.BV] at h;refine bc [] [] I fun a I=>wp_seq_k fun K bI=>bc [] [(10,.bool (!decide ((a_.length:Int)=(b_.length:Int))))] I fun a I=>bi (I.g rfl) h (fun hZ h=>?_) (fun hZ h=>?_)
 · refine bt [] [(4,.bool false)] I fun a I=>wp_ret ?_;obtain rfl:=aB h;refine ak <| bn Tryz.results114 I rfl ?_;exact ⟨rfl,hm.aW [] []⟩
 refine wp_skip <| bI _ _ <| wp_seq_k fun K cu=>bc [] [(5,.i 0)] I fun a I=>?_;obtain ⟨gv,h,gd⟩:=J.ef h;refine cb (fun a w=>Fr ⟨26,[]⟩ [] a/\au W M0 X w [] [U J.aX ag ah a_,U J.aX aI aQ b_]/\gv=(.go ())) (fun K dt=>?_) ?_
 · refine cA (fun (bu:Nat) a w=>∃ (cf:Int),Fr ⟨26,[]⟩ [(0,.q ag ah a_),(1,.q aI aQ b_),(5,.i cf)] a/\au W M0 X w [] [U J.aX ag ah a_,U J.aX aI aQ b_]/\J.wS a_ b_ bu cf=some gv) F ⟨0,I.cut,hm,h⟩ ?_ ?_
   · rintro a w ⟨cf,I,hm,h⟩;exact absurd h (by simp [J.wS])
   rintro bu a w ⟨cf,I,hm,h⟩ K cO;rw [J.wS] at h;refine wp_seq_k fun K dp=>bc [] [(14,.bool (decide (cf <(a_.length:Int))))] I fun a I=>bi (I.g rfl) h (fun mB h=>?_) (fun mB h=>?_)
   · refine wp_skip <| dp _ _ <| wp_seq_k fun K dA=>wp_block <| wp_seq_k fun K d_=>hF (by kernel_rfl) (by kernel_rfl) <| dM 2 [] [(17,.q ag ah a_),(18,.i cf)] [] (fun a7 ad=>ax) I fun a I=>?_;obtain ⟨fk,mJ,h⟩:=J.aF h;obtain ⟨mu,mG,_,rfl,mC⟩:=bZ _ (hm.d 0 rfl) mJ;refine eM wn (fun a7 ad=>bF Tryz.underlying106 Tryz.sizeOf105 rfl (I.g rfl) (I.g rfl) mu mG) I rfl rfl fun a I=>dM 3 [0,0] [(20,.agg #[ao fk.Name,.i fk.Kind.Kind,ao fk.Kind.aN]),(21,.q aI aQ b_),(22,.i cf)] [bG ag,bJ ag+(cf).toNat* 3] (fun a7 ad=>(aw (b9 ad mC) ax)) I fun a I=>?_;obtain ⟨fu,mK,h⟩:=J.aF h
     obtain ⟨mv,mH,_,rfl,mD⟩:=bZ _ (hm.d 1 rfl) mK;refine eM wn (fun a7 ad=>bF Tryz.underlying106 Tryz.sizeOf105 rfl (I.g rfl) (I.g rfl) mv mH) I rfl rfl fun a I=>dM 1 [0,0] [(24,.agg #[ao fu.Name,.i fu.Kind.Kind,ao fu.Kind.aN])] [bG aI,bJ aI+(cf).toNat* 3] (fun a7 ad=>(aw (b9 ad mD) ax)) I fun a I=>eM wn (fun a7 ad=>acb (X:=fk) (Y:=fu) rfl (I.g rfl) (I.g rfl)) I rfl rfl fun a I=>wpQuiet_nil fun w ad=>?_;have hm:=hm.dB ad;clear ad;refine d_ _ _ <| bi (I.g rfl) h (fun k2 h=>?_) (fun k2 h=>?_)
     · refine bt [] [(4,.bool false)] I fun a I=>wp_ret ?_;obtain rfl:=aB h;obtain rfl:=aB gd;refine a6 (ak (ak (a6 (ak (ak ?_)))));refine bn Tryz.results114 I rfl ?_;exact ⟨rfl,hm.aW [] []⟩
     refine wp_skip <| dA _ _ <| ch [] [(5,.i (J.ap (cf+ 1)))] I fun a I=>?_;exact cO _ _ ⟨J.ap (cf+ 1),I.cut,hm,h⟩
   refine wp_exit <| bx (bx (cw ?_));exact dt _ _ ⟨I.cut,hm,(os h)⟩
 rintro a w ⟨I,hm,bb⟩;subst gv;have h:=gd;clear gd;dsimp only [J.dZ] at h;refine cu _ _ <| bt [] [(4,.bool true)] I fun a I=>wp_ret ?_;obtain rfl:=aB h;refine bn Tryz.results114 I rfl ?_;exact ⟨rfl,hm.aW [] []⟩
theorem aiL {W:World} {X:List Nat} {F:Nat} {a_:List J.aN} {b_:List J.aN} {r:Bool} {ag:aS} {ah:Nat} {aI:aS} {aQ:Nat} {M0:List Nat} (hm:au W M0 X W [] [U J.bd ag ah a_,U J.bd aI aQ b_]) (h:J.BU F a_ b_=some r) :
 Calls Tryz.prog 113 [.q ag ah a_,.q aI aQ b_].toArray W (fun e aD=>e= .returned (.bool r)/\au W M0 X aD [] []):=by
 refine enter Tryz.func113 rfl Tryz.ntmps113 rfl fun a I=>?_;rw [J.BU] at h;refine bc [] [] I fun a I=>wp_seq_k fun K bI=>bc [] [(16,.bool (!decide ((a_.length:Int)=(b_.length:Int))))] I fun a I=>bi (I.g rfl) h (fun hZ h=>?_) (fun hZ h=>?_)
 · refine bt [] [(4,.bool false)] I fun a I=>wp_ret ?_;obtain rfl:=aB h;refine ak <| bn Tryz.results113 I rfl ?_;exact ⟨rfl,hm.aW [] []⟩
 refine wp_skip <| bI _ _ <| wp_seq_k fun K cu=>bc [] [(5,.i 0)] I fun a I=>?_;obtain ⟨Wd,h,xT⟩:=J.ef h;refine cb (fun a w=>Fr ⟨152,[]⟩ [] a/\au W M0 X w [] [U J.bd ag ah a_,U J.bd aI aQ b_]/\Wd=(.go ())) (fun K dt=>?_) ?_
 · refine cA (fun (bu:Nat) a w=>∃ (iF:Int),Fr ⟨152,[]⟩ [(0,.q ag ah a_),(1,.q aI aQ b_),(5,.i iF)] a/\au W M0 X w [] [U J.bd ag ah a_,U J.bd aI aQ b_]/\J.wP F a_ b_ bu iF=some Wd) F ⟨0,I.cut,hm,h⟩ ?_ ?_
   · rintro a w ⟨iF,I,hm,h⟩;exact absurd h (by simp [J.wP])
   rintro bu a w ⟨iF,I,hm,h⟩ K cO;rw [J.wP] at h;refine wp_seq_k fun K dp=>bc [] [(20,.bool (decide (iF <(a_.length:Int))))] I fun a I=>bi (I.g rfl) h (fun ao4 h=>?_) (fun ao4 h=>?_)
   · refine wp_skip <| dp _ _ <| wp_seq_k fun K dA=>?_;obtain ⟨aek,h,xR⟩:=J.e3 h;refine cb (fun a w=>Fr ⟨152,[]⟩ [(0,.q ag ah a_),(1,.q aI aQ b_),(5,.i iF)] a/\au W M0 X w [] [U J.bd ag ah a_,U J.bd aI aQ b_]/\aek=(.go ())) (fun K d_=>?_) ?_
     · refine wp_seq_k fun K dQ=>hd (m:=12) 12 (a' []) (by kernel_rfl) rfl fun w ad=>?_;have hm:=hm.dB ad;clear ad;have ba:=hm;have av:=a'.refl [] w;refine cc [0,1,4,5] 4 [] [(23,.q ag ah a_),(24,.i iF),(27,.q aI aQ b_),(28,.i iF)] [] (fun a7 ad=>ax) I av fun a I=>?_;obtain ⟨et,aB_,h⟩:=J.aF h;obtain ⟨alf,av_,_,⟨lq,lz,kO,mi,rfl,acY,acZ⟩,arQ⟩:=bZ _ (ba.d 0 rfl) aB_;have ba:=ba.more (y:=U J.aX lq lz et.Fields) acY
       have hm:=hm.more (y:=U J.aX lq lz et.Fields) acY;have ba:=ba.more (y:=U J.b2 kO mi et.aR) acZ;have hm:=hm.more (y:=U J.b2 kO mi et.aR) acZ;refine eR 2 rfl (by kernel_rfl) wn (fun a7=>bF Tryz.underlying25 Tryz.sizeOf136 rfl (I.g rfl) (I.g rfl) alf av_) av I rfl rfl fun a I=>?_
       refine cc [3] 1 [0,0] [(26,.agg #[ao et.Name,ao et.bW,.q lq lz et.Fields,.q kO mi et.aR])] [bG ag,bJ ag+(iF).toNat* 4] (fun a7 ad=>(aw (b9 ad arQ) ax)) I av fun a I=>?_;obtain ⟨eC,aB',h⟩:=J.aF h;obtain ⟨alg,av',_,⟨lr,lA,kP,mj,rfl,ac0,ac1⟩,arR⟩:=bZ _ (ba.d 3 rfl) aB';have ba:=ba.more (y:=U J.aX lr lA eC.Fields) ac0;have hm:=hm.more (y:=U J.aX lr lA eC.Fields) ac0
       have ba:=ba.more (y:=U J.b2 kP mj eC.aR) ac1;have hm:=hm.more (y:=U J.b2 kP mj eC.aR) ac1;refine eR 6 rfl (by kernel_rfl) wn (fun a7=>bF Tryz.underlying25 Tryz.sizeOf136 rfl (I.g rfl) (I.g rfl) alg av') av I rfl rfl fun a I=>cc [7] 1 [0,0] [(30,.agg #[ao eC.Name,ao eC.bW,.q lr lA eC.Fields,.q kP mj eC.aR])] [bG aI,bJ aI+(iF).toNat* 4] (fun a7 ad=>(aw (b9 ad arR) ax)) I av fun a I=>?_
       refine P4 (ci:=[ao [],ao [],.slice none 0 0,.slice none 0 0]) (cj:=[ao [],ao [],.slice none 0 0,.slice none 0 0]) 8 9 rfl rfl (by kernel_rfl) (by kernel_rfl) (by kernel_rfl) (by kernel_rfl) rfl rfl (fun b w=>eJ Tryz.zeroValue136 rfl rfl) (fun b w=>eJ Tryz.zeroValue136 rfl rfl) I hm rfl rfl rfl rfl rfl (fun a7 h=>fp av h) fun a lD mq w ad R3 R4 I hm=>?_;have R3:=Nat.le_trans av.size R3;have R4:=Nat.le_trans av.size R4;have av:=fp av ad;clear ad;refine cQ 10 rfl (by kernel_rfl) (fun _=>av) <| AX (vs:=[ao et.Name,ao et.bW,.q lq lz et.Fields,.q kO mi et.aR]) 0 hm rfl wn rfl Tryz.sizeOf136 rfl rfl rfl rfl (I.g rfl) (I.g rfl) rfl fun w ad hm=>?_
       have av:=sg av ad R3;clear ad;refine cD <| cQ 11 rfl (by kernel_rfl) (fun _=>av) <| AX (vs:=[ao eC.Name,ao eC.bW,.q lr lA eC.Fields,.q kP mj eC.aR]) 1 hm rfl wn rfl Tryz.sizeOf136 rfl rfl rfl rfl (I.g rfl) (I.g rfl) rfl fun w ad hm=>?_;have av:=sg av ad R4;clear ad;refine cD <| fm (by kernel_rfl) ?_ (fun _=>av);clear ba av;refine dQ _ _ <| wp_seq_k fun K fx=>wp_seq_k fun K fi=>aY ?_
       refine bf 13 [0,0,1,0,0,0,0,1,0,0,1,1,0,0] [(43,.bool ((!decide (et.Name=eC.Name)) || (!decide (et.bW=eC.bW))))] [mq,1,lD,1,mq,0,lD,0] (aw (aZ (hm.e 0 rfl)) (aw (aZ (hm.e 1 rfl)) ax)) I fun a I=>?_;rcases Bool.eq_false_or_eq_true ((!decide (et.Name=eC.Name)) || (!decide (et.bW=eC.bW))) with Gd | Gd
       · have h:=J.di Gd h;have I:=I.b5 43 rfl Gd;refine aP 16 [1,1,1,1,1,1,1,1,1,1,1,1,1,1,1] [(59,.bool true)] I fun a I=>wpList_nil (fi _ _ ?_);refine eN (I.g rfl) rfl <| bt [] [(4,.bool false)] I fun a I=>wp_ret ?_;obtain rfl:=aB h;obtain rfl:=aB xR;obtain rfl:=aB xT;refine ak (a6 (ak (ak (ak (a6 (ak (ak ?_)))))));refine bn Tryz.results113 I rfl ?_;exact ⟨rfl,hm.aW [] []⟩
       have h:=J.dh Gd h;have I:=I.b5 43 rfl Gd;refine bf 4 [1,1,0,2,1,1,1,2] [(45,.q lq lz et.Fields),(47,.q lr lA eC.Fields)] [mq,2,lD,2] (aw (aZ (hm.e 0 rfl)) (aw (aZ (hm.e 1 rfl)) ax)) I fun a I=>?_;obtain ⟨W5,azQ,h⟩:=J.aF h;have hc:=hm;refine bP (vs:=[.q lq lz et.Fields,.q lr lA eC.Fields]) (c1 I rfl rfl rfl rfl) rfl Tryz.call114 ⟨(I.g rfl),(I.g rfl),trivial⟩ (abm ((hc.into 0).pick ⟨⟨3,rfl⟩,⟨1,rfl⟩,trivial⟩) azQ) I rfl rfl ?_;rintro _ w ⟨rfl,af⟩;refine ⟨_,rfl,fun a I=>?_⟩;have ad:a' [] _ w:=af.ev;have hm:=hc.back 0 af
       clear af hc;clear ad;refine bf 11 [1,1,0,0,0,3,0,0,0,1,3,0,0,0] [(59,.bool ((!W5) || (!decide ((et.aR.length:Int)=(eC.aR.length:Int)))))] [mq,3,lD,3] (aw (aZ (hm.e 0 rfl)) (aw (aZ (hm.e 1 rfl)) ax)) I fun a I=>wpList_nil (fi _ _ ?_);refine bi (I.g rfl) h (fun ao9 h=>?_) (fun ao9 h=>?_)
       · refine bt [] [(4,.bool false)] I fun a I=>wp_ret ?_;obtain rfl:=aB h;obtain rfl:=aB xR;obtain rfl:=aB xT;refine ak (a6 (ak (ak (ak (a6 (ak (ak ?_)))))));refine bn Tryz.results113 I rfl ?_;exact ⟨rfl,hm.aW [] []⟩
       refine wp_skip <| fx _ _ <| bc [] [(8,.i 0)] I fun a I=>?_;obtain ⟨U7,h,CV⟩:=J.e3 h
       refine cb (fun a w=>Fr ⟨152,[]⟩ [(0,.q ag ah a_),(1,.q aI aQ b_),(5,.i iF)] a/\au W M0 X w [aq.bm lD 136 [ao et.Name,ao et.bW,.q lq lz et.Fields,.q kO mi et.aR],aq.bm mq 136 [ao eC.Name,ao eC.bW,.q lr lA eC.Fields,.q kP mj eC.aR]] [U J.b2 kP mj eC.aR,U J.aX lr lA eC.Fields,U J.b2 kO mi et.aR,U J.aX lq lz et.Fields,U J.bd ag ah a_,U J.bd aI aQ b_]/\U7=(.go ())) (fun K fO=>?_) ?_
       · refine cA (fun (c4:Nat) a w=>∃ (jL:Int),Fr ⟨152,[]⟩ [(0,.q ag ah a_),(1,.q aI aQ b_),(5,.i iF),(6,.aL lD),(7,.aL mq),(8,.i jL)] a/\au W M0 X w [aq.bm lD 136 [ao et.Name,ao et.bW,.q lq lz et.Fields,.q kO mi et.aR],aq.bm mq 136 [ao eC.Name,ao eC.bW,.q lr lA eC.Fields,.q kP mj eC.aR]] [U J.b2 kP mj eC.aR,U J.aX lr lA eC.Fields,U J.b2 kO mi et.aR,U J.aX lq lz et.Fields,U J.bd ag ah a_,U J.bd aI aQ b_]/\J.wQ F et eC c4 jL=some U7) F ⟨0,I.cut,hm,h⟩ ?_ ?_
         · rintro a w ⟨jL,I,hm,h⟩;exact absurd h (by simp [J.wQ])
         rintro c4 a w ⟨jL,I,hm,h⟩ K fU;rw [J.wQ] at h;refine wp_seq_k fun K gr=>wp_seq_k fun K gN=>eI [0,3] [(64,.bool (decide (jL <(et.aR.length:Int))))] [lD,3] (aw (aZ (hm.e 0 rfl)) ax) I fun a I=>gN _ _ <| bi (I.g rfl) h (fun apc h=>?_) (fun apc h=>?_)
         · refine wp_skip <| gr _ _ <| wp_seq_k fun K hG=>?_;obtain ⟨aem,h,CW⟩:=J.e3 h
           refine cb (fun a w=>Fr ⟨152,[]⟩ [(0,.q ag ah a_),(1,.q aI aQ b_),(5,.i iF),(6,.aL lD),(7,.aL mq),(8,.i jL)] a/\au W M0 X w [aq.bm lD 136 [ao et.Name,ao et.bW,.q lq lz et.Fields,.q kO mi et.aR],aq.bm mq 136 [ao eC.Name,ao eC.bW,.q lr lA eC.Fields,.q kP mj eC.aR]] [U J.b2 kP mj eC.aR,U J.aX lr lA eC.Fields,U J.b2 kO mi et.aR,U J.aX lq lz et.Fields,U J.bd ag ah a_,U J.bd aI aQ b_]/\aem=(.go ())) (fun K hY=>?_) ?_
           · refine wp_seq_k fun K ht=>hd (m:=14) 14 (a' []) (by kernel_rfl) rfl fun w ad=>?_;have hm:=hm.dB ad;clear ad;have ba:=hm;have av:=a'.refl [] w;refine cc [0,1,2,5,6,7] 6 [0,3,1,3] [(68,.q kO mi et.aR),(69,.i jL),(73,.q kP mj eC.aR),(74,.i jL)] [mq,3,lD,3] (fun a7 ad=>(aw (b9 ad (aZ (ba.e 0 rfl))) (aw (b9 ad (aZ (ba.e 1 rfl))) ax))) I av fun a I=>?_;obtain ⟨dG,aCe,h⟩:=J.aF h;obtain ⟨alm,awd,_,⟨rV,r',qt,tw,rfl,ac2,ac3⟩,arW⟩:=bZ _ (ba.d 2 rfl) aCe
             have ba:=ba.more (y:=U J.dx rV r' dG.bD) ac2;have hm:=hm.more (y:=U J.dx rV r' dG.bD) ac2;have ba:=ba.more (y:=U J.er qt tw dG.bH) ac3;have hm:=hm.more (y:=U J.er qt tw dG.bH) ac3;refine eR 3 rfl (by kernel_rfl) wn (fun a7=>bF Tryz.underlying134 Tryz.sizeOf133 rfl (I.g rfl) (I.g rfl) alm awd) av I rfl rfl fun a I=>?_
             refine cc [4] 1 [0,0] [(71,.agg #[ao dG.Name,.bool dG.Static,.q rV r' dG.bD,.i dG.Returns.Kind,ao dG.Returns.aN,.i dG.cT,.i dG.cS,ao dG.Code,.q qt tw dG.bH])] [bG kO,bJ kO+(jL).toNat* 9] (fun a7 ad=>(aw (b9 ad arW) ax)) I av fun a I=>?_;obtain ⟨dH,aCf,h⟩:=J.aF h;obtain ⟨aln,awe,_,⟨rW,sa,qu,tx,rfl,ac4,ac5⟩,arX⟩:=bZ _ (ba.d 2 rfl) aCf;have ba:=ba.more (y:=U J.dx rW sa dH.bD) ac4
             have hm:=hm.more (y:=U J.dx rW sa dH.bD) ac4;have ba:=ba.more (y:=U J.er qu tx dH.bH) ac5;have hm:=hm.more (y:=U J.er qu tx dH.bH) ac5;refine eR 8 rfl (by kernel_rfl) wn (fun a7=>bF Tryz.underlying134 Tryz.sizeOf133 rfl (I.g rfl) (I.g rfl) aln awe) av I rfl rfl fun a I=>?_
             refine cc [9] 1 [0,0] [(76,.agg #[ao dH.Name,.bool dH.Static,.q rW sa dH.bD,.i dH.Returns.Kind,ao dH.Returns.aN,.i dH.cT,.i dH.cS,ao dH.Code,.q qu tx dH.bH])] [bG kP,bJ kP+(jL).toNat* 9] (fun a7 ad=>(aw (b9 ad arX) ax)) I av fun a I=>?_
             refine P4 (ci:=[ao [],.bool false,.slice none 0 0,.i 0,ao [],.i 0,.i 0,ao [],.slice none 0 0]) (cj:=[ao [],.bool false,.slice none 0 0,.i 0,ao [],.i 0,.i 0,ao [],.slice none 0 0]) 10 11 rfl rfl (by kernel_rfl) (by kernel_rfl) (by kernel_rfl) (by kernel_rfl) rfl rfl (fun b w=>eJ Tryz.zeroValue133 rfl rfl) (fun b w=>eJ Tryz.zeroValue133 rfl rfl) I hm rfl rfl rfl rfl rfl (fun a7 h=>fp av h) fun a nr ou w ad R5 R6 I hm=>?_;have R5:=Nat.le_trans av.size R5;have R6:=Nat.le_trans av.size R6;have av:=fp av ad;clear ad;refine cQ 12 rfl (by kernel_rfl) (fun _=>av) ?_
             refine AX (vs:=[ao dG.Name,.bool dG.Static,.q rV r' dG.bD,.i dG.Returns.Kind,ao dG.Returns.aN,.i dG.cT,.i dG.cS,ao dG.Code,.q qt tw dG.bH]) 0 hm rfl wn rfl Tryz.sizeOf133 rfl rfl rfl rfl (I.g rfl) (I.g rfl) rfl fun w ad hm=>?_;have av:=sg av ad R5;clear ad;refine cD <| cQ 13 rfl (by kernel_rfl) (fun _=>av) ?_
             refine AX (vs:=[ao dH.Name,.bool dH.Static,.q rW sa dH.bD,.i dH.Returns.Kind,ao dH.Returns.aN,.i dH.cT,.i dH.cS,ao dH.Code,.q qu tx dH.bH]) 1 hm rfl wn rfl Tryz.sizeOf133 rfl rfl rfl rfl (I.g rfl) (I.g rfl) rfl fun w ad hm=>?_;have av:=sg av ad R6;clear ad;refine cD <| fm (by kernel_rfl) ?_ (fun _=>av);clear ba av;refine ht _ _ <| wp_seq_k fun K hv=>wp_seq_k fun K hx=>aY ?_
             refine bf 13 [0,0,1,0,0,0,0,1,0,0,1,1,0,0] [(89,.bool ((!decide (dG.Name=dH.Name)) || (!(dG.Static == dH.Static))))] [ou,1,nr,1,ou,0,nr,0] (aw (aZ (hm.e 0 rfl)) (aw (aZ (hm.e 1 rfl)) ax)) I fun a I=>?_;rcases Bool.eq_false_or_eq_true ((!decide (dG.Name=dH.Name)) || (!(dG.Static == dH.Static))) with Gg | Gg
             · have h:=J.di Gg h;have I:=I.b5 89 rfl Gg;refine aP 44 [1,1,1,1,1,1,1,1,1,1,1,1,1,1,1,1,1,1,1,1,1,1,1,1,1,1,1,1,1,1,1,1,1,1,1,1,1,1,1] [(133,.bool true)] I fun a I=>wpList_nil (hx _ _ ?_);refine eN (I.g rfl) rfl <| bt [] [(4,.bool false)] I fun a I=>wp_ret ?_;obtain rfl:=aB h;obtain rfl:=aB CW;obtain rfl:=aB CV;obtain rfl:=aB xR;obtain rfl:=aB xT
               refine ak (a6 (ak (ak (ak (a6 (ak (a6 (ak (ak (ak (a6 (ak (ak ?_)))))))))))));refine bn Tryz.results113 I rfl ?_;exact ⟨rfl,hm.aW [] []⟩
             have h:=J.dh Gg h;have I:=I.b5 89 rfl Gg;refine bf 4 [1,1,0,2,1,1,1,2] [(91,.q rV r' dG.bD),(93,.q rW sa dH.bD)] [ou,2,nr,2] (aw (aZ (hm.e 0 rfl)) (aw (aZ (hm.e 1 rfl)) ax)) I fun a I=>?_;obtain ⟨MS,azV,h⟩:=J.aF h;have hc:=hm;refine bP (vs:=[.q rV r' dG.bD,.q rW sa dH.bD]) (c1 I rfl rfl rfl rfl) rfl Tryz.call138 ⟨(I.g rfl),(I.g rfl),trivial⟩ (abo ((hc.into 0).pick ⟨⟨3,rfl⟩,⟨1,rfl⟩,trivial⟩) azV) I rfl rfl ?_;rintro _ w ⟨rfl,af⟩;refine ⟨_,rfl,fun a I=>?_⟩;have ad:a' [] _ w:=af.ev;have hm:=hc.back 0 af
             clear af hc;clear ad;refine aP 3 [1,1] [(97,.bool (!MS))] I fun a I=>?_;rcases Bool.eq_false_or_eq_true (!MS) with Gh | Gh
             · have h:=J.di Gh h;have I:=I.b5 97 rfl Gh;refine aP 36 [1,1,1,1,1,1,1,1,1,1,1,1,1,1,1,1,1,1,1,1,1,1,1,1,1,1,1,1,1,1,1,1] [(133,.bool true)] I fun a I=>wpList_nil (hx _ _ ?_);refine eN (I.g rfl) rfl <| bt [] [(4,.bool false)] I fun a I=>wp_ret ?_;obtain rfl:=aB h;obtain rfl:=aB CW;obtain rfl:=aB CV;obtain rfl:=aB xR;obtain rfl:=aB xT
               refine ak (a6 (ak (ak (ak (a6 (ak (a6 (ak (ak (ak (a6 (ak (ak ?_)))))))))))));refine bn Tryz.results113 I rfl ?_;exact ⟨rfl,hm.aW [] []⟩
             have h:=J.dh Gh h;have I:=I.b5 97 rfl Gh;refine bf 4 [1,1,0,3,1,1,1,3] [(99,.agg #[.i dG.Returns.Kind,ao dG.Returns.aN]),(101,.agg #[.i dH.Returns.Kind,ao dH.Returns.aN])] [ou,3,nr,3] (aw (aZ (hm.e 0 rfl)) (aw (aZ (hm.e 1 rfl)) ax)) I fun a I=>bQ (c1 I rfl rfl rfl rfl) (FT (X:=dG.Returns) (Y:=dH.Returns) rfl (I.g rfl) (I.g rfl)) I rfl rfl fun a I=>?_
             refine bf 31 [1,0,0,0,5,0,0,1,5,0,0,0,0,0,6,0,0,1,6,0,0,0,0,0,7,0,0,1,7,0,0,0,0,0,8,0,0,0,1,8,0,0,0] [(133,.bool (((((!decide (dG.Returns=dH.Returns)) || (!decide (dG.cT=dH.cT))) || (!decide (dG.cS=dH.cS))) || (!decide (dG.Code=dH.Code))) || (!decide ((dG.bH.length:Int)=(dH.bH.length:Int)))))] [ou,8,nr,8,ou,7,nr,7,ou,6,nr,6,ou,5,nr,5] (aw (aZ (hm.e 0 rfl)) (aw (aZ (hm.e 1 rfl)) ax)) I fun a I=>wpList_nil (hx _ _ ?_);refine bi (I.g rfl) h (fun ape h=>?_) (fun ape h=>?_)
             · refine bt [] [(4,.bool false)] I fun a I=>wp_ret ?_;obtain rfl:=aB h;obtain rfl:=aB CW;obtain rfl:=aB CV;obtain rfl:=aB xR;obtain rfl:=aB xT;refine ak (a6 (ak (ak (ak (a6 (ak (a6 (ak (ak (ak (a6 (ak (ak ?_)))))))))))));refine bn Tryz.results113 I rfl ?_;exact ⟨rfl,hm.aW [] []⟩
             refine wp_skip <| hv _ _ <| bc [] [(11,.i 0)] I fun a I=>?_;obtain ⟨U9,h,SA⟩:=J.e3 h
             refine cb (fun a w=>Fr ⟨152,[]⟩ [(0,.q ag ah a_),(1,.q aI aQ b_),(5,.i iF),(6,.aL lD),(7,.aL mq),(8,.i jL)] a/\au W M0 X w [aq.bm nr 133 [ao dG.Name,.bool dG.Static,.q rV r' dG.bD,.i dG.Returns.Kind,ao dG.Returns.aN,.i dG.cT,.i dG.cS,ao dG.Code,.q qt tw dG.bH],aq.bm ou 133 [ao dH.Name,.bool dH.Static,.q rW sa dH.bD,.i dH.Returns.Kind,ao dH.Returns.aN,.i dH.cT,.i dH.cS,ao dH.Code,.q qu tx dH.bH],aq.bm lD 136 [ao et.Name,ao et.bW,.q lq lz et.Fields,.q kO mi et.aR],aq.bm mq 136 [ao eC.Name,ao eC.bW,.q lr lA eC.Fields,.q kP mj eC.aR]] [U J.er qu tx dH.bH,U J.dx rW sa dH.bD,U J.er qt tw dG.bH,U J.dx rV r' dG.bD,U J.b2 kP mj eC.aR,U J.aX lr lA eC.Fields,U J.b2 kO mi et.aR,U J.aX lq lz et.Fields,U J.bd ag ah a_,U J.bd aI aQ b_]/\U9=(.go ())) (fun K jB=>?_) ?_
             · refine cA (fun (eB:Nat) a w=>∃ (ld:Int),Fr ⟨152,[]⟩ [(0,.q ag ah a_),(1,.q aI aQ b_),(5,.i iF),(6,.aL lD),(7,.aL mq),(8,.i jL),(9,.aL nr),(10,.aL ou),(11,.i ld)] a/\au W M0 X w [aq.bm nr 133 [ao dG.Name,.bool dG.Static,.q rV r' dG.bD,.i dG.Returns.Kind,ao dG.Returns.aN,.i dG.cT,.i dG.cS,ao dG.Code,.q qt tw dG.bH],aq.bm ou 133 [ao dH.Name,.bool dH.Static,.q rW sa dH.bD,.i dH.Returns.Kind,ao dH.Returns.aN,.i dH.cT,.i dH.cS,ao dH.Code,.q qu tx dH.bH],aq.bm lD 136 [ao et.Name,ao et.bW,.q lq lz et.Fields,.q kO mi et.aR],aq.bm mq 136 [ao eC.Name,ao eC.bW,.q lr lA eC.Fields,.q kP mj eC.aR]] [U J.er qu tx dH.bH,U J.dx rW sa dH.bD,U J.er qt tw dG.bH,U J.dx rV r' dG.bD,U J.b2 kP mj eC.aR,U J.aX lr lA eC.Fields,U J.b2 kO mi et.aR,U J.aX lq lz et.Fields,U J.bd ag ah a_,U J.bd aI aQ b_]/\J.wR dG dH eB ld=some U9) F ⟨0,I.cut,hm,h⟩ ?_ ?_
               · rintro a w ⟨ld,I,hm,h⟩;exact absurd h (by simp [J.wR])
               rintro eB a w ⟨ld,I,hm,h⟩ K j_;rw [J.wR] at h;refine wp_seq_k fun K j'=>wp_seq_k fun K nv=>eI [0,8] [(138,.bool (decide (ld <(dG.bH.length:Int))))] [nr,8] (aw (aZ (hm.e 0 rfl)) ax) I fun a I=>nv _ _ <| bi (I.g rfl) h (fun apg h=>?_) (fun apg h=>?_)
               · refine wp_skip <| j' _ _ <| wp_seq_k fun K ow=>wp_block <| wp_seq_k fun K lI=>hF (by kernel_rfl) (by kernel_rfl) <| ML 3 [0,8] [(0,.q ag ah a_),(1,.q aI aQ b_),(5,.i iF),(6,.aL lD),(7,.aL mq),(8,.i jL),(9,.aL nr),(10,.aL ou),(11,.i ld),(142,.q qt tw dG.bH),(143,.i ld)] [nr,8] (fun a7 ad=>(aw (b9 ad (aZ (hm.e 0 rfl))) ax)) I fun a I=>?_;obtain ⟨A5,aCh,h⟩:=J.aF h;obtain ⟨alp,awh,_,rfl,arZ⟩:=bZ _ (hm.d 2 rfl) aCh
                 refine eM wn (fun a7 ad=>bF Tryz.underlying131 Tryz.sizeOf150 rfl (I.g rfl) (I.g rfl) alp awh) I rfl rfl fun a I=>dM 4 [0,0,1,8] [(145,.agg #[.i A5.From,.i A5.To,.i A5.gX,ao A5.aN]),(147,.q qu tx dH.bH),(148,.i ld)] [ou,8,bG qt,bJ qt+(ld).toNat* 4] (fun a7 ad=>(aw (b9 ad arZ) (aw (b9 ad (aZ (hm.e 1 rfl))) ax))) I fun a I=>?_;obtain ⟨A6,aCi,h⟩:=J.aF h;obtain ⟨alq,awi,_,rfl,ar0⟩:=bZ _ (hm.d 0 rfl) aCi;refine eM wn (fun a7 ad=>bF Tryz.underlying131 Tryz.sizeOf150 rfl (I.g rfl) (I.g rfl) alq awi) I rfl rfl fun a I=>?_
                 refine dM 1 [0,0] [(150,.agg #[.i A6.From,.i A6.To,.i A6.gX,ao A6.aN])] [bG qu,bJ qu+(ld).toNat* 4] (fun a7 ad=>(aw (b9 ad ar0) ax)) I fun a I=>eM wn (fun a7 ad=>akm (X:=A5) (Y:=A6) rfl (I.g rfl) (I.g rfl)) I rfl rfl fun a I=>wpQuiet_nil fun w ad=>?_;have hm:=hm.dB ad;clear ad;refine lI _ _ <| bi (I.g rfl) h (fun aph h=>?_) (fun aph h=>?_)
                 · refine bt [] [(4,.bool false)] I fun a I=>wp_ret ?_;obtain rfl:=aB h;obtain rfl:=aB SA;obtain rfl:=aB CW;obtain rfl:=aB CV;obtain rfl:=aB xR;obtain rfl:=aB xT;refine a6 (ak (ak (a6 (ak (a6 (ak (ak (ak (a6 (ak (a6 (ak (ak (ak (a6 (ak (ak ?_)))))))))))))))));refine bn Tryz.results113 I rfl ?_;exact ⟨rfl,hm.aW [] []⟩
                 refine wp_skip <| ow _ _ <| ch [] [(11,.i (J.ap (ld+ 1)))] I fun a I=>?_;exact j_ _ _ ⟨J.ap (ld+ 1),I.cut,hm,h⟩
               refine wp_exit <| bx (bx (cw ?_));exact jB _ _ ⟨I.cut,hm,(os h)⟩
             rintro a w ⟨I,hm,bb⟩;subst U9;have h:=SA;clear SA;dsimp only [J.eV] at h;exact hY _ _ ⟨I.cut,hm.aW [2,3] [4,5,6,7,8,9],(os h)⟩
           rintro a w ⟨I,hm,bb⟩;subst aem;have h:=CW;clear CW;dsimp only [J.eV] at h;refine hG _ _ <| ch [] [(8,.i (J.ap (jL+ 1)))] I fun a I=>?_;exact fU _ _ ⟨J.ap (jL+ 1),I.cut,hm,h⟩
         refine wp_exit <| bx (bx (cw ?_));exact fO _ _ ⟨I.cut,hm,(os h)⟩
       rintro a w ⟨I,hm,bb⟩;subst U7;have h:=CV;clear CV;dsimp only [J.eV] at h;exact d_ _ _ ⟨I.cut,hm.aW [] [4,5],(os h)⟩
     rintro a w ⟨I,hm,bb⟩;subst aek;have h:=xR;clear xR;dsimp only [J.eV] at h;refine dA _ _ <| ch [] [(5,.i (J.ap (iF+ 1)))] I fun a I=>?_;exact cO _ _ ⟨J.ap (iF+ 1),I.cut,hm,h⟩
   refine wp_exit <| bx (bx (cw ?_));exact dt _ _ ⟨I.cut,hm,(os h)⟩
 rintro a w ⟨I,hm,bb⟩;subst Wd;have h:=xT;clear xT;dsimp only [J.dZ] at h;refine cu _ _ <| bt [] [(4,.bool true)] I fun a I=>wp_ret ?_;obtain rfl:=aB h;refine bn Tryz.results113 I rfl ?_;exact ⟨rfl,hm.aW [] []⟩
theorem aiN {W:World} {X:List Nat} {F:Nat} {a_:J.bw} {b_:J.bw} {r:Bool} {ag:aS} {ah:Nat} {aI:aS} {aQ:Nat} {aT:aS} {aV:Nat} {bl:aS} {bp:Nat} {bj:aS} {bk:Nat} {bB:aS} {bC:Nat} {bL:aS} {bN:Nat} {eE:aS} {eL:Nat} {eF:aS} {eS:Nat} {dm:aS} {dJ:Nat} {M0:List Nat} (hm:au W M0 X W [] [U J.bd ag ah a_.aJ,U (aj .i64) aI aQ a_.aG,U (aH J.aX) aT aV a_.Fields,U (aH bz) bl bp a_.Names,U (aH J.bR) bj bk a_.aE,U J.bd bB bC b_.aJ,U (aj .i64) bL bN b_.aG,U (aH J.aX) eE eL b_.Fields,U (aH bz) eF eS b_.Names,U (aH J.bR) dm dJ b_.aE]) (h:J.BX F a_ b_=some r) :
 Calls Tryz.prog 85 [.agg #[.q ag ah a_.aJ,.q aI aQ a_.aG,.q aT aV a_.Fields,.q bl bp a_.Names,.q bj bk a_.aE],.agg #[.q bB bC b_.aJ,.q bL bN b_.aG,.q eE eL b_.Fields,.q eF eS b_.Names,.q dm dJ b_.aE]].toArray W (fun e aD=>e= .returned (.bool r)/\au W M0 X aD [] []):=by
 refine enter Tryz.func85 rfl Tryz.ntmps85 rfl fun a I=>?_;rw [J.BX] at h;refine wp_seq_k fun K cZ=>aY <| cy (cs:=[.q ag ah a_.aJ,.q aI aQ a_.aG,.q aT aV a_.Fields,.q bl bp a_.Names,.q bj bk a_.aE]) wn (ei rfl rfl (I.g rfl)) I hm rfl rfl fun a cB w _ I hm=>cy (cs:=[.q bB bC b_.aJ,.q bL bN b_.aG,.q eE eL b_.Fields,.q eF eS b_.Names,.q dm dJ b_.aE]) wn (ei rfl rfl (I.g rfl)) I hm rfl rfl fun a e0 w _ I hm=>aP 1 [] [] I fun a I=>wpList_nil (cZ _ _ ?_);refine wp_seq_k fun K bI=>?_
 refine eI [0,1] [(5,.i (a_.aG.length:Int))] [cB,1] (aw (aZ (hm.e 1 rfl)) ax) I fun a I=>bI _ _ <| wp_seq_k fun K ca=>wp_seq_k fun K cY=>aY <| bf 4 [0,0,1,0] [(16,.q ag ah a_.aJ),(18,.q bB bC b_.aJ)] [e0,0,cB,0] (aw (aZ (hm.e 1 rfl)) (aw (aZ (hm.e 0 rfl)) ax)) I fun a I=>?_;obtain ⟨yD,Uk,h⟩:=J.aF h;have hc:=hm;refine bP (vs:=[.q ag ah a_.aJ,.q bB bC b_.aJ]) wn rfl Tryz.call113 ⟨(I.g rfl),(I.g rfl),trivial⟩ (aiL ((hc.into 0).pick ⟨⟨0,rfl⟩,⟨5,rfl⟩,trivial⟩) Uk) I rfl rfl ?_;rintro _ w ⟨rfl,af⟩;refine ⟨_,rfl,fun a I=>?_⟩;have ad:a' [] _ w:=af.ev;have hm:=hc.back 0 af
 clear af hc;clear ad;refine bf 35 [0,0,0,1,0,0,0,0,0,0,1,2,0,0,0,0,2,0,0,0,0,0,1,3,0,0,0,0,3,0,0,0,0,0,1,4,0,0,0,0,4,0,0,0] [(54,.bool (((((!yD) || (!decide ((b_.aG.length:Int)=(a_.aG.length:Int)))) || (!decide ((a_.Fields.length:Int)=(b_.Fields.length:Int)))) || (!decide ((a_.Names.length:Int)=(b_.Names.length:Int)))) || (!decide ((a_.aE.length:Int)=(b_.aE.length:Int)))))] [e0,4,cB,4,e0,3,cB,3,e0,2,cB,2,e0,1] (aw (aZ (hm.e 0 rfl)) (aw (aZ (hm.e 1 rfl)) ax)) I fun a I=>wpList_nil (cY _ _ ?_);refine bi (I.g rfl) h (fun oC h=>?_) (fun oC h=>?_)
 · refine bt [] [(4,.bool false)] I fun a I=>wp_ret ?_;obtain rfl:=aB h;refine ak <| bn Tryz.results85 I rfl ?_;exact ⟨rfl,hm.aW [] []⟩
 refine wp_skip <| ca _ _ <| wp_seq_k fun K dL=>bc [] [(6,.i 0)] I fun a I=>?_;obtain ⟨V8,h,TM⟩:=J.ef h
 refine cb (fun a w=>Fr ⟨184,[]⟩ [(2,.aL cB),(3,.aL e0)] a/\au W M0 X w [aq.bm e0 30 [.q bB bC b_.aJ,.q bL bN b_.aG,.q eE eL b_.Fields,.q eF eS b_.Names,.q dm dJ b_.aE],aq.bm cB 30 [.q ag ah a_.aJ,.q aI aQ a_.aG,.q aT aV a_.Fields,.q bl bp a_.Names,.q bj bk a_.aE]] [U J.bd ag ah a_.aJ,U (aj .i64) aI aQ a_.aG,U (aH J.aX) aT aV a_.Fields,U (aH bz) bl bp a_.Names,U (aH J.bR) bj bk a_.aE,U J.bd bB bC b_.aJ,U (aj .i64) bL bN b_.aG,U (aH J.aX) eE eL b_.Fields,U (aH bz) eF eS b_.Names,U (aH J.bR) dm dJ b_.aE]/\V8=(.go ())) (fun K cO=>?_) ?_
 · refine cA (fun (bu:Nat) a w=>∃ (l2:Int),Fr ⟨184,[]⟩ [(2,.aL cB),(3,.aL e0),(5,.i (a_.aG.length:Int)),(6,.i l2)] a/\au W M0 X w [aq.bm e0 30 [.q bB bC b_.aJ,.q bL bN b_.aG,.q eE eL b_.Fields,.q eF eS b_.Names,.q dm dJ b_.aE],aq.bm cB 30 [.q ag ah a_.aJ,.q aI aQ a_.aG,.q aT aV a_.Fields,.q bl bp a_.Names,.q bj bk a_.aE]] [U J.bd ag ah a_.aJ,U (aj .i64) aI aQ a_.aG,U (aH J.aX) aT aV a_.Fields,U (aH bz) bl bp a_.Names,U (aH J.bR) bj bk a_.aE,U J.bd bB bC b_.aJ,U (aj .i64) bL bN b_.aG,U (aH J.aX) eE eL b_.Fields,U (aH bz) eF eS b_.Names,U (aH J.bR) dm dJ b_.aE]/\J.wT a_ b_ bu l2=some V8) F ⟨0,I.cut,hm,h⟩ ?_ ?_
   · rintro a w ⟨l2,I,hm,h⟩;exact absurd h (by simp [J.wT])
   rintro bu a w ⟨l2,I,hm,h⟩ K dp;rw [J.wT] at h;refine wp_seq_k fun K da=>bc [] [(57,.bool (decide (l2 <(a_.aG.length:Int))))] I fun a I=>bi (I.g rfl) h (fun aoK h=>?_) (fun aoK h=>?_)
   · refine wp_skip <| da _ _ <| wp_seq_k fun K d_=>wp_block <| wp_seq_k fun K dQ=>hF (by kernel_rfl) (by kernel_rfl) <| dM 3 [0,1] [(61,.q aI aQ a_.aG),(62,.i l2)] [cB,1] (fun a7 ad=>(aw (b9 ad (aZ (hm.e 1 rfl))) ax)) I fun a I=>?_;obtain ⟨NF,aBV,h⟩:=J.aF h;obtain ⟨ak1,avU,_,rfl,arB⟩:=bZ _ (hm.d 1 rfl) aBV;refine eM wn (fun a7 ad=>bF Tryz.underlying22 Tryz.sizeOf3 rfl (I.g rfl) (I.g rfl) ak1 avU) I rfl rfl fun a I=>?_
     refine dM 4 [0,0,1,1] [(64,.i NF),(66,.q bL bN b_.aG),(67,.i l2)] [e0,1,bG aI,bJ aI+(l2).toNat* 1] (fun a7 ad=>(aw (b9 ad arB) (aw (b9 ad (aZ (hm.e 0 rfl))) ax))) I fun a I=>?_;obtain ⟨vC,UB,h⟩:=J.aF h;obtain ⟨Q3,Sb,_,rfl,RI⟩:=bZ _ (hm.d 6 rfl) UB;refine eM wn (fun a7 ad=>bF Tryz.underlying22 Tryz.sizeOf3 rfl (I.g rfl) (I.g rfl) Q3 Sb) I rfl rfl fun a I=>dM 2 [0,0] [(70,.bool (!decide (NF=vC)))] [bG bL,bJ bL+(l2).toNat* 1] (fun a7 ad=>(aw (b9 ad RI) ax)) I fun a I=>wpQuiet_nil fun w ad=>?_;have hm:=hm.dB ad;clear ad;refine dQ _ _ ?_
     refine bi (I.g rfl) h (fun aoS h=>?_) (fun aoS h=>?_)
     · refine bt [] [(4,.bool false)] I fun a I=>wp_ret ?_;obtain rfl:=aB h;obtain rfl:=aB TM;refine a6 (ak (ak (a6 (ak (ak ?_)))));refine bn Tryz.results85 I rfl ?_;exact ⟨rfl,hm.aW [] []⟩
     refine wp_skip <| d_ _ _ <| ch [] [(6,.i (J.ap (l2+ 1)))] I fun a I=>?_;exact dp _ _ ⟨J.ap (l2+ 1),I.cut,hm,h⟩
   refine wp_exit <| bx (bx (cw ?_));exact cO _ _ ⟨I.cut,hm,(os h)⟩
 rintro a w ⟨I,hm,bb⟩;subst V8;have h:=TM;clear TM;dsimp only [J.dZ] at h;refine dL _ _ <| wp_seq_k fun K fi=>bc [] [(7,.i 0)] I fun a I=>?_;obtain ⟨U',h,SD⟩:=J.ef h
 refine cb (fun a w=>Fr ⟨184,[]⟩ [(2,.aL cB),(3,.aL e0)] a/\au W M0 X w [aq.bm e0 30 [.q bB bC b_.aJ,.q bL bN b_.aG,.q eE eL b_.Fields,.q eF eS b_.Names,.q dm dJ b_.aE],aq.bm cB 30 [.q ag ah a_.aJ,.q aI aQ a_.aG,.q aT aV a_.Fields,.q bl bp a_.Names,.q bj bk a_.aE]] [U J.bd ag ah a_.aJ,U (aj .i64) aI aQ a_.aG,U (aH J.aX) aT aV a_.Fields,U (aH bz) bl bp a_.Names,U (aH J.bR) bj bk a_.aE,U J.bd bB bC b_.aJ,U (aj .i64) bL bN b_.aG,U (aH J.aX) eE eL b_.Fields,U (aH bz) eF eS b_.Names,U (aH J.bR) dm dJ b_.aE]/\U'=(.go ())) (fun K hf=>?_) ?_
 · refine cA (fun (c4:Nat) a w=>∃ (lU:Int),Fr ⟨184,[]⟩ [(2,.aL cB),(3,.aL e0),(7,.i lU)] a/\au W M0 X w [aq.bm e0 30 [.q bB bC b_.aJ,.q bL bN b_.aG,.q eE eL b_.Fields,.q eF eS b_.Names,.q dm dJ b_.aE],aq.bm cB 30 [.q ag ah a_.aJ,.q aI aQ a_.aG,.q aT aV a_.Fields,.q bl bp a_.Names,.q bj bk a_.aE]] [U J.bd ag ah a_.aJ,U (aj .i64) aI aQ a_.aG,U (aH J.aX) aT aV a_.Fields,U (aH bz) bl bp a_.Names,U (aH J.bR) bj bk a_.aE,U J.bd bB bC b_.aJ,U (aj .i64) bL bN b_.aG,U (aH J.aX) eE eL b_.Fields,U (aH bz) eF eS b_.Names,U (aH J.bR) dm dJ b_.aE]/\J.wU F a_ b_ c4 lU=some U') F ⟨0,I.cut,hm,h⟩ ?_ ?_
   · rintro a w ⟨lU,I,hm,h⟩;exact absurd h (by simp [J.wU])
   rintro c4 a w ⟨lU,I,hm,h⟩ K fy;rw [J.wU] at h;refine wp_seq_k fun K fO=>wp_seq_k fun K fU=>eI [0,2] [(75,.bool (decide (lU <(a_.Fields.length:Int))))] [cB,2] (aw (aZ (hm.e 1 rfl)) ax) I fun a I=>fU _ _ <| bi (I.g rfl) h (fun apE h=>?_) (fun apE h=>?_)
   · refine wp_skip <| fO _ _ <| wp_seq_k fun K gr=>wp_block <| wp_seq_k fun K gN=>hd (m:=12) 12 (a' []) (by kernel_rfl) rfl fun w ad=>?_;have hm:=hm.dB ad;clear ad;have ba:=hm;have av:=a'.refl [] w;refine cc [0,1,2,5,6,7] 6 [0,2,1,2] [(79,.q aT aV a_.Fields),(80,.i lU),(84,.q eE eL b_.Fields),(85,.i lU)] [e0,2,cB,2] (fun a7 ad=>(aw (b9 ad (aZ (ba.e 1 rfl))) (aw (b9 ad (aZ (ba.e 0 rfl))) ax))) I av fun a I=>?_;obtain ⟨DO,aCx,h⟩:=J.aF h;obtain ⟨alI,awz,aJp,Uj,asg⟩:=bZ _ (ba.d 2 rfl) aCx;obtain ⟨Jz,Ko,aBF⟩:=fW Uj;subst aBF
     have ba:=ba.more (y:=U J.aX Jz Ko DO) Uj;have hm:=hm.more (y:=U J.aX Jz Ko DO) Uj;refine eR 3 rfl (by kernel_rfl) wn (fun a7=>bF Tryz.underlying26 Tryz.sizeOf106 rfl (I.g rfl) (I.g rfl) alI awz) av I rfl rfl fun a I=>cc [4] 1 [0,0] [(82,.q Jz Ko DO)] [bG aT,bJ aT+(lU).toNat* 1] (fun a7 ad=>(aw (b9 ad asg) ax)) I av fun a I=>?_;obtain ⟨DQ,aCA,h⟩:=J.aF h;obtain ⟨alK,awB,aJq,Ul,asi⟩:=bZ _ (ba.d 8 rfl) aCA;obtain ⟨By,Cd,aBG⟩:=fW Ul;subst aBG
     have ba:=ba.more (y:=U J.aX By Cd DQ) Ul;have hm:=hm.more (y:=U J.aX By Cd DQ) Ul;refine eR 8 rfl (by kernel_rfl) wn (fun a7=>bF Tryz.underlying26 Tryz.sizeOf106 rfl (I.g rfl) (I.g rfl) alK awB) av I rfl rfl fun a I=>cc [9] 1 [0,0] [(87,.q By Cd DQ)] [bG eE,bJ eE+(lU).toNat* 1] (fun a7 ad=>(aw (b9 ad asi) ax)) I av fun a I=>cQ 10 rfl (by kernel_rfl) (fun _=>av) ?_;obtain ⟨Xd,aAe,h⟩:=J.aF h;have hc:=hm
     refine bP (vs:=[.q Jz Ko DO,.q By Cd DQ]) wn rfl Tryz.call114 ⟨(I.g rfl),(I.g rfl),trivial⟩ (abm ((hc.into 0).pick ⟨⟨1,rfl⟩,⟨0,rfl⟩,trivial⟩) aAe) I rfl rfl ?_;rintro _ w ⟨rfl,af⟩;refine ⟨_,rfl,fun a I=>?_⟩;have ad:a' [] _ w:=af.ev;have hm:=hc.back 0 af;clear af hc;have av:=fp av ad;clear ad;refine cD <| cc [11] 1 [] [(89,.bool (!Xd))] [] (fun a7 ad=>ax) I av fun a I=>fm (by kernel_rfl) ?_ (fun _=>av);clear ba av;refine gN _ _ <| bi (I.g rfl) h (fun apK h=>?_) (fun apK h=>?_)
     · refine bt [] [(4,.bool false)] I fun a I=>wp_ret ?_;obtain rfl:=aB h;obtain rfl:=aB SD;refine a6 (ak (ak (a6 (ak (ak ?_)))));refine bn Tryz.results85 I rfl ?_;exact ⟨rfl,hm.aW [] []⟩
     refine wp_skip <| gr _ _ <| ch [] [(7,.i (J.ap (lU+ 1)))] I fun a I=>?_;exact fy _ _ ⟨J.ap (lU+ 1),I.cut,hm.ec [2,3,4,5,6,7,8,9,10,11],h⟩
   refine wp_exit <| bx (bx (cw ?_));exact hf _ _ ⟨I.cut,hm,(os h)⟩
 rintro a w ⟨I,hm,bb⟩;subst U';have h:=SD;clear SD;dsimp only [J.dZ] at h;refine fi _ _ <| wp_seq_k fun K hY=>bc [] [(8,.i 0)] I fun a I=>?_;obtain ⟨Vd,h,Ly⟩:=J.ef h
 refine cb (fun a w=>Fr ⟨184,[]⟩ [(2,.aL cB),(3,.aL e0)] a/\au W M0 X w [aq.bm e0 30 [.q bB bC b_.aJ,.q bL bN b_.aG,.q eE eL b_.Fields,.q eF eS b_.Names,.q dm dJ b_.aE],aq.bm cB 30 [.q ag ah a_.aJ,.q aI aQ a_.aG,.q aT aV a_.Fields,.q bl bp a_.Names,.q bj bk a_.aE]] [U J.bd ag ah a_.aJ,U (aj .i64) aI aQ a_.aG,U (aH J.aX) aT aV a_.Fields,U (aH bz) bl bp a_.Names,U (aH J.bR) bj bk a_.aE,U J.bd bB bC b_.aJ,U (aj .i64) bL bN b_.aG,U (aH J.aX) eE eL b_.Fields,U (aH bz) eF eS b_.Names,U (aH J.bR) dm dJ b_.aE]/\Vd=(.go ())) (fun K hv=>?_) ?_
 · refine cA (fun (eB:Nat) a w=>∃ (gP:Int),Fr ⟨184,[]⟩ [(2,.aL cB),(3,.aL e0),(8,.i gP)] a/\au W M0 X w [aq.bm e0 30 [.q bB bC b_.aJ,.q bL bN b_.aG,.q eE eL b_.Fields,.q eF eS b_.Names,.q dm dJ b_.aE],aq.bm cB 30 [.q ag ah a_.aJ,.q aI aQ a_.aG,.q aT aV a_.Fields,.q bl bp a_.Names,.q bj bk a_.aE]] [U J.bd ag ah a_.aJ,U (aj .i64) aI aQ a_.aG,U (aH J.aX) aT aV a_.Fields,U (aH bz) bl bp a_.Names,U (aH J.bR) bj bk a_.aE,U J.bd bB bC b_.aJ,U (aj .i64) bL bN b_.aG,U (aH J.aX) eE eL b_.Fields,U (aH bz) eF eS b_.Names,U (aH J.bR) dm dJ b_.aE]/\J.wV F a_ b_ eB gP=some Vd) F ⟨0,I.cut,hm,h⟩ ?_ ?_
   · rintro a w ⟨gP,I,hm,h⟩;exact absurd h (by simp [J.wV])
   rintro eB a w ⟨gP,I,hm,h⟩ K hx;rw [J.wV] at h;refine wp_seq_k fun K jz=>wp_seq_k fun K jk=>eI [0,3] [(94,.bool (decide (gP <(a_.Names.length:Int))))] [cB,3] (aw (aZ (hm.e 1 rfl)) ax) I fun a I=>jk _ _ <| bi (I.g rfl) h (fun apQ h=>?_) (fun apQ h=>?_)
   · refine wp_skip <| jz _ _ <| wp_seq_k fun K mw=>?_;obtain ⟨aew,h,LD⟩:=J.e3 h
     refine cb (fun a w=>Fr ⟨184,[]⟩ [(2,.aL cB),(3,.aL e0),(8,.i gP)] a/\au W M0 X w [aq.bm e0 30 [.q bB bC b_.aJ,.q bL bN b_.aG,.q eE eL b_.Fields,.q eF eS b_.Names,.q dm dJ b_.aE],aq.bm cB 30 [.q ag ah a_.aJ,.q aI aQ a_.aG,.q aT aV a_.Fields,.q bl bp a_.Names,.q bj bk a_.aE]] [U J.bd ag ah a_.aJ,U (aj .i64) aI aQ a_.aG,U (aH J.aX) aT aV a_.Fields,U (aH bz) bl bp a_.Names,U (aH J.bR) bj bk a_.aE,U J.bd bB bC b_.aJ,U (aj .i64) bL bN b_.aG,U (aH J.aX) eE eL b_.Fields,U (aH bz) eF eS b_.Names,U (aH J.bR) dm dJ b_.aE]/\aew=(.go ())) (fun K jA=>?_) ?_
     · refine wp_seq_k fun K jB=>wp_seq_k fun K j_=>hF (by kernel_rfl) (by kernel_rfl) <| dM 3 [0,3] [(98,.q bl bp a_.Names),(99,.i gP)] [cB,3] (fun a7 ad=>(aw (b9 ad (aZ (hm.e 1 rfl))) ax)) I fun a I=>?_;obtain ⟨A_,aCM,h⟩:=J.aF h;obtain ⟨alZ,awQ,aJs,adC,asx⟩:=bZ _ (hm.d 3 rfl) aCM;obtain ⟨Pz,Qa,aBI⟩:=fW adC;subst aBI;have hm:=hm.more (y:=U bz Pz Qa A_) adC;refine eM wn (fun a7 ad=>bF Tryz.underlying27 Tryz.sizeOf125 rfl (I.g rfl) (I.g rfl) alZ awQ) I rfl rfl fun a I=>?_
       refine dM 5 [0,0,1,3] [(102,.i (A_.length:Int)),(104,.q eF eS b_.Names),(105,.i gP)] [e0,3,bG bl,bJ bl+(gP).toNat* 1] (fun a7 ad=>(aw (b9 ad asx) (aw (b9 ad (aZ (hm.e 0 rfl))) ax))) I fun a I=>?_;obtain ⟨DR,aCN,h⟩:=J.aF h;obtain ⟨al0,awR,aJt,adD,asy⟩:=bZ _ (hm.d 9 rfl) aCN;obtain ⟨PA,Qb,aBJ⟩:=fW adD;subst aBJ;have hm:=hm.more (y:=U bz PA Qb DR) adD;refine eM wn (fun a7 ad=>bF Tryz.underlying27 Tryz.sizeOf125 rfl (I.g rfl) (I.g rfl) al0 awR) I rfl rfl fun a I=>?_
       refine dM 3 [0,0] [(109,.bool (!decide ((A_.length:Int)=(DR.length:Int))))] [bG eF,bJ eF+(gP).toNat* 1] (fun a7 ad=>(aw (b9 ad asy) ax)) I fun a I=>wpQuiet_nil fun w ad=>?_;have hm:=hm.dB ad;clear ad;refine j_ _ _ <| bi (I.g rfl) h (fun apX h=>?_) (fun apX h=>?_)
       · refine bt [] [(4,.bool false)] I fun a I=>wp_ret ?_;obtain rfl:=aB h;obtain rfl:=aB LD;obtain rfl:=aB Ly;refine ak (a6 (ak (ak (ak (a6 (ak (ak ?_)))))));refine bn Tryz.results85 I rfl ?_;exact ⟨rfl,hm.aW [] []⟩
       refine wp_skip <| jB _ _ <| bc [] [(9,.i 0)] I fun a I=>?_;obtain ⟨Vz,h,S4⟩:=J.e3 h
       refine cb (fun a w=>Fr ⟨184,[]⟩ [(2,.aL cB),(3,.aL e0),(8,.i gP)] a/\au W M0 X w [aq.bm e0 30 [.q bB bC b_.aJ,.q bL bN b_.aG,.q eE eL b_.Fields,.q eF eS b_.Names,.q dm dJ b_.aE],aq.bm cB 30 [.q ag ah a_.aJ,.q aI aQ a_.aG,.q aT aV a_.Fields,.q bl bp a_.Names,.q bj bk a_.aE]] [U bz PA Qb DR,U bz Pz Qa A_,U J.bd ag ah a_.aJ,U (aj .i64) aI aQ a_.aG,U (aH J.aX) aT aV a_.Fields,U (aH bz) bl bp a_.Names,U (aH J.bR) bj bk a_.aE,U J.bd bB bC b_.aJ,U (aj .i64) bL bN b_.aG,U (aH J.aX) eE eL b_.Fields,U (aH bz) eF eS b_.Names,U (aH J.bR) dm dJ b_.aE]/\Vz=(.go ())) (fun K ow=>?_) ?_
       · refine cA (fun (fB:Nat) a w=>∃ (lg:Int),Fr ⟨184,[]⟩ [(2,.aL cB),(3,.aL e0),(8,.i gP),(9,.i lg)] a/\au W M0 X w [aq.bm e0 30 [.q bB bC b_.aJ,.q bL bN b_.aG,.q eE eL b_.Fields,.q eF eS b_.Names,.q dm dJ b_.aE],aq.bm cB 30 [.q ag ah a_.aJ,.q aI aQ a_.aG,.q aT aV a_.Fields,.q bl bp a_.Names,.q bj bk a_.aE]] [U bz PA Qb DR,U bz Pz Qa A_,U J.bd ag ah a_.aJ,U (aj .i64) aI aQ a_.aG,U (aH J.aX) aT aV a_.Fields,U (aH bz) bl bp a_.Names,U (aH J.bR) bj bk a_.aE,U J.bd bB bC b_.aJ,U (aj .i64) bL bN b_.aG,U (aH J.aX) eE eL b_.Fields,U (aH bz) eF eS b_.Names,U (aH J.bR) dm dJ b_.aE]/\J.wW a_ b_ gP fB lg=some Vz) F ⟨0,I.cut,hm,h⟩ ?_ ?_
         · rintro a w ⟨lg,I,hm,h⟩;exact absurd h (by simp [J.wW])
         rintro fB a w ⟨lg,I,hm,h⟩ K lI;rw [J.wW] at h;refine wp_seq_k fun K ox=>wp_seq_k fun K lJ=>aY <| bf 4 [0,3] [(110,.i lg),(112,.q bl bp a_.Names),(113,.i gP)] [cB,3] (aw (aZ (hm.e 1 rfl)) ax) I fun a I=>?_;obtain ⟨NU,aCP,h⟩:=J.aF h;obtain ⟨al2,awT,aJu,adE,asB⟩:=bZ _ (hm.d 5 rfl) aCP;obtain ⟨ahh,aic,aBK⟩:=fW adE;subst aBK;have hm:=hm.more (y:=U bz ahh aic NU) adE;refine bQ wn (bF Tryz.underlying27 Tryz.sizeOf125 rfl (I.g rfl) (I.g rfl) al2 awT) I rfl rfl fun a I=>?_
         refine bf 3 [0,0] [(117,.bool (decide (lg <(NU.length:Int))))] [bG bl,bJ bl+(gP).toNat* 1] (aw asB ax) I fun a I=>wpList_nil (lJ _ _ ?_);refine bi (I.g rfl) h (fun ap0 h=>?_) (fun ap0 h=>?_)
         · refine wp_skip <| ox _ _ <| wp_seq_k fun K mx=>wp_block <| wp_seq_k fun K q2=>hF (by kernel_rfl) (by kernel_rfl) <| dM 3 [0,3] [(121,.q bl bp a_.Names),(122,.i gP)] [cB,3] (fun a7 ad=>(aw (b9 ad (aZ (hm.e 1 rfl))) ax)) I fun a I=>?_;obtain ⟨NV,aCQ,h⟩:=J.aF h;obtain ⟨al3,awU,aJv,adF,asC⟩:=bZ _ (hm.d 6 rfl) aCQ;obtain ⟨JA,aaG,aBL⟩:=fW adF;subst aBL;have hm:=hm.more (y:=U bz JA aaG NV) adF;refine eM wn (fun a7 ad=>bF Tryz.underlying27 Tryz.sizeOf125 rfl (I.g rfl) (I.g rfl) al3 awU) I rfl rfl fun a I=>?_
           refine dM 2 [0,0] [(124,.q JA aaG NV),(125,.i lg)] [bG bl,bJ bl+(gP).toNat* 1] (fun a7 ad=>(aw (b9 ad asC) ax)) I fun a I=>?_;obtain ⟨NZ,aCT,h⟩:=J.aF h;obtain ⟨al6,awX,_,rfl,asF⟩:=bZ _ (hm.d 0 rfl) aCT;refine eM wn (fun a7 ad=>bF Tryz.underlying125 Tryz.sizeOf9 rfl (I.g rfl) (I.g rfl) al6 awX) I rfl rfl fun a I=>dM 4 [0,0,1,3] [(127,ao NZ),(129,.q eF eS b_.Names),(130,.i gP)] [e0,3,bG JA,bJ JA+(lg).toNat* 1] (fun a7 ad=>(aw (b9 ad asF) (aw (b9 ad (aZ (hm.e 0 rfl))) ax))) I fun a I=>?_;obtain ⟨N1,aCV,h⟩:=J.aF h
           obtain ⟨al8,awZ,aJw,adG,asH⟩:=bZ _ (hm.d 12 rfl) aCV;obtain ⟨JB,aaH,aBM⟩:=fW adG;subst aBM;have hm:=hm.more (y:=U bz JB aaH N1) adG;refine eM wn (fun a7 ad=>bF Tryz.underlying27 Tryz.sizeOf125 rfl (I.g rfl) (I.g rfl) al8 awZ) I rfl rfl fun a I=>dM 2 [0,0] [(132,.q JB aaH N1),(133,.i lg)] [bG eF,bJ eF+(gP).toNat* 1] (fun a7 ad=>(aw (b9 ad asH) ax)) I fun a I=>?_;obtain ⟨Yr,aCX,h⟩:=J.aF h;obtain ⟨al_,aw1,_,rfl,asJ⟩:=bZ _ (hm.d 0 rfl) aCX
           refine eM wn (fun a7 ad=>bF Tryz.underlying125 Tryz.sizeOf9 rfl (I.g rfl) (I.g rfl) al_ aw1) I rfl rfl fun a I=>dM 2 [0,0] [(136,.bool (!decide (NZ=Yr)))] [bG JB,bJ JB+(lg).toNat* 1] (fun a7 ad=>(aw (b9 ad asJ) ax)) I fun a I=>wpQuiet_nil fun w ad=>?_;have hm:=hm.dB ad;clear ad;refine q2 _ _ <| bi (I.g rfl) h (fun ap3 h=>?_) (fun ap3 h=>?_)
           · refine bt [] [(4,.bool false)] I fun a I=>wp_ret ?_;obtain rfl:=aB h;obtain rfl:=aB S4;obtain rfl:=aB LD;obtain rfl:=aB Ly;refine a6 (ak (ak (a6 (ak (a6 (ak (ak (ak (a6 (ak (ak ?_)))))))))));refine bn Tryz.results85 I rfl ?_;exact ⟨rfl,hm.aW [] []⟩
           refine wp_skip <| mx _ _ <| ch [] [(9,.i (J.ap (lg+ 1)))] I fun a I=>?_;exact lI _ _ ⟨J.ap (lg+ 1),I.cut,hm.ec [3,4,5,6,7,8,9,10,11,12,13,14],h⟩
         refine wp_exit <| bx (bx (cw ?_));exact ow _ _ ⟨I.cut,hm.ec [1,2,3,4,5,6,7,8,9,10,11,12],(os h)⟩
       rintro a w ⟨I,hm,bb⟩;subst Vz;have h:=S4;clear S4;dsimp only [J.eV] at h;exact jA _ _ ⟨I.cut,hm.ec [2,3,4,5,6,7,8,9,10,11],(os h)⟩
     rintro a w ⟨I,hm,bb⟩;subst aew;have h:=LD;clear LD;dsimp only [J.eV] at h;refine mw _ _ <| ch [] [(8,.i (J.ap (gP+ 1)))] I fun a I=>?_;exact hx _ _ ⟨J.ap (gP+ 1),I.cut,hm,h⟩
   refine wp_exit <| bx (bx (cw ?_));exact hv _ _ ⟨I.cut,hm,(os h)⟩
 rintro a w ⟨I,hm,bb⟩;subst Vd;have h:=Ly;clear Ly;dsimp only [J.dZ] at h;refine hY _ _ <| wp_seq_k fun K my=>bc [] [(10,.i 0)] I fun a I=>?_;obtain ⟨VU,h,LK⟩:=J.ef h
 refine cb (fun a w=>Fr ⟨184,[]⟩ [] a/\au W M0 X w [aq.bm e0 30 [.q bB bC b_.aJ,.q bL bN b_.aG,.q eE eL b_.Fields,.q eF eS b_.Names,.q dm dJ b_.aE],aq.bm cB 30 [.q ag ah a_.aJ,.q aI aQ a_.aG,.q aT aV a_.Fields,.q bl bp a_.Names,.q bj bk a_.aE]] [U J.bd ag ah a_.aJ,U (aj .i64) aI aQ a_.aG,U (aH J.aX) aT aV a_.Fields,U (aH bz) bl bp a_.Names,U (aH J.bR) bj bk a_.aE,U J.bd bB bC b_.aJ,U (aj .i64) bL bN b_.aG,U (aH J.aX) eE eL b_.Fields,U (aH bz) eF eS b_.Names,U (aH J.bR) dm dJ b_.aE]/\VU=(.go ())) (fun K q3=>?_) ?_
 · refine cA (fun (h1:Nat) a w=>∃ (gF:Int),Fr ⟨184,[]⟩ [(2,.aL cB),(3,.aL e0),(10,.i gF)] a/\au W M0 X w [aq.bm e0 30 [.q bB bC b_.aJ,.q bL bN b_.aG,.q eE eL b_.Fields,.q eF eS b_.Names,.q dm dJ b_.aE],aq.bm cB 30 [.q ag ah a_.aJ,.q aI aQ a_.aG,.q aT aV a_.Fields,.q bl bp a_.Names,.q bj bk a_.aE]] [U J.bd ag ah a_.aJ,U (aj .i64) aI aQ a_.aG,U (aH J.aX) aT aV a_.Fields,U (aH bz) bl bp a_.Names,U (aH J.bR) bj bk a_.aE,U J.bd bB bC b_.aJ,U (aj .i64) bL bN b_.aG,U (aH J.aX) eE eL b_.Fields,U (aH bz) eF eS b_.Names,U (aH J.bR) dm dJ b_.aE]/\J.wX F a_ b_ h1 gF=some VU) F ⟨0,I.cut,hm,h⟩ ?_ ?_
   · rintro a w ⟨gF,I,hm,h⟩;exact absurd h (by simp [J.wX])
   rintro h1 a w ⟨gF,I,hm,h⟩ K oy;rw [J.wX] at h;refine wp_seq_k fun K oz=>wp_seq_k fun K mz=>eI [0,4] [(141,.bool (decide (gF <(a_.aE.length:Int))))] [cB,4] (aw (aZ (hm.e 1 rfl)) ax) I fun a I=>mz _ _ <| bi (I.g rfl) h (fun aq9 h=>?_) (fun aq9 h=>?_)
   · refine wp_skip <| oz _ _ <| wp_seq_k fun K sm=>?_;obtain ⟨aeQ,h,LL⟩:=J.e3 h
     refine cb (fun a w=>Fr ⟨184,[]⟩ [(2,.aL cB),(3,.aL e0),(10,.i gF)] a/\au W M0 X w [aq.bm e0 30 [.q bB bC b_.aJ,.q bL bN b_.aG,.q eE eL b_.Fields,.q eF eS b_.Names,.q dm dJ b_.aE],aq.bm cB 30 [.q ag ah a_.aJ,.q aI aQ a_.aG,.q aT aV a_.Fields,.q bl bp a_.Names,.q bj bk a_.aE]] [U J.bd ag ah a_.aJ,U (aj .i64) aI aQ a_.aG,U (aH J.aX) aT aV a_.Fields,U (aH bz) bl bp a_.Names,U (aH J.bR) bj bk a_.aE,U J.bd bB bC b_.aJ,U (aj .i64) bL bN b_.aG,U (aH J.aX) eE eL b_.Fields,U (aH bz) eF eS b_.Names,U (aH J.bR) dm dJ b_.aE]/\aeQ=(.go ())) (fun K tT=>?_) ?_
     · refine wp_seq_k fun K tU=>wp_seq_k fun K sn=>hF (by kernel_rfl) (by kernel_rfl) <| dM 3 [0,4] [(145,.q bj bk a_.aE),(146,.i gF)] [cB,4] (fun a7 ad=>(aw (b9 ad (aZ (hm.e 1 rfl))) ax)) I fun a I=>?_;obtain ⟨Bd,aDT,h⟩:=J.aF h;obtain ⟨am_,ax1,aJx,adH,atJ⟩:=bZ _ (hm.d 4 rfl) aDT;obtain ⟨PK,Qm,aBN⟩:=fW adH;subst aBN;have hm:=hm.more (y:=U J.bR PK Qm Bd) adH;refine eM wn (fun a7 ad=>bF Tryz.underlying28 Tryz.sizeOf126 rfl (I.g rfl) (I.g rfl) am_ ax1) I rfl rfl fun a I=>?_
       refine dM 5 [0,0,1,4] [(149,.i (Bd.length:Int)),(151,.q dm dJ b_.aE),(152,.i gF)] [e0,4,bG bj,bJ bj+(gF).toNat* 1] (fun a7 ad=>(aw (b9 ad atJ) (aw (b9 ad (aZ (hm.e 0 rfl))) ax))) I fun a I=>?_;obtain ⟨DX,aDU,h⟩:=J.aF h;obtain ⟨am',ax2,aJy,adI,atK⟩:=bZ _ (hm.d 10 rfl) aDU;obtain ⟨PL,Qn,aBO⟩:=fW adI;subst aBO;have hm:=hm.more (y:=U J.bR PL Qn DX) adI;refine eM wn (fun a7 ad=>bF Tryz.underlying28 Tryz.sizeOf126 rfl (I.g rfl) (I.g rfl) am' ax2) I rfl rfl fun a I=>?_
       refine dM 3 [0,0] [(156,.bool (!decide ((Bd.length:Int)=(DX.length:Int))))] [bG dm,bJ dm+(gF).toNat* 1] (fun a7 ad=>(aw (b9 ad atK) ax)) I fun a I=>wpQuiet_nil fun w ad=>?_;have hm:=hm.dB ad;clear ad;refine sn _ _ <| bi (I.g rfl) h (fun arb h=>?_) (fun arb h=>?_)
       · refine bt [] [(4,.bool false)] I fun a I=>wp_ret ?_;obtain rfl:=aB h;obtain rfl:=aB LL;obtain rfl:=aB LK;refine ak (a6 (ak (ak (ak (a6 (ak (ak ?_)))))));refine bn Tryz.results85 I rfl ?_;exact ⟨rfl,hm.aW [] []⟩
       refine wp_skip <| tU _ _ <| bc [] [(11,.i 0)] I fun a I=>?_;obtain ⟨V9,h,TN⟩:=J.e3 h
       refine cb (fun a w=>Fr ⟨184,[]⟩ [(2,.aL cB),(3,.aL e0),(10,.i gF)] a/\au W M0 X w [aq.bm e0 30 [.q bB bC b_.aJ,.q bL bN b_.aG,.q eE eL b_.Fields,.q eF eS b_.Names,.q dm dJ b_.aE],aq.bm cB 30 [.q ag ah a_.aJ,.q aI aQ a_.aG,.q aT aV a_.Fields,.q bl bp a_.Names,.q bj bk a_.aE]] [U J.bR PL Qn DX,U J.bR PK Qm Bd,U J.bd ag ah a_.aJ,U (aj .i64) aI aQ a_.aG,U (aH J.aX) aT aV a_.Fields,U (aH bz) bl bp a_.Names,U (aH J.bR) bj bk a_.aE,U J.bd bB bC b_.aJ,U (aj .i64) bL bN b_.aG,U (aH J.aX) eE eL b_.Fields,U (aH bz) eF eS b_.Names,U (aH J.bR) dm dJ b_.aE]/\V9=(.go ())) (fun K tW=>?_) ?_
       · refine cA (fun (jE:Nat) a w=>∃ (lh:Int),Fr ⟨184,[]⟩ [(2,.aL cB),(3,.aL e0),(10,.i gF),(11,.i lh)] a/\au W M0 X w [aq.bm e0 30 [.q bB bC b_.aJ,.q bL bN b_.aG,.q eE eL b_.Fields,.q eF eS b_.Names,.q dm dJ b_.aE],aq.bm cB 30 [.q ag ah a_.aJ,.q aI aQ a_.aG,.q aT aV a_.Fields,.q bl bp a_.Names,.q bj bk a_.aE]] [U J.bR PL Qn DX,U J.bR PK Qm Bd,U J.bd ag ah a_.aJ,U (aj .i64) aI aQ a_.aG,U (aH J.aX) aT aV a_.Fields,U (aH bz) bl bp a_.Names,U (aH J.bR) bj bk a_.aE,U J.bd bB bC b_.aJ,U (aj .i64) bL bN b_.aG,U (aH J.aX) eE eL b_.Fields,U (aH bz) eF eS b_.Names,U (aH J.bR) dm dJ b_.aE]/\J.wY a_ b_ gF jE lh=some V9) F ⟨0,I.cut,hm,h⟩ ?_ ?_
         · rintro a w ⟨lh,I,hm,h⟩;exact absurd h (by simp [J.wY])
         rintro jE a w ⟨lh,I,hm,h⟩ K F5;rw [J.wY] at h;refine wp_seq_k fun K CE=>wp_seq_k fun K xH=>aY <| bf 4 [0,4] [(157,.i lh),(159,.q bj bk a_.aE),(160,.i gF)] [cB,4] (aw (aZ (hm.e 1 rfl)) ax) I fun a I=>?_;obtain ⟨Ot,aDV,h⟩:=J.aF h;obtain ⟨ana,ax3,aJz,adJ,atL⟩:=bZ _ (hm.d 6 rfl) aDV;obtain ⟨ahu,aiq,aBP⟩:=fW adJ;subst aBP;have hm:=hm.more (y:=U J.bR ahu aiq Ot) adJ;refine bQ wn (bF Tryz.underlying28 Tryz.sizeOf126 rfl (I.g rfl) (I.g rfl) ana ax3) I rfl rfl fun a I=>?_
         refine bf 3 [0,0] [(164,.bool (decide (lh <(Ot.length:Int))))] [bG bj,bJ bj+(gF).toNat* 1] (aw atL ax) I fun a I=>wpList_nil (xH _ _ ?_);refine bi (I.g rfl) h (fun arc h=>?_) (fun arc h=>?_)
         · refine wp_skip <| CE _ _ <| wp_seq_k fun K zP=>wp_block <| wp_seq_k fun K tX=>hF (by kernel_rfl) (by kernel_rfl) <| dM 3 [0,4] [(168,.q bj bk a_.aE),(169,.i gF)] [cB,4] (fun a7 ad=>(aw (b9 ad (aZ (hm.e 1 rfl))) ax)) I fun a I=>?_;obtain ⟨Ou,aDW,h⟩:=J.aF h;obtain ⟨anb,ax4,aJA,adK,atM⟩:=bZ _ (hm.d 7 rfl) aDW;obtain ⟨JT,aa4,aBQ⟩:=fW adK;subst aBQ;have hm:=hm.more (y:=U J.bR JT aa4 Ou) adK;refine eM wn (fun a7 ad=>bF Tryz.underlying28 Tryz.sizeOf126 rfl (I.g rfl) (I.g rfl) anb ax4) I rfl rfl fun a I=>?_
           refine dM 2 [0,0] [(171,.q JT aa4 Ou),(172,.i lh)] [bG bj,bJ bj+(gF).toNat* 1] (fun a7 ad=>(aw (b9 ad atM) ax)) I fun a I=>?_;obtain ⟨I0,aDX,h⟩:=J.aF h;obtain ⟨anc,ax5,_,rfl,atN⟩:=bZ _ (hm.d 0 rfl) aDX;refine eM wn (fun a7 ad=>bF Tryz.underlying126 Tryz.sizeOf159 rfl (I.g rfl) (I.g rfl) anc ax5) I rfl rfl fun a I=>dM 4 [0,0,1,4] [(174,.agg #[.i I0.aN,.i I0.Method]),(176,.q dm dJ b_.aE),(177,.i gF)] [e0,4,bG JT,bJ JT+(lh).toNat* 2] (fun a7 ad=>(aw (b9 ad atN) (aw (b9 ad (aZ (hm.e 0 rfl))) ax))) I fun a I=>?_
           obtain ⟨Ov,aDY,h⟩:=J.aF h;obtain ⟨ane,ax6,aJB,adL,atO⟩:=bZ _ (hm.d 13 rfl) aDY;obtain ⟨JU,aa5,aBR⟩:=fW adL;subst aBR;have hm:=hm.more (y:=U J.bR JU aa5 Ov) adL;refine eM wn (fun a7 ad=>bF Tryz.underlying28 Tryz.sizeOf126 rfl (I.g rfl) (I.g rfl) ane ax6) I rfl rfl fun a I=>dM 2 [0,0] [(179,.q JU aa5 Ov),(180,.i lh)] [bG dm,bJ dm+(gF).toNat* 1] (fun a7 ad=>(aw (b9 ad atO) ax)) I fun a I=>?_;obtain ⟨I1,aDZ,h⟩:=J.aF h;obtain ⟨anf,ax7,_,rfl,atP⟩:=bZ _ (hm.d 0 rfl) aDZ
           refine eM wn (fun a7 ad=>bF Tryz.underlying126 Tryz.sizeOf159 rfl (I.g rfl) (I.g rfl) anf ax7) I rfl rfl fun a I=>dM 1 [0,0] [(182,.agg #[.i I1.aN,.i I1.Method])] [bG JU,bJ JU+(lh).toNat* 2] (fun a7 ad=>(aw (b9 ad atP) ax)) I fun a I=>eM wn (fun a7 ad=>acd (X:=I0) (Y:=I1) rfl (I.g rfl) (I.g rfl)) I rfl rfl fun a I=>wpQuiet_nil fun w ad=>?_;have hm:=hm.dB ad;clear ad;refine tX _ _ <| bi (I.g rfl) h (fun ard h=>?_) (fun ard h=>?_)
           · refine bt [] [(4,.bool false)] I fun a I=>wp_ret ?_;obtain rfl:=aB h;obtain rfl:=aB TN;obtain rfl:=aB LL;obtain rfl:=aB LK;refine a6 (ak (ak (a6 (ak (a6 (ak (ak (ak (a6 (ak (ak ?_)))))))))));refine bn Tryz.results85 I rfl ?_;exact ⟨rfl,hm.aW [] []⟩
           refine wp_skip <| zP _ _ <| DB [] [(2,.aL cB),(3,.aL e0),(10,.i gF),(11,.i (J.ap (lh+ 1)))] I fun a I=>?_;exact F5 _ _ ⟨J.ap (lh+ 1),I.cut,hm.ec [3,4,5,6,7,8,9,10,11,12,13,14],h⟩
         refine wp_exit <| bx (bx (cw ?_));exact tW _ _ ⟨I.cut,hm.ec [1,2,3,4,5,6,7,8,9,10,11,12],(os h)⟩
       rintro a w ⟨I,hm,bb⟩;subst V9;have h:=TN;clear TN;dsimp only [J.eV] at h;exact tT _ _ ⟨I.cut,hm.ec [2,3,4,5,6,7,8,9,10,11],(os h)⟩
     rintro a w ⟨I,hm,bb⟩;subst aeQ;have h:=LL;clear LL;dsimp only [J.eV] at h;refine sm _ _ <| ch [] [(10,.i (J.ap (gF+ 1)))] I fun a I=>?_;exact oy _ _ ⟨J.ap (gF+ 1),I.cut,hm,h⟩
   refine wp_exit <| bx (bx (cw ?_));exact q3 _ _ ⟨I.cut,hm,(os h)⟩
 rintro a w ⟨I,hm,bb⟩;subst VU;have h:=LK;clear LK;dsimp only [J.dZ] at h;refine my _ _ <| bt [] [(4,.bool true)] I fun a I=>wp_ret ?_;obtain rfl:=aB h;refine bn Tryz.results85 I rfl ?_;exact ⟨rfl,hm.aW [] []⟩
theorem tJ {W:World} {X:List Nat} {F:Nat} {aK:List J.aN} {sO:List UInt8} {r:Int} {ag:aS} {ah:Nat} {M0:List Nat} (hm:au W M0 X W [] [U J.bd ag ah aK]) (h:J.n6 F aK sO=some r) :
 Calls Tryz.prog 112 [.q ag ah aK,ao sO].toArray W (fun e aD=>e= .returned (.i r)/\au W M0 X aD [] []):=by
 refine enter Tryz.func112 rfl Tryz.ntmps112 rfl fun a I=>?_;rw [J.n6] at h;refine bc [] [] I fun a I=>wp_seq_k fun K bI=>bc [] [(5,.i 0)] I fun a I=>?_;obtain ⟨VL,h,Th⟩:=J.ef h;refine cb (fun a w=>Fr ⟨20,[]⟩ [] a/\au W M0 X w [] [U J.bd ag ah aK]/\VL=(.go ())) (fun K cY=>?_) ?_
 · refine cA (fun (bu:Nat) a w=>∃ (m0:Int),Fr ⟨20,[]⟩ [(0,.q ag ah aK),(1,ao sO),(5,.i m0)] a/\au W M0 X w [] [U J.bd ag ah aK]/\J.wK aK sO bu m0=some VL) F ⟨0,I.cut,hm,h⟩ ?_ ?_
   · rintro a w ⟨m0,I,hm,h⟩;exact absurd h (by simp [J.wK])
   rintro bu a w ⟨m0,I,hm,h⟩ K cu;rw [J.wK] at h;refine wp_seq_k fun K dL=>bc [] [(9,.bool (decide (m0 <(aK.length:Int))))] I fun a I=>bi (I.g rfl) h (fun ark h=>?_) (fun ark h=>?_)
   · refine wp_skip <| dL _ _ <| wp_seq_k fun K cO=>wp_block <| wp_seq_k fun K dp=>aY <| aP 2 [] [(12,.q ag ah aK),(13,.i m0)] I fun a I=>?_;obtain ⟨I2,aD4,h⟩:=J.aF h;obtain ⟨anm,ayd,_,⟨ahx,ait,ahy,aiu,rfl,avC,Ls⟩,atY⟩:=bZ _ (hm.d 0 rfl) aD4;have hm:=hm.more (y:=U J.aX ahx ait I2.Fields) avC;have hm:=hm.more (y:=U J.b2 ahy aiu I2.aR) Ls;refine bQ wn (bF Tryz.underlying25 Tryz.sizeOf136 rfl (I.g rfl) (I.g rfl) anm ayd) I rfl rfl fun a I=>?_
     refine bf 4 [0,0] [(18,.bool (decide (I2.Name=sO)))] [bG ag,bJ ag+(m0).toNat* 4 + 0] (aw atY ax) I fun a I=>wpList_nil (dp _ _ ?_);refine bi (I.g rfl) h (fun RF h=>?_) (fun RF h=>?_)
     · refine bt [] [(4,.i m0)] I fun a I=>wp_ret ?_;obtain rfl:=aB h;obtain rfl:=aB Th;refine a6 (ak (ak (a6 (ak (ak ?_)))));refine bn Tryz.results112 I rfl ?_;exact ⟨rfl,hm.aW [] []⟩
     refine wp_skip <| cO _ _ <| ch [] [(5,.i (J.ap (m0+ 1)))] I fun a I=>?_;exact cu _ _ ⟨J.ap (m0+ 1),I.cut,hm.ec [2],h⟩
   refine wp_exit <| bx (bx (cw ?_));exact cY _ _ ⟨I.cut,hm,(os h)⟩
 rintro a w ⟨I,hm,bb⟩;subst VL;have h:=Th;clear Th;dsimp only [J.dZ] at h;refine bI _ _ <| bt [] [(4,.i (-1))] I fun a I=>wp_ret ?_;obtain rfl:=aB h;refine bn Tryz.results112 I rfl ?_;exact ⟨rfl,hm.aW [] []⟩
theorem KX {W:World} {X:List Nat} {F:Nat} {aK:List J.aN} {bY:Int} {r:List Int} {ag:aS} {ah:Nat} {M0:List Nat} (hm:au W M0 X W [] [U J.bd ag ah aK]) (h:J.w2 F aK bY=some r) :
 Calls Tryz.prog 136 [.q ag ah aK,.i bY].toArray W (fun e aD=>∃ vS:Option Addr,∃ xc:Nat,e= .returned (.q vS xc r)/\au W M0 X aD [] [U (aj .i64) vS xc r]):=by
 refine enter Tryz.func136 rfl Tryz.ntmps136 rfl fun a I=>?_;rw [J.w2] at h;refine bc [] [] I fun a I=>bc [] [(5,.slice none 0 0)] I fun a I=>wp_seq_k fun K ca=>?_;obtain ⟨UT,h,Sl⟩:=J.ef h;refine cb (fun a w=>∃ (l_:aS) (mh:Nat) (AB:eK),Fr ⟨25,[]⟩ [(5,.q l_ mh AB)] a/\au W M0 X w [] [U (aj .i64) l_ mh AB,U J.bd ag ah aK]/\UT=(.go AB)) (fun K cY=>?_) ?_
 · have hm:=hm.cV (α:=Int) 3 1;have hm:=hm.more (y:=al.rows (aj .i64) [] []) rfl;have hm:=hm.more (y:=al.of (aH (aj .i64)) [.slice none 0 0] ([]:eK)) (i_ _ _ _);refine cA (fun (bu:Nat) a w=>∃ (lc:Int) (Bq:aS) (B8:Nat) (pz:eK),Fr ⟨25,[]⟩ [(0,.q ag ah aK),(1,.i lc),(5,.q Bq B8 pz)] a/\au W M0 X w [] [U (aj .i64) Bq B8 pz,U J.bd ag ah aK]/\J.w3 F aK bu lc pz=some UT) F ⟨bY,none,0,[],I.cut,hm.aW [] [0,2],h⟩ ?_ ?_
   · rintro a w ⟨lc,Bq,B8,pz,I,hm,h⟩;exact absurd h (by simp [J.w3])
   rintro bu a w ⟨lc,Bq,B8,pz,I,hm,h⟩ K cu;rw [J.w3] at h;refine wp_seq_k fun K dL=>bc [] [(7,.bool (decide (0 <=lc)))] I fun a I=>bi (I.g rfl) h (fun apj h=>?_) (fun apj h=>?_)
   · refine wp_skip <| dL _ _ <| wp_block <| wp_seq_k fun K cO=>bc [] [(12,.bool (decide ((aK.length:Int) <(pz.length:Int))))] I fun a I=>bi (I.g rfl) h (fun zU h=>?_) (fun zU h=>?_)
     · refine bt [] [(4,.slice none 0 0)] I fun a I=>wp_ret ?_;obtain rfl:=aB h;obtain rfl:=aB Sl;refine ak (a6 (ak (a6 (ak (ak ?_)))));refine bn Tryz.results136 I rfl ?_;have hm:=hm.more (y:=al.of (aH (aj .i64)) [.slice none 0 0] ([]:eK)) (i_ _ _ _);exact ⟨none,0,rfl,hm.aW [] [0]⟩
     refine wp_skip <| cO _ _ <| wp_seq_k fun K dA=>aY <| aP 1 [] [(13,.i lc)] I fun a I=>gw (cs:=[.i lc]) wn (fX (vs:=[(0,.i lc)]) Tryz.underlying22 Tryz.sizeOf3 Tryz.zeroValue3 rfl rfl rfl ⟨⟨(I.g rfl),rfl⟩,trivial⟩ (by kernel_rfl)) I hm rfl rfl fun a aJR w _ I hm=>aP 1 [] [(15,.q Bq B8 pz)] I fun a I=>?_;obtain ⟨HX,ayP,h⟩:=J.aF h;have hm:=hm.jH (sz:=1) 0 [lc] rfl rfl rfl rfl;have hm:=hm.more (y:=al.rows (aj .i64) [.i lc] [lc]) ⟨_,_,rfl,rfl,rfl⟩
     refine nM (T:=(aj .i64)) 0 0 1 hm rfl rfl rfl Tryz.underlying22 jC rfl rfl ayP rfl wn rfl (I.g rfl) (I.g rfl) I rfl rfl fun a Y8 aay aKA w I hm=>aP 1 [] [(5,.q Y8 aay HX)] I fun a I=>wpList_nil (dA _ _ ?_);refine aY <| aP 3 [] [(17,.q ag ah aK),(18,.q ag ah aK),(19,.i lc)] I fun a I=>?_;obtain ⟨A7,aCn,h⟩:=J.aF h;obtain ⟨alw,awn,_,⟨aha,ah6,ahb,ah7,rfl,auy,auz⟩,ar6⟩:=bZ _ (hm.d 3 rfl) aCn;have hm:=hm.more (y:=U J.aX aha ah6 A7.Fields) auy
     have hm:=hm.more (y:=U J.b2 ahb ah7 A7.aR) auz;refine bQ wn (bF Tryz.underlying25 Tryz.sizeOf136 rfl (I.g rfl) (I.g rfl) alw awn) I rfl rfl fun a I=>bf 2 [0,1] [(22,ao A7.bW)] [bG ag,bJ ag+(lc).toNat* 4 + 1] (aw ar6 ax) I fun a I=>?_;obtain ⟨MV,az6,h⟩:=J.aF h;have hc:=hm;refine bP (vs:=[.q ag ah aK,ao A7.bW]) wn rfl Tryz.call112 ⟨(I.g rfl),(I.g rfl),trivial⟩ (tJ ((hc.into 0).pick ⟨⟨5,rfl⟩,trivial⟩) az6) I rfl rfl ?_;rintro _ w ⟨rfl,af⟩;refine ⟨_,rfl,fun a I=>?_⟩;have ad:a' [] _ w:=af.ev;have hm:=hc.back 0 af
     clear af hc;clear ad;refine aP 1 [] [(1,.i MV)] I fun a I=>wpList_nil ?_;have hm:=hm.freeze 0 2 rfl rfl;exact cu _ _ ⟨MV,Y8,aay,HX,I.cut,hm.ec [0,6],h⟩
   refine wp_exit <| bx (bx (cw ?_));exact cY _ _ ⟨Bq,B8,pz,I.cut,hm,(os h)⟩
 rintro a w ⟨l_,mh,AB,I,hm,bb⟩;subst UT;have h:=Sl;clear Sl;dsimp only [J.dZ] at h;refine ca _ _ <| bt [] [(4,.q l_ mh AB)] I fun a I=>wp_ret ?_;obtain rfl:=aB h;refine bn Tryz.results136 I rfl ?_;exact ⟨l_,mh,rfl,hm.aW [] [0]⟩
theorem Qx {W:World} {X:List Nat} {F:Nat} {aK:List J.aN} {kinds_:List J.Kind} {r:Bool} {ag:aS} {ah:Nat} {aI:aS} {aQ:Nat} {M0:List Nat} (hm:au W M0 X W [] [U J.bd ag ah aK,U J.dx aI aQ kinds_]) (h:J.zm F aK kinds_=some r) :
 Calls Tryz.prog 137 [.q ag ah aK,.q aI aQ kinds_].toArray W (fun e aD=>e= .returned (.bool r)/\au W M0 X aD [] []):=by
 refine enter Tryz.func137 rfl Tryz.ntmps137 rfl fun a I=>?_;rw [J.zm] at h;refine bc [] [] I fun a I=>wp_seq_k fun K bI=>bc [] [(5,.i 0)] I fun a I=>?_;obtain ⟨Az,h,xS⟩:=J.ef h;refine cb (fun a w=>Fr ⟨28,[]⟩ [] a/\au W M0 X w [] [U J.bd ag ah aK,U J.dx aI aQ kinds_]/\Az=(.go ())) (fun K cY=>?_) ?_
 · refine cA (fun (bu:Nat) a w=>∃ (km:Int),Fr ⟨28,[]⟩ [(0,.q ag ah aK),(1,.q aI aQ kinds_),(5,.i km)] a/\au W M0 X w [] [U J.bd ag ah aK,U J.dx aI aQ kinds_]/\J.ts F kinds_ aK bu km=some Az) F ⟨0,I.cut,hm,h⟩ ?_ ?_
   · rintro a w ⟨km,I,hm,h⟩;exact absurd h (by simp [J.ts])
   rintro bu a w ⟨km,I,hm,h⟩ K cu;rw [J.ts] at h;refine wp_seq_k fun K dL=>bc [] [(9,.bool (decide (km <(kinds_.length:Int))))] I fun a I=>bi (I.g rfl) h (fun arv h=>?_) (fun arv h=>?_)
   · refine wp_skip <| dL _ _ <| wp_seq_k fun K cO=>wp_block <| wp_seq_k fun K dp=>aY <| aP 2 [] [(12,.q aI aQ kinds_),(13,.i km)] I fun a I=>?_;obtain ⟨Oz,aEk,h⟩:=J.aF h;obtain ⟨anG,ayv,_,rfl,arA⟩:=bZ _ (hm.d 1 rfl) aEk;refine bQ wn (bF Tryz.underlying130 Tryz.sizeOf103 rfl (I.g rfl) (I.g rfl) anG ayv) I rfl rfl fun a I=>bf 4 [0,1] [(18,.bool (!decide (Oz.aN= [])))] [bG aI,bJ aI+(km).toNat* 2 + 1] (aw arA ax) I fun a I=>?_;rcases Bool.eq_false_or_eq_true (!decide (Oz.aN= [])) with t_ | t_
     · have h:=J.di t_ h;have I:=I.b5 18 rfl t_;refine aP 3 [1,1,1] [(19,.q ag ah aK),(20,.q aI aQ kinds_),(21,.i km)] I fun a I=>?_;obtain ⟨NG,aBW,h⟩:=J.aF h;obtain ⟨ak2,avV,_,rfl,arC⟩:=bZ _ (hm.d 1 rfl) aBW;refine bQ (c1 I rfl rfl rfl rfl) (bF Tryz.underlying130 Tryz.sizeOf103 rfl (I.g rfl) (I.g rfl) ak2 avV) I rfl rfl fun a I=>bf 2 [1,1,0,1] [(24,ao NG.aN)] [bG aI,bJ aI+(km).toNat* 2 + 1] (aw arC ax) I fun a I=>?_;obtain ⟨W1,azH,h⟩:=J.aF h;have hc:=hm
       refine bP (vs:=[.q ag ah aK,ao NG.aN]) (c1 I rfl rfl rfl rfl) rfl Tryz.call112 ⟨(I.g rfl),(I.g rfl),trivial⟩ (tJ ((hc.into 0).pick ⟨⟨0,rfl⟩,trivial⟩) azH) I rfl rfl ?_;rintro _ w ⟨rfl,af⟩;refine ⟨_,rfl,fun a I=>?_⟩;have hm:=hc.back 0 af;clear af hc;refine aP 2 [1,1] [(27,.bool (decide (W1 < 0)))] I fun a I=>wpList_nil (dp _ _ ?_);refine bi (I.g rfl) h (fun aoO h=>?_) (fun aoO h=>?_)
       · refine bt [] [(4,.bool false)] I fun a I=>wp_ret ?_;obtain rfl:=aB h;obtain rfl:=aB xS;refine a6 (ak (ak (a6 (ak (ak ?_)))));refine bn Tryz.results137 I rfl ?_;exact ⟨rfl,hm.aW [] []⟩
       refine wp_skip <| cO _ _ <| ch [] [(5,.i (J.ap (km+ 1)))] I fun a I=>?_;exact cu _ _ ⟨J.ap (km+ 1),I.cut,hm,h⟩
     have h:=J.dh t_ h;have I:=I.b5 18 rfl t_;refine aP 9 [1,1,1,1,1,1,1,1,1] [(27,.bool false)] I fun a I=>wpList_nil (dp _ _ ?_);refine ij (I.g rfl) rfl <| wp_skip <| cO _ _ <| ch [] [(5,.i (J.ap (km+ 1)))] I fun a I=>?_;exact cu _ _ ⟨J.ap (km+ 1),I.cut,hm,h⟩
   refine wp_exit <| bx (bx (cw ?_));exact cY _ _ ⟨I.cut,hm,(os h)⟩
 rintro a w ⟨I,hm,bb⟩;subst Az;have h:=xS;clear xS;dsimp only [J.dZ] at h;refine bI _ _ <| bt [] [(4,.bool true)] I fun a I=>wp_ret ?_;obtain rfl:=aB h;refine bn Tryz.results137 I rfl ?_;exact ⟨rfl,hm.aW [] []⟩
theorem Qw {W:World} {X:List Nat} {F:Nat} {aK:List J.aN} {bY:Int} {r:List J.Field} {ag:aS} {ah:Nat} {M0:List Nat} (hm:au W M0 X W [] [U J.bd ag ah aK]) (h:J.zi F aK bY=some r) :
 Calls Tryz.prog 110 [.q ag ah aK,.i bY].toArray W (fun e aD=>∃ Y':Option Addr,∃ aaB:Nat,∃ agN:List Value,e= .returned (.q Y' aaB r)/\au W M0 X aD [aq.row 105 3 (.q Y' aaB r) r agN] [al.rows J.aX agN r]):=by
 refine enter Tryz.func110 rfl Tryz.ntmps110 rfl fun a I=>?_;rw [J.zi] at h;refine bc [] [] I fun a I=>bc [] [(5,.slice none 0 0)] I fun a I=>wp_seq_k fun K ca=>aY <| aP 2 [] [(8,.q ag ah aK),(9,.i bY)] I fun a I=>?_;obtain ⟨ez,Ap,h⟩:=J.aF h;have hc:=hm;refine bP (vs:=[.q ag ah aK,.i bY]) wn rfl Tryz.call136 ⟨(I.g rfl),(I.g rfl),trivial⟩ (KX ((hc.into 0).pick ⟨⟨0,rfl⟩,trivial⟩) Ap) I rfl rfl ?_;rintro _ w ⟨aT,aV,rfl,af⟩;refine ⟨_,rfl,fun a I=>?_⟩;have ad:a' [] _ w:=af.ev;have hm:=hc.back 0 af
 clear af hc;clear ad;refine aP 1 [] [(6,.q aT aV ez)] I fun a I=>wpList_nil (ca _ _ ?_);refine wp_seq_k fun K cY=>bc [] [(7,.i 0)] I fun a I=>?_;have hm:=hm.cV (α:=J.Field) 105 3;have hm:=hm.more (y:=al.rows J.aX [] []) rfl;obtain ⟨Vc,h,SH⟩:=J.aF h
 refine cb (fun a w=>∃ (Ej:aS) (Fa:Nat) (uD:List J.Field) (OI:dF),Fr ⟨28,[]⟩ [(5,.q Ej Fa uD)] a/\au W M0 X w [aq.row 105 3 (.q Ej Fa uD) uD OI] [al.rows J.aX OI uD,U (aj .i64) aT aV ez,U J.bd ag ah aK]/\Vc=uD) (fun K dL=>?_) ?_
 · clear SH;refine cA (fun (bu:Nat) a w=>∃ (Bw:aS) (Cb:Nat) (pI:List J.Field) (Jb:dF) (oU:Int),Fr ⟨28,[]⟩ [(0,.q ag ah aK),(5,.q Bw Cb pI),(6,.q aT aV ez),(7,.i oU)] a/\au W M0 X w [aq.row 105 3 (.q Bw Cb pI) pI Jb] [al.rows J.aX Jb pI,U (aj .i64) aT aV ez,U J.bd ag ah aK]/\J.qG aK ez bu pI oU=some Vc) F ⟨none,0,[],[],0,I.cut,hm,h⟩ ?_ ?_
   · rintro a w ⟨Bw,Cb,pI,Jb,oU,I,hm,h⟩;exact absurd h (by simp [J.qG])
   rintro bu a w ⟨Bw,Cb,pI,Jb,oU,I,hm,h⟩ K dt;rw [J.qG] at h;refine wp_seq_k fun K cO=>bc [] [(14,.bool (decide (oU <(ez.length:Int))))] I fun a I=>bi (I.g rfl) h (fun apJ h=>?_) (fun apJ h=>?_)
   · refine wp_skip <| cO _ _ <| wp_seq_k fun K da=>wp_block <| aY <| aP 4 [] [(17,.q Bw Cb pI),(18,.q ag ah aK),(19,.q aT aV ez),(20,.i oU)] I fun a I=>?_;obtain ⟨NR,aCB,h⟩:=J.aF h;obtain ⟨alM,awC,_,rfl,asj⟩:=bZ _ (hm.d 1 rfl) aCB;refine bQ wn (bF Tryz.underlying22 Tryz.sizeOf3 rfl (I.g rfl) (I.g rfl) alM awC) I rfl rfl fun a I=>bf 1 [0,0] [(22,.i NR)] [bG aT,bJ aT+(oU).toNat* 1] (aw asj ax) I fun a I=>?_;obtain ⟨IV,aCD,h⟩:=J.aF h;obtain ⟨alO,awE,_,⟨Y_,aaA,ahf,aia,rfl,auQ,auR⟩,asm⟩:=bZ _ (hm.d 2 rfl) aCD
     have hm:=hm.more (y:=U J.aX Y_ aaA IV.Fields) auQ;have hm:=hm.more (y:=U J.b2 ahf aia IV.aR) auR;refine bQ wn (bF Tryz.underlying25 Tryz.sizeOf136 rfl (I.g rfl) (I.g rfl) alO awE) I rfl rfl fun a I=>bf 2 [0,2] [(25,.q Y_ aaA IV.Fields)] [bG ag,bJ ag+(NR).toNat* 4 + 2] (aw asm ax) I fun a I=>?_;obtain ⟨Mf,ayU,h⟩:=J.aF h;refine nM (T:=J.aX) 0 2 1 hm rfl rfl rfl Tryz.underlying106 UN rfl rfl ayU rfl wn rfl (I.g rfl) (I.g rfl) I rfl rfl fun a BA Cg aHL w I hm=>?_
     refine aP 1 [] [(5,.q BA Cg Mf)] I fun a I=>wpList_nil (da _ _ ?_);refine ch [] [(7,.i (J.ap (oU+ 1)))] I fun a I=>?_;exact dt _ _ ⟨BA,Cg,Mf,aHL,J.ap (oU+ 1),I.cut,hm.ec [0,4,5],h⟩
   refine wp_exit <| bx (bx (cw ?_));exact dL _ _ ⟨Bw,Cb,pI,Jb,I.cut,hm,(os h)⟩
 rintro a w ⟨Ej,Fa,uD,OI,I,hm,bb⟩;subst Vc;have h:=SH;clear SH;refine cY _ _ <| bt [] [(4,.q Ej Fa uD)] I fun a I=>wp_ret ?_;obtain rfl:=aB h;refine bn Tryz.results110 I rfl ?_;exact ⟨Ej,Fa,OI,rfl,hm.aW [0] [0]⟩
theorem aiO {W:World} {X:List Nat} {F:Nat} {aK:List J.aN} {bY:Int} {r:(List (List UInt8)) × (List J.Target)} {ag:aS} {ah:Nat} {M0:List Nat} (hm:au W M0 X W [] [U J.bd ag ah aK]) (h:J.EZ F aK bY=some r) :
 Calls Tryz.prog 111 [.q ag ah aK,.i bY].toArray W (fun e aD=>∃ Zw:Option Addr,∃ aaZ:Nat,∃ agV:List Value,∃ Zx:Option Addr,∃ aa0:Nat,∃ agW:List Value,e= .returned (.tuple #[.q Zw aaZ r.1,.q Zx aa0 r.2])/\au W M0 X aD [aq.row 9 1 (.q Zw aaZ r.1) r.1 agV,aq.row 159 2 (.q Zx aa0 r.2) r.2 agW] [al.rows bz agV r.1,al.rows J.bR agW r.2]):=by
 refine enter Tryz.func111 rfl Tryz.ntmps111 rfl fun a I=>?_;rw [J.EZ] at h;refine bc [] [] I fun a I=>bc [] [(6,.slice none 0 0)] I fun a I=>bc [] [(7,.slice none 0 0)] I fun a I=>wp_seq_k fun K cY=>aY <| aP 2 [] [(13,.q ag ah aK),(14,.i bY)] I fun a I=>?_;obtain ⟨ez,Ap,h⟩:=J.aF h;have hc:=hm;refine bP (vs:=[.q ag ah aK,.i bY]) wn rfl Tryz.call136 ⟨(I.g rfl),(I.g rfl),trivial⟩ (KX ((hc.into 0).pick ⟨⟨0,rfl⟩,trivial⟩) Ap) I rfl rfl ?_
 rintro _ w ⟨aT,aV,rfl,af⟩;refine ⟨_,rfl,fun a I=>?_⟩;have hm:=hc.back 0 af;clear af hc;refine aP 1 [] [(8,.q aT aV ez)] I fun a I=>wpList_nil (cY _ _ ?_);refine wp_seq_k fun K cu=>bc [] [(9,.i 0)] I fun a I=>?_;have hm:=hm.cV (α:=List UInt8) 9 1;have hm:=hm.more (y:=al.rows bz [] []) rfl;have hm:=hm.cV (α:=J.Target) 159 2;have hm:=hm.more (y:=al.rows J.bR [] []) rfl;obtain ⟨VS,h,Tp⟩:=J.aF h
 refine cb (fun a w=>∃ (Ez:aS) (Fu:Nat) (uN:List J.Target) (OW:dF) (EA:aS) (Fv:Nat) (uO:List (List UInt8)) (OX:dF),Fr ⟨84,[]⟩ [(6,.q EA Fv uO),(7,.q Ez Fu uN)] a/\au W M0 X w [aq.row 159 2 (.q Ez Fu uN) uN OW,aq.row 9 1 (.q EA Fv uO) uO OX] [al.rows J.bR OW uN,al.rows bz OX uO,U (aj .i64) aT aV ez,U J.bd ag ah aK]/\VS=(uN,uO)) (fun K dt=>?_) ?_
 · clear Tp
   refine cA (fun (bu:Nat) a w=>∃ (BG:aS) (Cn:Nat) (pP:List J.Target) (D7:dF) (BH:aS) (Co:Nat) (pQ:List (List UInt8)) (D8:dF) (g4:Int),Fr ⟨84,[]⟩ [(0,.q ag ah aK),(6,.q BH Co pQ),(7,.q BG Cn pP),(8,.q aT aV ez),(9,.i g4)] a/\au W M0 X w [aq.row 159 2 (.q BG Cn pP) pP D7,aq.row 9 1 (.q BH Co pQ) pQ D8] [al.rows J.bR D7 pP,al.rows bz D8 pQ,U (aj .i64) aT aV ez,U J.bd ag ah aK]/\J.wZ F aK ez bu pP pQ g4=some VS) F ⟨none,0,[],[],none,0,[],[],0,I.cut,hm.ec [0,0,2,3],h⟩ ?_ ?_
   · rintro a w ⟨BG,Cn,pP,D7,BH,Co,pQ,D8,g4,I,hm,h⟩;exact absurd h (by simp [J.wZ])
   rintro bu a w ⟨BG,Cn,pP,D7,BH,Co,pQ,D8,g4,I,hm,h⟩ K cO;rw [J.wZ] at h;refine wp_seq_k fun K dp=>bc [] [(19,.bool (decide (g4 <(ez.length:Int))))] I fun a I=>bi (I.g rfl) h (fun aqX h=>?_) (fun aqX h=>?_)
   · refine wp_skip <| dp _ _ <| wp_seq_k fun K dA=>?_;obtain ⟨aeN,h,TG⟩:=J.aF h
     refine cb (fun a w=>∃ (JK:aS) (Kx:Nat) (uW:List J.Target) (O6:dF) (JL:aS) (Ky:Nat) (uX:List (List UInt8)) (O7:dF),Fr ⟨84,[]⟩ [(0,.q ag ah aK),(6,.q JL Ky uX),(7,.q JK Kx uW),(8,.q aT aV ez),(9,.i g4)] a/\au W M0 X w [aq.row 159 2 (.q JK Kx uW) uW O6,aq.row 9 1 (.q JL Ky uX) uX O7] [al.rows J.bR O6 uW,al.rows bz O7 uX,U (aj .i64) aT aV ez,U J.bd ag ah aK]/\aeN=(uW,uX)) (fun K d_=>?_) ?_
     · clear TG;refine bc [] [(10,.i 0)] I fun a I=>?_;obtain ⟨V5,h,TH⟩:=J.aF h
       refine cb (fun a w=>∃ (JM:aS) (Kz:Nat) (uY:List J.Target) (O8:dF) (JN:aS) (KA:Nat) (uZ:List (List UInt8)) (O9:dF),Fr ⟨84,[]⟩ [(0,.q ag ah aK),(6,.q JN KA uZ),(7,.q JM Kz uY),(8,.q aT aV ez),(9,.i g4)] a/\au W M0 X w [aq.row 159 2 (.q JM Kz uY) uY O8,aq.row 9 1 (.q JN KA uZ) uZ O9] [al.rows J.bR O8 uY,al.rows bz O9 uZ,U (aj .i64) aT aV ez,U J.bd ag ah aK]/\V5=(uY,uZ)) (fun K fx=>?_) ?_
       · clear TH
         refine cA (fun (c4:Nat) a w=>∃ (qB:aS) (qT:Nat) (iS:List J.Target) (sY:dF) (nb:aS) (pc:Nat) (gD:List (List UInt8)) (sZ:dF) (h6:Int),Fr ⟨84,[]⟩ [(0,.q ag ah aK),(6,.q nb pc gD),(7,.q qB qT iS),(8,.q aT aV ez),(9,.i g4),(10,.i h6)] a/\au W M0 X w [aq.row 159 2 (.q qB qT iS) iS sY,aq.row 9 1 (.q nb pc gD) gD sZ] [al.rows J.bR sY iS,al.rows bz sZ gD,U (aj .i64) aT aV ez,U J.bd ag ah aK]/\J.w0 F aK ez g4 c4 iS gD h6=some V5) F ⟨BG,Cn,pP,D7,BH,Co,pQ,D8,0,I.cut,hm,h⟩ ?_ ?_
         · rintro a w ⟨qB,qT,iS,sY,nb,pc,gD,sZ,h6,I,hm,h⟩;exact absurd h (by simp [J.w0])
         rintro c4 a w ⟨qB,qT,iS,sY,nb,pc,gD,sZ,h6,I,hm,h⟩ K fi;rw [J.w0] at h;refine wp_seq_k fun K gA=>wp_seq_k fun K hf=>aY <| aP 4 [] [(22,.i h6),(23,.q ag ah aK),(24,.q aT aV ez),(25,.i g4)] I fun a I=>?_;obtain ⟨Oo,aDM,h⟩:=J.aF h;obtain ⟨am2,axT,_,rfl,atA⟩:=bZ _ (hm.d 2 rfl) aDM;refine bQ wn (bF Tryz.underlying22 Tryz.sizeOf3 rfl (I.g rfl) (I.g rfl) am2 axT) I rfl rfl fun a I=>bf 1 [0,0] [(27,.i Oo)] [bG aT,bJ aT+(g4).toNat* 1] (aw atA ax) I fun a I=>?_;obtain ⟨pa,aDN,h⟩:=J.aF h
         obtain ⟨am3,axU,_,⟨EG,FC,EH,FD,rfl,avk,avl⟩,atB⟩:=bZ _ (hm.d 3 rfl) aDN;have hm:=hm.more (y:=U J.aX EG FC pa.Fields) avk;have hm:=hm.more (y:=U J.b2 EH FD pa.aR) avl;refine bQ wn (bF Tryz.underlying25 Tryz.sizeOf136 rfl (I.g rfl) (I.g rfl) am3 axU) I rfl rfl fun a I=>bf 4 [0,3] [(32,.bool (decide (h6 <(pa.aR.length:Int))))] [bG ag,bJ ag+(Oo).toNat* 4 + 3] (aw atB ax) I fun a I=>wpList_nil (hf _ _ ?_);refine bi (I.g rfl) h (fun aq6 h=>?_) (fun aq6 h=>?_)
         · refine wp_skip <| gA _ _ <| wp_seq_k fun K fy=>?_;obtain ⟨aeO,h,TI⟩:=J.aF h
           refine cb (fun a w=>∃ (JO:aS) (KB:Nat) (u0:List J.Target) (O_:dF) (JP:aS) (KC:Nat) (u1:List (List UInt8)) (O':dF),Fr ⟨84,[]⟩ [(0,.q ag ah aK),(6,.q JP KC u1),(7,.q JO KB u0),(8,.q aT aV ez),(9,.i g4),(10,.i h6)] a/\au W M0 X w [aq.row 159 2 (.q JO KB u0) u0 O_,aq.row 9 1 (.q JP KC u1) u1 O'] [al.rows J.bR O_ u0,al.rows bz O' u1,U J.b2 EH FD pa.aR,U J.aX EG FC pa.Fields,U (aj .i64) aT aV ez,U J.bd ag ah aK]/\aeO=(u0,u1)) (fun K fO=>?_) ?_
           · clear TI;refine wp_seq_k fun K fU=>aY <| aP 3 [] [(35,.q ag ah aK),(36,.q aT aV ez),(37,.i g4)] I fun a I=>?_;obtain ⟨Oq,aDO,h⟩:=J.aF h;obtain ⟨am4,axV,_,rfl,atC⟩:=bZ _ (hm.d 4 rfl) aDO;refine bQ wn (bF Tryz.underlying22 Tryz.sizeOf3 rfl (I.g rfl) (I.g rfl) am4 axV) I rfl rfl fun a I=>bf 1 [0,0] [(39,.i Oq)] [bG aT,bJ aT+(g4).toNat* 1] (aw atC ax) I fun a I=>?_;obtain ⟨rQ,aDP,h⟩:=J.aF h;obtain ⟨am5,axW,_,⟨JQ,KD,zb,FE,rfl,avm,avn⟩,atD⟩:=bZ _ (hm.d 5 rfl) aDP
             have hm:=hm.more (y:=U J.aX JQ KD rQ.Fields) avm;have hm:=hm.more (y:=U J.b2 zb FE rQ.aR) avn;refine bQ wn (bF Tryz.underlying25 Tryz.sizeOf136 rfl (I.g rfl) (I.g rfl) am5 axW) I rfl rfl fun a I=>bf 3 [0,3] [(42,.q zb FE rQ.aR),(43,.i h6)] [bG ag,bJ ag+(Oq).toNat* 4 + 3] (aw atD ax) I fun a I=>?_;obtain ⟨iL,aDQ,h⟩:=J.aF h;obtain ⟨am6,axX,_,⟨JR,KE,JS,KF,rfl,avo,avp⟩,atE⟩:=bZ _ (hm.d 0 rfl) aDQ
             have hm:=hm.more (y:=U J.dx JR KE iL.bD) avo;have hm:=hm.more (y:=U J.er JS KF iL.bH) avp;refine bQ wn (bF Tryz.underlying134 Tryz.sizeOf133 rfl (I.g rfl) (I.g rfl) am6 axX) I rfl rfl fun a I=>bf 3 [0,0] [(11,ao iL.Name)] [bG zb,bJ zb+(h6).toNat* 9 + 0] (aw atE ax) I fun a I=>wpList_nil (fU _ _ ?_);refine bc [] [(12,.i 0)] I fun a I=>wp_seq_k fun K gN=>?_;obtain ⟨V6,h,TJ⟩:=J.aF h
             refine cb (fun a w=>∃ (sN:Int),Fr ⟨84,[]⟩ [(0,.q ag ah aK),(6,.q nb pc gD),(7,.q qB qT iS),(8,.q aT aV ez),(9,.i g4),(10,.i h6),(11,ao iL.Name),(12,.i sN)] a/\au W M0 X w [aq.row 159 2 (.q qB qT iS) iS sY,aq.row 9 1 (.q nb pc gD) gD sZ] [U J.er JS KF iL.bH,U J.dx JR KE iL.bD,U J.b2 zb FE rQ.aR,U J.aX JQ KD rQ.Fields,U J.b2 EH FD pa.aR,U J.aX EG FC pa.Fields,al.rows J.bR sY iS,al.rows bz sZ gD,U (aj .i64) aT aV ez,U J.bd ag ah aK]/\V6=sN) (fun K hG=>?_) ?_
             · clear TJ
               refine cA (fun (eB:Nat) a w=>∃ (kJ:Int),Fr ⟨84,[]⟩ [(0,.q ag ah aK),(6,.q nb pc gD),(7,.q qB qT iS),(8,.q aT aV ez),(9,.i g4),(10,.i h6),(11,ao iL.Name),(12,.i kJ)] a/\au W M0 X w [aq.row 159 2 (.q qB qT iS) iS sY,aq.row 9 1 (.q nb pc gD) gD sZ] [U J.er JS KF iL.bH,U J.dx JR KE iL.bD,U J.b2 zb FE rQ.aR,U J.aX JQ KD rQ.Fields,U J.b2 EH FD pa.aR,U J.aX EG FC pa.Fields,al.rows J.bR sY iS,al.rows bz sZ gD,U (aj .i64) aT aV ez,U J.bd ag ah aK]/\J.tq gD iL eB kJ=some V6) F ⟨0,I.cut,hm,h⟩ ?_ ?_
               · rintro a w ⟨kJ,I,hm,h⟩;exact absurd h (by simp [J.tq])
               rintro eB a w ⟨kJ,I,hm,h⟩ K hY;rw [J.tq] at h;refine wp_seq_k fun K ht=>wp_seq_k fun K hv=>aY <| aP 5 [] [(51,.bool (decide (kJ <(gD.length:Int))))] I fun a I=>?_;rcases Bool.eq_false_or_eq_true (decide (kJ <(gD.length:Int))) with GX | GX
               · have h:=J.di GX h;have I:=I.b5 51 rfl GX;refine aP 2 [1,1] [(52,.q nb pc gD),(53,.i kJ)] I fun a I=>?_;obtain ⟨Yv,aDR,h⟩:=J.aF h;obtain ⟨am7,axY,_,rfl,atF⟩:=gi (hm.e 1 rfl) (hm.d 7 rfl) aDR;refine bQ (c1 I rfl rfl rfl rfl) (bF Tryz.underlying125 Tryz.sizeOf9 rfl (I.g rfl) (I.g rfl) am7 axY) I rfl rfl fun a I=>bf 4 [1,0,0,1,1,1] [(58,.bool (!decide (Yv=iL.Name)))] [bG nb,bJ nb+(kJ).toNat* 1] (aw atF ax) I fun a I=>wpList_nil (hv _ _ ?_);refine bi (I.g rfl) h (fun aq7 h=>?_) (fun aq7 h=>?_)
                 · refine wp_skip <| ht _ _ <| wp_block <| ch [] [(12,.i (J.ap (kJ+ 1)))] I fun a I=>?_;exact hY _ _ ⟨J.ap (kJ+ 1),I.cut,hm,h⟩
                 refine wp_exit <| bx (bx (cw ?_));exact hG _ _ ⟨kJ,I.cut,hm,(os h)⟩
               have h:=J.dh GX h;have I:=I.b5 51 rfl GX;refine aP 7 [1,1,1,1,1,1,1] [(58,.bool false)] I fun a I=>wpList_nil (hv _ _ ?_);refine ij (I.g rfl) rfl <| wp_exit <| bx (bx (cw ?_));exact hG _ _ ⟨kJ,I.cut,hm,(os h)⟩
             rintro a w ⟨sN,I,hm,bb⟩;subst V6;have h:=TJ;clear TJ;refine gN _ _ ?_;obtain ⟨aeP,h,TK⟩:=J.aF h
             refine qY (fun a w=>∃ (BK:aS) (Cr:Nat) (sF:List J.Target) (YD:dF) (EI:aS) (FG:Nat) (sG:List (List UInt8)) (Pb:dF),Fr ⟨84,[]⟩ [(0,.q ag ah aK),(6,.q EI FG sG),(7,.q BK Cr sF),(8,.q aT aV ez),(9,.i g4),(10,.i h6),(12,.i sN)] a/\au W M0 X w [aq.row 159 2 (.q BK Cr sF) sF YD,aq.row 9 1 (.q EI FG sG) sG Pb] [al.rows J.bR YD sF,al.rows bz Pb sG,U J.er JS KF iL.bH,U J.dx JR KE iL.bD,U J.b2 zb FE rQ.aR,U J.aX JQ KD rQ.Fields,U J.b2 EH FD pa.aR,U J.aX EG FC pa.Fields,U (aj .i64) aT aV ez,U J.bd ag ah aK]/\aeP=(sF,sG)) (fun K hx=>?_) ?_
             · clear TK;refine bc [] [(64,.bool (decide (sN=(gD.length:Int))))] I fun a I=>bi (I.g rfl) h (fun aq8 h=>?_) (fun aq8 h=>?_)
               · refine aY <| aP 2 [] [(65,.q nb pc gD),(66,ao iL.Name)] I fun a I=>gw (cs:=[ao iL.Name]) wn (fX (vs:=[(0,ao iL.Name)]) Tryz.underlying125 Tryz.sizeOf9 Tryz.zeroValue9 rfl rfl rfl ⟨⟨(I.g rfl),rfl⟩,trivial⟩ (by kernel_rfl)) I hm rfl rfl fun a aJ0 w _ I hm=>?_;obtain ⟨Mo,aza,h⟩:=J.aF h;refine iJ (T:=bz) (ml:=[iL.Name]) 2 0 7 hm rfl rfl rfl Tryz.underlying125 ya rfl rfl aza rfl rfl ⟨_,_,rfl,rfl,rfl⟩ wn rfl (I.g rfl) (I.g rfl) I rfl rfl fun a Zu aaX aH2 w I hm=>aP 1 [] [(69,.q qB qT iS)] I fun a I=>?_
                 refine bQ wn (gk (vs:=[]) (cs:=[.i 0,.i 0]) Tryz.zeroValue159 Tryz.underlying159 WX rfl trivial (by kernel_rfl)) I rfl rfl fun a I=>gw (cs:=[.i 0,.i 0]) wn (fX (vs:=[(0,.agg #[.i 0,.i 0])]) Tryz.underlying126 Tryz.sizeOf159 Tryz.zeroValue159 rfl rfl rfl ⟨⟨(I.g rfl),rfl⟩,trivial⟩ (by kernel_rfl)) I hm rfl rfl fun a aJ1 w _ I hm=>?_;obtain ⟨Mp,azb,h⟩:=J.aF h;refine iJ (T:=J.bR) (ml:=[(⟨0,0⟩:J.Target)]) 1 0 7 hm rfl rfl rfl Tryz.underlying126 L0 rfl rfl azb rfl rfl ⟨_,_,rfl,rfl,rfl⟩ wn rfl (I.g rfl) (I.g rfl) I rfl rfl fun a Zv aaY aH3 w I hm=>?_
                 refine aP 2 [] [(6,.q Zu aaX Mo),(7,.q Zv aaY Mp)] I fun a I=>wpList_nil ?_;exact hx _ _ ⟨Zv,aaY,Mp,aH3,Zu,aaX,Mo,aH2,I.cut,hm.ec [0,1,2,3,4,5,6,7,10,11],(os h)⟩
               refine wp_skip ?_;exact hx _ _ ⟨qB,qT,iS,sY,nb,pc,gD,sZ,I.cut,hm.ec [6,7,0,1,2,3,4,5,8,9],(os h)⟩
             rintro a w ⟨BK,Cr,sF,YD,EI,FG,sG,Pb,I,hm,bb⟩;subst aeP;have h:=TK;clear TK;dsimp only at h;refine aY <| aP 4 [] [(73,.q BK Cr sF),(74,.i sN),(75,.q aT aV ez),(76,.i g4)] I fun a I=>?_;obtain ⟨Bc,aDS,h⟩:=J.aF h;obtain ⟨am8,axZ,_,rfl,atH⟩:=bZ _ (hm.d 8 rfl) aDS;refine bQ wn (bF Tryz.underlying22 Tryz.sizeOf3 rfl (I.g rfl) (I.g rfl) am8 axZ) I rfl rfl fun a I=>bf 2 [0,0] [(78,.i Bc),(79,.i h6)] [bG aT,bJ aT+(g4).toNat* 1] (aw atH ax) I fun a I=>?_
             refine bQ wn (gk (vs:=[(0,.i Bc),(1,.i h6)]) (cs:=[.i Bc,.i h6]) Tryz.zeroValue159 Tryz.underlying159 WX rfl ⟨⟨(I.g rfl),rfl⟩,⟨(I.g rfl),rfl⟩,trivial⟩ (by kernel_rfl)) I rfl rfl fun a I=>?_;obtain ⟨Yw,ad1,h⟩:=J.aF h;obtain ⟨am9,ax0,_,rfl,atI⟩:=gi (hm.e 0 rfl) (hm.d 0 rfl) ad1;refine bQ wn (bF Tryz.underlying126 Tryz.sizeOf159 rfl (I.g rfl) (I.g rfl) am9 ax0) I rfl rfl fun a I=>?_;obtain ⟨Mq,azc,h⟩:=J.aF h
             refine nQ (T:=J.bR) (d':=(⟨Bc,h6⟩:J.Target)) (vs:=[.i Bc,.i h6]) (cs0:=[.i Yw.aN,.i Yw.Method]) (kk:=0) 0 0 azc hm rfl rfl ad1 rfl atI wn rfl Tryz.sizeOf159 rfl rfl rfl rfl rfl (I.g rfl) (I.g rfl) rfl fun aH4 w hlen ad hm=>?_;try unfold Value.q at hm;try unfold Value.q at I;rw [hlen] at hm;try rw [hlen] at I;clear hlen;clear ad;refine wpList_nil ?_;have I:=I.cut (l':=[(0,.q ag ah aK),(6,.q EI FG sG),(7,.q BK Cr Mq),(8,.q aT aV ez),(9,.i g4),(10,.i h6)])
             exact fO _ _ ⟨BK,Cr,Mq,aH4,EI,FG,sG,Pb,I.cut,hm.ec [0,2,7,8,9,10],(os h)⟩
           rintro a w ⟨JO,KB,u0,O_,JP,KC,u1,O',I,hm,bb⟩;subst aeO;have h:=TI;clear TI;dsimp only at h;refine fy _ _ <| ch [] [(10,.i (J.ap (h6+ 1)))] I fun a I=>?_;exact fi _ _ ⟨JO,KB,u0,O_,JP,KC,u1,O',J.ap (h6+ 1),I.cut,hm.ec [0,1,4,5],h⟩
         refine wp_exit <| bx (bx (cw ?_));exact fx _ _ ⟨qB,qT,iS,sY,nb,pc,gD,sZ,I.cut,hm.ec [2,3,4,5],(os h)⟩
       rintro a w ⟨JM,Kz,uY,O8,JN,KA,uZ,O9,I,hm,bb⟩;subst V5;have h:=TH;clear TH;dsimp only at h;exact d_ _ _ ⟨JM,Kz,uY,O8,JN,KA,uZ,O9,I.cut,hm,(os h)⟩
     rintro a w ⟨JK,Kx,uW,O6,JL,Ky,uX,O7,I,hm,bb⟩;subst aeN;have h:=TG;clear TG;dsimp only at h;refine dA _ _ <| ch [] [(9,.i (J.ap (g4+ 1)))] I fun a I=>?_;exact cO _ _ ⟨JK,Kx,uW,O6,JL,Ky,uX,O7,J.ap (g4+ 1),I.cut,hm,h⟩
   refine wp_exit <| bx (bx (cw ?_));exact dt _ _ ⟨BG,Cn,pP,D7,BH,Co,pQ,D8,I.cut,hm,(os h)⟩
 rintro a w ⟨Ez,Fu,uN,OW,EA,Fv,uO,OX,I,hm,bb⟩;subst VS;have h:=Tp;clear Tp;dsimp only at h;refine cu _ _ <| bt [] [(4,.q EA Fv uO),(5,.q Ez Fu uN)] I fun a I=>wp_ret ?_;obtain rfl:=aB h;refine g5 Tryz.results111 I rfl rfl ?_;exact ⟨EA,Fv,OX,Ez,Fu,OW,rfl,hm.aW [1,0] [1,0]⟩
end Go.Proofs.YtpkhpagplommoaaGreat
