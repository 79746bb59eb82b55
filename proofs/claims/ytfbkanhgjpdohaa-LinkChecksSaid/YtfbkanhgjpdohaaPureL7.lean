/- Plain law, made by program: what the functions of this group compute. -/
import Derived.Test.YtfbkanhgjpdohaaPureL6
namespace Cin
def L_base : Option (List Class) :=
  some [(⟨[79, 98, 106, 101, 99, 116], [], [], [(⟨[109, 97, 105, 110], true, [], (⟨0, []⟩ : Kind), 2, 0, [1, 0, 7, 31, 27], []⟩ : Method)]⟩ : Class), (⟨[69, 114, 114, 111, 114], [79, 98, 106, 101, 99, 116], [(⟨[99, 111, 100, 101], (⟨1, []⟩ : Kind)⟩ : Field)], []⟩ : Class)]

def L_linkBegun (F : Nat) : Option (Bool) :=
  (L_base).bind fun r1_ =>
  (link_Link F r1_).bind fun r6_ =>
  (link_Find F (⟨r6_.1.Classes, r6_.1.Supers, r6_.1.Fields, r6_.1.Names, r6_.1.Targets⟩ : Linked) [69, 114, 114, 111, 114]).bind fun r24_ =>
  (link_Is F (⟨r6_.1.Classes, r6_.1.Supers, r6_.1.Fields, r6_.1.Names, r6_.1.Targets⟩ : Linked) 1 0).bind fun r26_ =>
  some (((((((decide (r6_.2 = 0)) && (decide (r24_.2 = 0))) && (decide (r26_.2 = 0))) && (decide (r24_.1 = 1))) && r26_.1) && (decide ((r6_.1.Supers.length : Int) = 2))) && (decide ((r6_.1.Fields.length : Int) = 2)))

def L_LinkLinks (F : Nat) (l_ : List Class) : Option (Bool) :=
  (link_Link F l_).bind fun r3_ =>
  (R_LinkOf F l_).bind fun r21_ =>
  (L_linkBegun F).bind fun r38_ =>
  cond (r38_ && (decide (r3_.2 = r21_.2))) ((R_SameLinked F (⟨r3_.1.Classes, r3_.1.Supers, r3_.1.Fields, r3_.1.Names, r3_.1.Targets⟩ : Linked) (⟨r21_.1.Classes, r21_.1.Supers, r21_.1.Fields, r21_.1.Names, r21_.1.Targets⟩ : Linked)).bind fun r41_ =>
  some r41_) (some false)

end Cin
