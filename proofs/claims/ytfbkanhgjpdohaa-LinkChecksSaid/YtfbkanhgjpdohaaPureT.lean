/- Plain law, made by program: the structs. -/
import Derived.Test.YtfbkanhgjpdohaaPureBase
namespace Cin
structure Kind where
  Kind : Int
  Class : List UInt8
  deriving DecidableEq

structure Handler where
  From : Int
  To : Int
  At : Int
  Class : List UInt8
  deriving DecidableEq

structure Method where
  Name : List UInt8
  Static : Bool
  Args : List Kind
  Returns : Kind
  Stack : Int
  Locals : Int
  Code : List UInt8
  Handlers : List Handler

structure Field where
  Name : List UInt8
  Kind : Kind
  deriving DecidableEq

structure Class where
  Name : List UInt8
  Super : List UInt8
  Fields : List Field
  Methods : List Method

structure Target where
  Class : Int
  Method : Int
  deriving DecidableEq

structure Linked where
  Classes : List Class
  Supers : List Int
  Fields : List (List Field)
  Names : List (List (List UInt8))
  Targets : List (List Target)

structure link_linker where
  l : List Class
  by_ : List ((List UInt8) × Int)
  supers : List Int

end Cin
