/- The values of packets, bases and generations. -/
import Derived.WalkKit
namespace Go.Proofs.Ytkegknophppdgaa

/-- The value of a coded packet. -/
abbrev pkV (n : Int) (a : Option Addr) (c : Nat) (xs : List Int) (b : Option Addr) (d : Nat) (ys : List Int) : Value :=
  .agg #[.int .i64 n, .slice a xs.length c, .slice b ys.length d]
/-- The value of a basis or a generation. -/
abbrev bsV (n : Int) (a : Option Addr) (c : Nat) (xss : List (List Int)) : Value := .agg #[.int .i64 n, .slice a xss.length c]

end Go.Proofs.Ytkegknophppdgaa
