/- Floats as bits: what the reference's package real (cortegeref01) and the program's package real tell of them. -/
import Derived.Test.YtjffghebcaklaaaProg
import Derived.WalkKit
import Derived.WalkSpells
import Derived.WalkLawsBesides
import Derived.Lib.Hide
import Derived.Test.YtjffghebcaklaaaWMini
import Derived.Laws.BytesArg
import Derived.Lib.AtoiErrMem
namespace Go.Proofs.YtjffghebcaklaaaW.PrintWords
open Go Go.RowKit
def Kd.float : Kd Nat := Kd.scalar (Value.float .f64) (fun _ => rfl)
theorem Kd.at_float {w : World} {A : Option Addr} {n : Nat} {xs : List Nat} (h : Kd.float.C w A n xs) (i : Int) (h0 : 0 ≤ i) (h1 : i < n) : ∃ ad, A = some ad ∧ w.cell? (ad.add i.toNat) = some (.float .f64 (rdOf 0 xs i)) :=
  ReadsOf.at_ (Kd.reads_of_C (enc := Value.float .f64) (d := 0) (h1 := fun _ => rfl) h) i h0 h1
theorem run_store_float (P : Program) (w : World) (a : Addr) (m : Mode) (k : FloatKind) (b : Nat) : (store a (.float k b) m).run P w = stored P w a (.float k b) m := run_store P w a _ m rfl
end Go.Proofs.YtjffghebcaklaaaW.PrintWords
