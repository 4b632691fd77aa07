/- Contracts: numbers told. Conditions: int64; the library's table. -/
import Derived.Test.YtmbllhdejeeibaaDoorDa
import Derived.Test.YtmbllhdejeeibaaDoorShelf
import Derived.Lib.AppendIntMem
namespace Go.Proofs.YtmbllhdejeeibaaDoor
open Go Go.Ev Go.RowKit
set_option maxRecDepth 100000
theorem fr_below {w w' : World} (h : Below w.heap.size w w') : Fr (fun _ => False) w w' := ⟨h.os, h.tape, h.output, h.size, fun k hk _ => h.block k hk⟩
theorem formatInt_spec (n : Int) (h0 : -9223372036854775808 ≤ n) (h1 : n ≤ 9223372036854775807) : Does Tryd.prog 29 [.i n, .i 10] [] (.x (.s (Lib.itoa n))) [] := by
  intro w V vs hw hT hv
  cases hv with
  | cons a1 hv => cases hv with
    | cons a2 hv =>
      cases hv
      have a1' : PR V.H (.int .i64 n) _ := a1
      have a2' : PR V.H (.int .i64 10) _ := a2
      cases a1'
      cases a2'
      have ht : Lib.TabIs Tryd.prog w "internal/strconv.uint64pow10" .u64 Lib.pow10Tab := (hT.1 (by kernel_rfl)).world hw.imm
      refine (Tryd.strconv_FormatInt_10 n h0 h1 w ht).mono fun e w' ⟨he, k, os, hw'⟩ => ?_
      subst he; subst hw'
      exact ⟨_, V, rfl, .str (Lib.itoa n), hw.kept (fr_below (Lib.below_grow w.heap.size w (Nat.le_refl _) k os))⟩
end Go.Proofs.YtmbllhdejeeibaaDoor
