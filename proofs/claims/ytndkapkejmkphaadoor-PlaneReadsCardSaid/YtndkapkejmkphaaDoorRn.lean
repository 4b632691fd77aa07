/- Contracts: unicode/utf8.DecodeLastRuneInString; strings.IndexRune at runes beyond ASCII. Conditions: the tables of unicode/utf8. -/
import Derived.Test.YtndkapkejmkphaaDoorShelfn
import Derived.Test.YtndkapkejmkphaaDoorRb
import Derived.Lib.LaidU8
import Derived.Shelf.Abstract
import Derived.Shelf.RegionOpen
import Derived.WalkKit
import Derived.Laws.RangeString
import Derived.Laws.Runes
import Derived.WalkMore
import Derived.Deep.RegionWith
import Derived.Test.YtndkapkejmkphaaDoorShelfi
import Derived.LoopTactic
namespace Go.Proofs.YtndkapkejmkphaaDoor
open Go Go.Ev Go.RowKit Go.Shelf
set_option maxRecDepth 1000000
theorem mu8_world {P : Program} {H : Mem} {w : World} (h : HIn H w) (t : MU8 P H) (g : (P.globalNamed "unicode/utf8.first").isSome = true) : ∃ g3 g4, P.globalNamed "unicode/utf8.first" = some g3 ∧ P.globalNamed "unicode/utf8.acceptRanges" = some g4 ∧ Lib.Utf8Tabs g3 g4 w := by
  obtain ⟨g3, cs, e, fr, g4, cs', e', fr', h1, h2, h3, h4, h5, h6⟩ := t g
  have k3 := h _ _ h2
  have k4 := h _ _ h4
  exact ⟨g3, g4, h1, h3, fun c hc => by simp only [World.cell?, k3]; exact h5 c hc, fun i hi => ⟨by simp only [World.cell?, k4]; exact (h6 i hi).1, by simp only [World.cell?, k4]; exact (h6 i hi).2⟩⟩
theorem slowLays : Lays.n260 Tryd.prog Tryd.lays271_ren := { Tryd.lays271 with }
theorem u8x : U8Extra Tryd.prog Tryd.lays271_ren := ⟨by kernel_rfl, by kernel_rfl, by kernel_rfl, by kernel_rfl, by kernel_rfl, by kernel_rfl, by kernel_rfl⟩
theorem dlast_calls (s : ByteArray) (w : World) (hs : s.size ≤ 9223372036854775807) (hU : ∃ g3 g4, Tryd.prog.globalNamed "unicode/utf8.first" = some g3 ∧ Tryd.prog.globalNamed "unicode/utf8.acceptRanges" = some g4 ∧ Lib.Utf8Tabs g3 g4 w) :
    Calls Tryd.prog 23 #[.string s] w fun e w' => e = .returned (.tuple #[.int .i32 (Lib.decodeLastL s.data.toList).1, .int .i64 (Lib.decodeLastL s.data.toList).2]) ∧ Below w.heap.size w w' := by
  obtain ⟨g3, g4, h3, h4, hU⟩ := hU
  obtain rfl := Option.some.inj (u8x.n3.symm.trans h3)
  obtain rfl := Option.some.inj (u8x.n4.symm.trans h4)
  exact Any.utf8_DecodeLastRuneInString Tryd.lays271 s w hs hU
theorem ixr_err (w : World) : Calls Tryd.prog 19 #[.string (bs [43, 45]), .int .i32 65533] w fun e w' => e = .returned (.int .i64 (-1)) ∧ Below w.heap.size w w' := by
  have hsz : (bs [43, 45]).size = 2 := rfl
  go_enter Tryd.func19, Tryd.ntmps19
  go_wp2
  go_loopw [5, 6] (fun _ _ w' => ∃ pos, w' = w.iter (bs [43, 45]) pos) (fun _ _ w' => 2 - w'.iterPos w.heap.size)
  case atStart => exact ⟨0, rfl⟩
  case round =>
    obtain ⟨pos, rfl⟩ := hrel
    by_cases hp : pos < 2
    · match pos, hp with
      | 0, hp =>
        have hnx : ∀ ty, (Instr.next (.pointer (some ⟨w.heap.size, 0, none⟩)) true ty).run Tryd.prog (w.iter (bs [43, 45]) 0) = .ok (.tuple #[.bool true, .int .i64 0, .int .i32 43]) (w.iter (bs [43, 45]) 1) := fun ty => run_next_ascii w (bs [43, 45]) 0 ty (by decide) (by decide)
        go_wp2
        go_roundw
        case rel => exact ⟨1, rfl⟩
        case measure => simp
      | 1, hp =>
        have hnx : ∀ ty, (Instr.next (.pointer (some ⟨w.heap.size, 0, none⟩)) true ty).run Tryd.prog (w.iter (bs [43, 45]) 1) = .ok (.tuple #[.bool true, .int .i64 1, .int .i32 45]) (w.iter (bs [43, 45]) 2) := fun ty => run_next_ascii w (bs [43, 45]) 1 ty (by decide) (by decide)
        go_wp2
        go_roundw
        case rel => exact ⟨2, rfl⟩
        case measure => simp
    · have hnx : ∀ ty, (Instr.next (.pointer (some ⟨w.heap.size, 0, none⟩)) true ty).run Tryd.prog (w.iter (bs [43, 45]) pos) = _ := fun ty => run_next_end w (bs [43, 45]) pos ty (by rw [hsz]; exact hp)
      go_wp2
      go_ret
      exact ⟨rfl, (Below.refl _ _).alloc (Nat.le_refl _) _⟩
theorem enc_more {r : Int} (h0 : 2048 ≤ r) (h1 : r < 55296 ∨ 57344 ≤ r ∧ r ≤ 1114111) : 3 ≤ (Utf8.encode r).size ∧ (Utf8.encode r).size ≤ 4 := by
  have hv : Utf8.valid r = true := by unfold Utf8.valid; simp; omega
  unfold Utf8.encode
  simp only [hv, if_true]
  rw [if_neg (by omega), if_neg (by omega)]
  split
  · exact ⟨by show 3 ≤ 3; omega, by show 3 ≤ 4; omega⟩
  · exact ⟨by show 3 ≤ 4; omega, by show 4 ≤ 4; omega⟩
theorem ixr_more (r : Int) (w : World) (h0 : 2048 ≤ r) (h1 : r < 55296 ∨ 57344 ≤ r ∧ r ≤ 1114111) (hv : ¬ r = 65533) : Calls Tryd.prog 19 #[.string (bs [43, 45]), .int .i32 r] w fun e w' => e = .returned (.int .i64 (-1)) ∧ Below w.heap.size w w' := by
  have hsz : (bs [43, 45]).size = 2 := rfl
  obtain ⟨e1, e2⟩ := enc_more h0 h1
  have t9 : Tryd.prog.underlying 9 = some .string := Tryd.underlying9
  have t21 : (Tryd.prog.underlying 21).isSome = true := by rw [Tryd.underlying21]; rfl
  have hcv : ∀ w' : World, (convert 21 9 (.int .i32 r)).run Tryd.prog w' = .ok (.string (Utf8.encode r)) w' := fun w' => run_convert_int_string w' _ _ _ _ t21 t9
  go_enter Tryd.func19, Tryd.ntmps19
  go_wp2
  all_goals
    go_step3
    go_wp2
    go_loopw [9] (fun i w' => i = .int .i64 ((Utf8.encode r).size - 1) ∧ w' = w) (fun _ _ => 0)
    case atStart => exact ⟨rfl, rfl⟩
    case round =>
      obtain ⟨rfl, rfl⟩ := hrel
      have hno : ¬ ((Utf8.encode r).size : Int) - 1 < 2 := by omega
      go_wp2
      go_ret
      exact ⟨rfl, Below.refl _ _⟩
theorem enc_last {r : Int} (h0 : 128 ≤ r) (h1 : r < 2048) : ∃ b c : UInt8, Utf8.encode r = ⟨#[b, c]⟩ ∧ 128 ≤ c.toNat := by
  have hv : Utf8.valid r = true := by unfold Utf8.valid; simp; omega
  unfold Utf8.encode
  simp only [hv, if_true]
  rw [if_neg (by omega), if_pos (by omega)]
  exact ⟨_, _, rfl, by simp; omega⟩
theorem ixr_two (r : Int) (w : World) (h0 : 128 ≤ r) (h1 : r < 2048) : Calls Tryd.prog 19 #[.string (bs [43, 45]), .int .i32 r] w fun e w' => e = .returned (.int .i64 (-1)) ∧ Below w.heap.size w w' := by
  have hsz : (bs [43, 45]).size = 2 := rfl
  have hv : ¬ r = 65533 := by omega
  obtain ⟨b, c, e0, hc⟩ := enc_last h0 h1
  have t9 : Tryd.prog.underlying 9 = some .string := Tryd.underlying9
  have t21 : (Tryd.prog.underlying 21).isSome = true := by rw [Tryd.underlying21]; rfl
  have hcv : ∀ w' : World, (convert 21 9 (.int .i32 r)).run Tryd.prog w' = .ok (.string ⟨#[b, c]⟩) w' := fun w' => by rw [← e0]; exact run_convert_int_string w' _ _ _ _ t21 t9
  have e1 : (⟨#[b, c]⟩ : ByteArray).size = 2 := rfl
  go_enter Tryd.func19, Tryd.ntmps19
  go_wp2
  go_step3
  go_wp2
  go_loopw [9] (fun i w' => i = .int .i64 1 ∧ w' = w) (fun _ _ => 0)
  case atStart => exact ⟨rfl, rfl⟩
  case round =>
    obtain ⟨rfl, rfl⟩ := hrel
    go_wp2
    go_step3
    go_wp2
    have hne : ((((bs [43, 45])[1]'(by decide)).toNat : Int) != ((⟨#[b, c]⟩ : ByteArray)[1]'(by rw [e1]; decide)).toNat) = true := by
      have g1 : ((⟨#[b, c]⟩ : ByteArray)[1]'(by rw [e1]; decide)) = c := rfl
      have g2 : ((bs [43, 45])[1]'(by decide)) = 45 := rfl
      rw [g1, g2, bne_iff_ne]
      have : (45 : UInt8).toNat = 45 := rfl
      omega
    go_region
    all_goals go_wp2
    go_region_with (go_at_call 33; refine (Any.strings_IndexByte { Tryd.lays152 with } _ _ _).mono ?_; rintro e w' ⟨rfl, hw⟩; rw [hw])
    all_goals go_wp2
    all_goals
      change bodyPost Tryd.prog Tryd.f19 (fun e w' => e = Ending.returned (Value.int IntKind.i64 (-1)) ∧ Below wr.heap.size wr w') Exit.ret _ _
      go_ret
      exact ⟨rfl, ⟨rfl, rfl, rfl, Nat.le_refl _, fun _ _ => rfl⟩⟩
theorem ixr_high (r : Int) (w : World) (h0 : 128 ≤ r) (h1 : r < 55296 ∨ 57344 ≤ r ∧ r ≤ 1114111) : Calls Tryd.prog 19 #[.string (bs [43, 45]), .int .i32 r] w fun e w' => e = .returned (.int .i64 (-1)) ∧ Below w.heap.size w w' := by
  by_cases e : r = 65533
  · subst e; exact ixr_err w
  · by_cases h2 : r < 2048
    · exact ixr_two r w h0 h2
    · exact ixr_more r w (by omega) h1 e
end Go.Proofs.YtndkapkejmkphaaDoor
