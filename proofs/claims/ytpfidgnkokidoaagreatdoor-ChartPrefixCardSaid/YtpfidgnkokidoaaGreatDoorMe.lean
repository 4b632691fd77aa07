/- Contracts of the program's reader of expressions, whole. Conditions: texts of at most 2^20 bytes. -/
import Derived.Test.YtpfidgnkokidoaaGreatDoorMd
namespace Go.Proofs.YtpfidgnkokidoaaGreatDoor
open Go Go.Ev
set_option maxRecDepth 100000
def qE (B : Int → Rd → Rd) : Ent := (120, fun
 | [.c (.loc 0 0), .c (.pd (.int .i64 p))], [.cells [.pd (.str s), .pd (.int .i64 pos), .own 1, .pd (.int .i64 bad)] 169, .own 92 .cell out] => some (some (ah Tryz.prog 120 [.c (.loc 0 0), .i p] [.cells [.pd (.str s), .pd (.int .i64 pos), .own 1, .pd (.int .i64 bad)] 169, .own 92 .cell out] (.tup []) (rd2 s (B p ⟨pos, out, bad⟩))), .tup [], [.cells [.pd (.str s), .pd (.int .i64 (B p ⟨pos, out, bad⟩).pos), .own 2, .pd (.int .i64 (B p ⟨pos, out, bad⟩).bad)] 169, .dead, .own 92 .cell (B p ⟨pos, out, bad⟩).out])
 | _, _ => none)
def sS (B : Rd → Rd) : Ent := (159, fun
 | [.c (.loc 0 0)], [.cells [.pd (.str s), .pd (.int .i64 pos), .own 1, .pd (.int .i64 bad)] 169, .own 92 .cell out] => some (some (ah Tryz.prog 159 [.c (.loc 0 0)] [.cells [.pd (.str s), .pd (.int .i64 pos), .own 1, .pd (.int .i64 bad)] 169, .own 92 .cell out] (.tup []) (rd2 s (B ⟨pos, out, bad⟩))), .tup [], [.cells [.pd (.str s), .pd (.int .i64 (B ⟨pos, out, bad⟩).pos), .own 2, .pd (.int .i64 (B ⟨pos, out, bad⟩).bad)] 169, .dead, .own 92 .cell (B ⟨pos, out, bad⟩).out])
 | _, _ => none)
def sq (B : Rd → Rd) : Ent := (187, fun
 | [.c (.loc 0 0)], [.cells [.pd (.str s), .pd (.int .i64 pos), .own 1, .pd (.int .i64 bad)] 169, .own 92 .cell out] => some (some (ah Tryz.prog 187 [.c (.loc 0 0)] [.cells [.pd (.str s), .pd (.int .i64 pos), .own 1, .pd (.int .i64 bad)] 169, .own 92 .cell out] (.tup []) (rd2 s (B ⟨pos, out, bad⟩))), .tup [], [.cells [.pd (.str s), .pd (.int .i64 (B ⟨pos, out, bad⟩).pos), .own 2, .pd (.int .i64 (B ⟨pos, out, bad⟩).bad)] 169, .dead, .own 92 .cell (B ⟨pos, out, bad⟩).out])
 | _, _ => none)
def mX (B : Rd → Rd) : Ent := (210, fun
 | [.c (.loc 0 0), .c (.pd (.str w))], [.cells [.pd (.str s), .pd (.int .i64 pos), .own 1, .pd (.int .i64 bad)] 169, .own 92 .cell out] => some (some (ah Tryz.prog 210 [.c (.loc 0 0), .s w] [.cells [.pd (.str s), .pd (.int .i64 pos), .own 1, .pd (.int .i64 bad)] 169, .own 92 .cell out] (.tup []) (rd2 s (B ⟨pos, out, bad⟩))), .tup [], [.cells [.pd (.str s), .pd (.int .i64 (B ⟨pos, out, bad⟩).pos), .own 2, .pd (.int .i64 (B ⟨pos, out, bad⟩).bad)] 169, .dead, .own 92 .cell (B ⟨pos, out, bad⟩).out])
 | _, _ => none)
def ss (B : Int → Rd → Rd) (U : Rd → Rd) : Cfg := ⟨bn, [qE B, sS U, pL, jN]⟩
def sb (U A : Rd → Rd) : Cfg := ⟨bn, [sS U, sq A, gO, jN]⟩
def o8 (B : Int → Rd → Rd) (C : Rd → Rd) : Cfg := ⟨bn, [qE B, mX C, kd, sK, mF, jN, gO, fe]⟩
def wx (B : Int → Rd → Rd) : Cfg := ⟨bn, [qE B, kd, mF, jN, gO, fe]⟩
theorem qo {B : Int → Rd → Rd} (vs : List SX) (ck : List Chunk) (p : Option Prop) (ret : SV) (ck' : List Chunk) (h : (qE B).2 vs ck = some (p, ret, ck')) (hp : Holds p) : ah Tryz.prog (qE B).1 vs ck ret ck' := by
 unfold qE at h
 simp only at h
 split at h
 · simp only [aa, ab] at h
   obtain ⟨rfl, rfl, rfl⟩ := h
   exact hp
 · simp at h
theorem vE {B : Rd → Rd} (vs : List SX) (ck : List Chunk) (p : Option Prop) (ret : SV) (ck' : List Chunk) (h : (sS B).2 vs ck = some (p, ret, ck')) (hp : Holds p) : ah Tryz.prog (sS B).1 vs ck ret ck' := by
 unfold sS at h
 simp only at h
 split at h
 · simp only [aa, ab] at h
   obtain ⟨rfl, rfl, rfl⟩ := h
   exact hp
 · simp at h
theorem BT {B : Rd → Rd} (vs : List SX) (ck : List Chunk) (p : Option Prop) (ret : SV) (ck' : List Chunk) (h : (sq B).2 vs ck = some (p, ret, ck')) (hp : Holds p) : ah Tryz.prog (sq B).1 vs ck ret ck' := by
 unfold sq at h
 simp only at h
 split at h
 · simp only [aa, ab] at h
   obtain ⟨rfl, rfl, rfl⟩ := h
   exact hp
 · simp at h
theorem wk {B : Rd → Rd} (vs : List SX) (ck : List Chunk) (p : Option Prop) (ret : SV) (ck' : List Chunk) (h : (mX B).2 vs ck = some (p, ret, ck')) (hp : Holds p) : ah Tryz.prog (mX B).1 vs ck ret ck' := by
 unfold mX at h
 simp only at h
 split at h
 · simp only [aa, ab] at h
   obtain ⟨rfl, rfl, rfl⟩ := h
   exact hp
 · simp at h
theorem oF {B : Int → Rd → Rd} {U : Rd → Rd} : ag Tryz.prog (ss B U).tab := ag.cons qo (ag.cons vE (ag.cons yT (ag.cons jq ag.nil)))
theorem oE {U A : Rd → Rd} : ag Tryz.prog (sb U A).tab := ag.cons vE (ag.cons BT (ag.cons gD (ag.cons jq ag.nil)))
theorem kT {B : Int → Rd → Rd} {C : Rd → Rd} : ag Tryz.prog (o8 B C).tab := ag.cons qo (ag.cons wk (ag.cons pP (ag.cons Dd (ag.cons qR (ag.cons jq (ag.cons gD (ag.cons dS ag.nil)))))))
theorem uG {B : Int → Rd → Rd} : ag Tryz.prog (wx B).tab := ag.cons qo (ag.cons pP (ag.cons qR (ag.cons jq (ag.cons gD (ag.cons dS ag.nil)))))
variable {s : Str}
theorem fy {n : Nat} (h : n ≤ 4000000) : room n 32 := by unfold room maxLen; omega
def eE (s : Str) (r : Rd) : Prop := (r.out.length : Int) + (ae s - r.pos) ≤ 3000000 ∧ s.length ≤ 1048576
theorem eE.to {r : Rd} {k : Int} (h : eE s r) (hk : r.pos ≤ k) : eE s (r.to k) := ⟨by have := h.1; simp only [Rd.to]; omega, h.2⟩
theorem eE.out {r o : Rd} (h : eE s r) (hl : Left s r o) : o.out.length ≤ 3000000 ∧ (Ok s o → eE s o) ∧ (o.bad < 0 → 0 ≤ o.pos ∧ o.pos ≤ ae s) ∧ -1 ≤ o.pos ∧ o.pos ≤ 1099511627775 := by
 have h1 := h.1
 have h2 := h.2
 have hL : ae s = (s.length : Int) := rfl
 rcases hl with ⟨g1, g2, g3⟩ | ⟨g1, g2, g3, g4, g5, g6⟩
 · have := g1.low; have := g1.high
   exact ⟨by omega, fun _ => ⟨by omega, h2⟩, fun _ => ⟨g1.low, g1.high⟩, by omega, by omega⟩
 · refine ⟨by omega, fun hk => ?_, fun _ => by omega, by omega, by omega⟩
   have := hk.bad; omega
abbrev lg (s : Str) (p : Int) (r o : Rd) : Prop := ah Tryz.prog 120 [.c (.loc 0 0), .i p] (rd1 s r) (.tup []) (rd2 s o)
abbrev qj (s : Str) (r o : Rd) : Prop := ah Tryz.prog 159 [.c (.loc 0 0)] (rd1 s r) (.tup []) (rd2 s o)
abbrev r7 (s : Str) (r o : Rd) : Prop := ah Tryz.prog 187 [.c (.loc 0 0)] (rd1 s r) (.tup []) (rd2 s o)
abbrev qa (s w : Str) (r o : Rd) : Prop := ah Tryz.prog 210 [.c (.loc 0 0), .s w] (rd1 s r) (.tup []) (rd2 s o)
theorem la (q : Rd) : bD s q = ⟨q.pos + 1, q.out, (bD s q).bad⟩ := by
 unfold bD
 split <;> rfl
theorem Da {k : Int} (h : cB s k = .par) : isD (s.getD k.toNat 0) = false ∧ bJ s k = 40 := by
 unfold cB at h
 split at h; cases h
 split at h; cases h
 split at h; cases h
 split at h; cases h
 split at h
 · rename_i h4 h5; exact ⟨by simpa using h4, h5⟩
 · split at h
   · cases h
   · split at h <;> cases h
theorem Bj {k : Int} (h : cB s k = .leaf) : (isD (s.getD k.toNat 0) = false → bJ s k ≠ 40) ∧ (isD (s.getD k.toNat 0) = false → ¬ (az s k = reS ∧ fB s k = true) ∧ ¬ (az s k = imS ∧ fB s k = true)) := by
 unfold cB at h
 split at h; cases h
 split at h; cases h
 split at h; cases h
 split at h
 · rename_i h4; exact ⟨fun h5 => (by rw [h4] at h5; cases h5), fun h5 => (by rw [h4] at h5; cases h5)⟩
 · split at h
   · cases h
   · rename_i h5
     split at h
     · cases h
     · rename_i h6
       split at h
       · cases h
       · rename_i h7; exact ⟨fun _ => h5, fun _ => ⟨h6, h7⟩⟩
/-! ### calls -/
theorem yq {w : Str} {r q : Rd} {op : Int} (hw : w = reS ∧ op = 9 ∨ w = imS ∧ op = 10) (hok : Ok s r) (hsl : eE s r) (h3 : r.pos + 3 ≤ ae s) (hq : lg s 1 (r.to (r.pos + 3)) q) (hl : Left s (r.to (r.pos + 3)) q) : qa s w r ((bD s q).emit ⟨op, 0, []⟩) := by
 have hlow := hok.low
 have hL : ae s = (s.length : Int) := rfl
 have hs := hsl.2
 obtain ⟨k1, k2, k3, k4, k5⟩ := (hsl.to (k := r.pos + 3) (by omega)).out hl
 have hw3 : IntKind.wrap .i64 (ae w + 1) = 3 := by rcases hw with ⟨rfl, _⟩ | ⟨rfl, _⟩ <;> decide
 let B : Int → Rd → Rd := fun _ _ => q
 refine ah.rd Tryz.func210 (by kernel_rfl) (by kernel_rfl) rfl fun Γ => ?_
 refine jg (cfg := (wx B)) uG Tryz.func210 (let x2 := (Rd.pos r + IntKind.wrap .i64 (ae w + (1 : Int))); let x1 := (B (1 : Int) { pos := IntKind.wrap .i64 x2, out := Rd.out r, bad := Rd.bad r }); let x4 := (IntKind.wrap .i64 x2); let x3 := (IntKind.wrap .i64 x2 + ae (az s x4)); let x5 := (Rd.bad (bD s { pos := Rd.pos x1, out := Rd.out x1, bad := Rd.bad x1 })); let x6 := (room ((Rd.out x1).length + 1) 32); .ite (!w == [105, 110]) (.need (ah Tryz.prog (120 : FuncId) [.c (.loc 0 0), SX.i 1] [.cells [.pd (.str s), .i x4, .own 1, .i (Rd.bad r)] (169 : TypeId), .own (92 : TypeId) .cell (Rd.out r)] (.tup []) (rd2 s x1)) (.need ((Rd.bad x1 < (0 : Int) → (0 : Int) ≤ Rd.pos x1 ∧ Rd.pos x1 ≤ ae s) ∧ (-1 : Int) ≤ Rd.pos x1 ∧ Rd.pos x1 ≤ (1099511627776 : Int)) (.ite (w == [105, 109]) (.need x6 (.ret (.tup []) [.cells [.pd (.str s), .i (Rd.pos x1 + (1 : Int)), .own 2, .i x5] 169, .dead, .own 92 .cell (Rd.out x1 ++ [{ op := (10 : Int), a := (0 : Int), name := [] }])])) (.need x6 (.ret (.tup []) [.cells [.pd (.str s), .i (Rd.pos x1 + (1 : Int)), .own 2, .i x5] 169, .dead, .own 92 .cell (Rd.out x1 ++ [{ op := (9 : Int), a := (0 : Int), name := [] }])]))))) (.need (s.length ≤ 1048576 ∧ (0 : Int) ≤ IntKind.wrap .i64 x2 ∧ IntKind.wrap .i64 x2 ≤ ae s) (.ite (!aP (az s x4)) (.ret (.tup []) [.cells [.pd (.str s), .i x4, .own 1, .i (if Rd.bad r < (0 : Int) then IntKind.wrap .i64 x2 else Rd.bad r)] 169, .own 92 .cell (Rd.out r)]) (.need ((Rd.bad r < (0 : Int) → (0 : Int) ≤ IntKind.wrap .i64 x3 ∧ IntKind.wrap .i64 x3 ≤ ae s) ∧ (-1 : Int) ≤ IntKind.wrap .i64 x3 ∧ IntKind.wrap .i64 x3 ≤ (1099511627776 : Int)) (.need (room ((Rd.out r).length + 1) 32) (.ret (.tup []) [.cells [.pd (.str s), .i (IntKind.wrap .i64 x3 + (1 : Int)), .own 2, .i (Rd.bad (bD s { pos := IntKind.wrap .i64 x3, out := Rd.out r, bad := Rd.bad r }))] 169, .dead, .own 92 .cell (Rd.out r ++ [{ op := (6 : Int), a := (0 : Int), name := az s x4 }])])))))) ?_
 conv => zeta
 rw [hw3, cg (n := r.pos + 3) (by omega) (by omega)]
 refine ⟨fun _ => ⟨hq, ⟨fun h => k3 h, k4, by show q.pos ≤ _; omega⟩, fun h => ⟨fy (by show q.out.length + 1 ≤ _; omega), RdQ.two ?_⟩, fun h => ⟨fy (by show q.out.length + 1 ≤ _; omega), RdQ.two ?_⟩⟩, fun h => ?_⟩
 · have e : op = 10 := by
    rcases hw with ⟨rfl, _⟩ | ⟨_, e⟩
    · exact absurd h (by decide)
    · exact e
   subst e; rw [la q]; rfl
 · have e : op = 9 := by
    rcases hw with ⟨_, e⟩ | ⟨rfl, _⟩
    · exact e
    · exact absurd h (by decide)
   subst e; rw [la q]; rfl
 · exfalso
   rcases hw with ⟨rfl, _⟩ | ⟨rfl, _⟩ <;> exact absurd h (by decide)
theorem As {w : Str} {r : Rd} (hw0 : w = inS) (hok : Ok s r) (hsl : eE s r) (h3 : r.pos + 3 ≤ ae s) : qa s w r (inR s r) := by
 have hlow := hok.low
 have hL : ae s = (s.length : Int) := rfl
 have hs := hsl.2
 have hs1 := hsl.1
 have hb := hok.bad
 have hw := jt s (k := r.pos + 3) (by omega) h3
 have hw3 : IntKind.wrap .i64 (ae w + 1) = 3 := by rw [hw0]; decide
 let B : Int → Rd → Rd := fun _ _ => r
 refine ah.rd Tryz.func210 (by kernel_rfl) (by kernel_rfl) rfl fun Γ => ?_
 refine jg (cfg := (wx B)) uG Tryz.func210 (let x2 := (Rd.pos r + IntKind.wrap .i64 (ae w + (1 : Int))); let x1 := (B (1 : Int) { pos := IntKind.wrap .i64 x2, out := Rd.out r, bad := Rd.bad r }); let x4 := (IntKind.wrap .i64 x2); let x3 := (IntKind.wrap .i64 x2 + ae (az s x4)); let x5 := (Rd.bad (bD s { pos := Rd.pos x1, out := Rd.out x1, bad := Rd.bad x1 })); let x6 := (room ((Rd.out x1).length + 1) 32); .ite (!w == [105, 110]) (.need (ah Tryz.prog (120 : FuncId) [.c (.loc 0 0), SX.i 1] [.cells [.pd (.str s), .i x4, .own 1, .i (Rd.bad r)] (169 : TypeId), .own (92 : TypeId) .cell (Rd.out r)] (.tup []) (rd2 s x1)) (.need ((Rd.bad x1 < (0 : Int) → (0 : Int) ≤ Rd.pos x1 ∧ Rd.pos x1 ≤ ae s) ∧ (-1 : Int) ≤ Rd.pos x1 ∧ Rd.pos x1 ≤ (1099511627776 : Int)) (.ite (w == [105, 109]) (.need x6 (.ret (.tup []) [.cells [.pd (.str s), .i (Rd.pos x1 + (1 : Int)), .own 2, .i x5] 169, .dead, .own 92 .cell (Rd.out x1 ++ [{ op := (10 : Int), a := (0 : Int), name := [] }])])) (.need x6 (.ret (.tup []) [.cells [.pd (.str s), .i (Rd.pos x1 + (1 : Int)), .own 2, .i x5] 169, .dead, .own 92 .cell (Rd.out x1 ++ [{ op := (9 : Int), a := (0 : Int), name := [] }])]))))) (.need (s.length ≤ 1048576 ∧ (0 : Int) ≤ IntKind.wrap .i64 x2 ∧ IntKind.wrap .i64 x2 ≤ ae s) (.ite (!aP (az s x4)) (.ret (.tup []) [.cells [.pd (.str s), .i x4, .own 1, .i (if Rd.bad r < (0 : Int) then IntKind.wrap .i64 x2 else Rd.bad r)] 169, .own 92 .cell (Rd.out r)]) (.need ((Rd.bad r < (0 : Int) → (0 : Int) ≤ IntKind.wrap .i64 x3 ∧ IntKind.wrap .i64 x3 ≤ ae s) ∧ (-1 : Int) ≤ IntKind.wrap .i64 x3 ∧ IntKind.wrap .i64 x3 ≤ (1099511627776 : Int)) (.need (room ((Rd.out r).length + 1) 32) (.ret (.tup []) [.cells [.pd (.str s), .i (IntKind.wrap .i64 x3 + (1 : Int)), .own 2, .i (Rd.bad (bD s { pos := IntKind.wrap .i64 x3, out := Rd.out r, bad := Rd.bad r }))] 169, .dead, .own 92 .cell (Rd.out r ++ [{ op := (6 : Int), a := (0 : Int), name := az s x4 }])])))))) ?_
 conv => zeta
 rw [hw3, cg (n := r.pos + 3) (by omega) (by omega), cg (n := r.pos + 3 + _) (by omega) (by omega)]
 refine ⟨fun h => absurd h (by rw [hw0]; decide), fun _ => ⟨⟨hs, by omega, h3⟩, fun h => RdQ.one ?_, fun h => ⟨⟨fun _ => ⟨by omega, hw.2⟩, by omega, by omega⟩, fy (by omega), RdQ.two ?_⟩⟩⟩
 · have h' : aP (az s (r.pos + 3)) = false := by simpa using h
   have e : inR s r = (r.to (r.pos + 3)).wrong (r.pos + 3) := by unfold inR; rw [if_pos h']
   rw [e]; rfl
 · have h' : ¬ aP (az s (r.pos + 3)) = false := by simpa using h
   have e : inR s r = (bD s (r.to (r.pos + 3 + ae (az s (r.pos + 3))))).emit ⟨6, 0, az s (r.pos + 3)⟩ := by unfold inR; rw [if_neg h']
   rw [e, la (r.to _)]; rfl
/-! ### what holds by itself -/
abbrev zMe1 (a : Str) (b : Rd) : List Chunk := [.cells [.pd (.str a), .i (Rd.pos b), .own 1, .i (if Rd.bad b < (0 : Int) then Rd.pos b else Rd.bad b)] 169, .own 92 .cell (Rd.out b)]
abbrev zMe2 (a : Str) (b : Rd) : List Chunk := [.cells [.pd (.str a), .i (Rd.pos b), .own 1, .i (Rd.bad b)] (169 : TypeId), .own (92 : TypeId) .cell (Rd.out b)]
theorem By {r q : Rd} (hok : Ok s r) (hsl : eE s r) (hh : cB s r.pos = .par) (hq : lg s 1 (r.to (r.pos + 1)) q) (hl : Left s (r.to (r.pos + 1)) q) : r7 s r (bD s q) := by
 have hlt := hok.lt (fun x e => by rw [hh] at e; subst e; simp)
 have hlow := hok.low
 have hL : ae s = (s.length : Int) := rfl
 have hs := hsl.2
 obtain ⟨k1, k2, k3, k4, k5⟩ := (hsl.to (k := r.pos + 1) (by omega)).out hl
 obtain ⟨g1, g2⟩ := Da hh
 let B : Int → Rd → Rd := fun _ _ => q
 let C : Rd → Rd := fun _ => q
 refine ah.rd Tryz.func187 (by kernel_rfl) (by kernel_rfl) rfl fun Γ => ?_
 refine jg (cfg := (o8 B C)) kT Tryz.func187 (let x1 := (B (1 : Int) { pos := IntKind.wrap .i64 (Rd.pos r + (1 : Int)), out := Rd.out r, bad := Rd.bad r }); let x2 := (Rd.pos r + ae (az s (Rd.pos r))); let x3 := (C { pos := Rd.pos r, out := Rd.out r, bad := Rd.bad r }); let x4 := (bW s { pos := Rd.pos r, out := Rd.out r, bad := Rd.bad r }); let x5 := (List.getD s ((Rd.pos r).toNat) (0 : UInt8)); let x6 := (az s (Rd.pos r) == [105, 110] || az s (Rd.pos r) == [114, 101] || az s (Rd.pos r) == [105, 109]); let x7 := ((Rd.out r).length + 1); let x8 := (IntKind.wrap .i64 x2); let x9 := (IntKind.wrap .i64 x2 < ae s); .need ((0 : Int) ≤ Rd.pos r ∧ Rd.pos r < ae s) (.ite (decide ((↑(x5.toNat) : Int) ≥ 48) && decide ((↑(x5.toNat) : Int) ≤ 57)) (.need (s.length ≤ 1048576 ∧ room x7 32 ∧ (0 : Int) ≤ Rd.pos r ∧ Rd.pos r < ae s ∧ isD x5 = true) (.ret (.tup []) [.cells [.pd (.str s), .i (Rd.pos x4), .own 2, .i (Rd.bad x4)] 169, .dead, .own 92 .cell (Rd.out x4)])) (.ite ((↑(x5.toNat) : Int) == 40) (.need (ah Tryz.prog (120 : FuncId) [.c (.loc 0 0), SX.i 1] [.cells [.pd (.str s), .i (IntKind.wrap .i64 (Rd.pos r + (1 : Int))), .own 1, .i (Rd.bad r)] (169 : TypeId), .own (92 : TypeId) .cell (Rd.out r)] (.tup []) (rd2 s x1)) (.need ((Rd.bad x1 < (0 : Int) → (0 : Int) ≤ Rd.pos x1 ∧ Rd.pos x1 ≤ ae s) ∧ (-1 : Int) ≤ Rd.pos x1 ∧ Rd.pos x1 ≤ (1099511627776 : Int)) (.ret (.tup []) [.cells [.pd (.str s), .i (Rd.pos x1 + (1 : Int)), .own 2, .i (Rd.bad (bD s { pos := Rd.pos x1, out := Rd.out x1, bad := Rd.bad x1 }))] 169, .dead, .own 92 .cell (Rd.out x1)]))) (.need (s.length ≤ 1048576 ∧ (0 : Int) ≤ Rd.pos r ∧ Rd.pos r ≤ ae s) (.ite (az s (Rd.pos r) == [116, 114, 117, 101]) (.need (room x7 32) (.ret (.tup []) [.cells [.pd (.str s), .i x8, .own 2, .i (Rd.bad r)] 169, .dead, .own 92 .cell (Rd.out r ++ [{ op := (3 : Int), a := (0 : Int), name := [] }])])) (.ite (az s (Rd.pos r) == [102, 97, 108, 115, 101]) (.need (room x7 32) (.ret (.tup []) [.cells [.pd (.str s), .i x8, .own 2, .i (Rd.bad r)] 169, .dead, .own 92 .cell (Rd.out r ++ [{ op := (4 : Int), a := (0 : Int), name := [] }])])) (.need ((x6 && decide x9) = true → (0 : Int) ≤ IntKind.wrap .i64 x2 ∧ IntKind.wrap .i64 x2 < ae s) (.ite (x6 && decide x9 && (↑((List.getD s (x8.toNat) (0 : UInt8)).toNat) : Int) == 40) (.need (ah Tryz.prog (210 : FuncId) [.c (.loc 0 0), SX.s (az s (Rd.pos r))] (zMe2 s r) (.tup []) (rd2 s x3)) (.ret (.tup []) [.cells [.pd (.str s), .i (Rd.pos x3), .own 2, .i (Rd.bad x3)] 169, .dead, .own 92 .cell (Rd.out x3)])) (.ite (aP (az s (Rd.pos r))) (.need (room x7 32) (.ret (.tup []) [.cells [.pd (.str s), .i x8, .own 2, .i (Rd.bad r)] 169, .dead, .own 92 .cell (Rd.out r ++ [{ op := (5 : Int), a := (0 : Int), name := az s (Rd.pos r) }])])) (.ret (.tup []) (zMe1 s r))))))))))) ?_
 conv => zeta
 rw [cg (n := r.pos + 1) (by omega) (by omega)]
 refine ⟨⟨hlow, hlt⟩, fun h => ?_, fun _ => ⟨fun _ => ⟨hq, ⟨fun h => k3 h, k4, by show q.pos ≤ _; omega⟩, RdQ.two ?_⟩, fun h => ?_⟩⟩
 · have h' : isD (s.getD r.pos.toNat 0) = true := h
   rw [g1] at h'; cases h'
 · rw [la q]; rfl
 · have h' : bJ s r.pos ≠ 40 := ne_of_beq_false h
   exact absurd g2 h'
theorem yL {r o : Rd} {op : Int} (hok : Ok s r) (hsl : eE s r) (hh : cB s r.pos = .call op) (hq : qa s (az s r.pos) r o) : r7 s r o := by
 obtain ⟨g1, g2, g3, g4, g5, g6, hlt⟩ := pH hh
 have hlow := hok.low
 have hL : ae s = (s.length : Int) := rfl
 have hs := hsl.2
 have hw := jt s hok.low hok.high
 let B : Int → Rd → Rd := fun _ _ => o
 let C : Rd → Rd := fun _ => o
 refine ah.rd Tryz.func187 (by kernel_rfl) (by kernel_rfl) rfl fun Γ => ?_
 refine jg (cfg := (o8 B C)) kT Tryz.func187 (let x1 := (B (1 : Int) { pos := IntKind.wrap .i64 (Rd.pos r + (1 : Int)), out := Rd.out r, bad := Rd.bad r }); let x2 := (Rd.pos r + ae (az s (Rd.pos r))); let x3 := (C { pos := Rd.pos r, out := Rd.out r, bad := Rd.bad r }); let x4 := (bW s { pos := Rd.pos r, out := Rd.out r, bad := Rd.bad r }); let x5 := (List.getD s ((Rd.pos r).toNat) (0 : UInt8)); let x6 := (az s (Rd.pos r) == [105, 110] || az s (Rd.pos r) == [114, 101] || az s (Rd.pos r) == [105, 109]); let x7 := ((Rd.out r).length + 1); let x8 := (IntKind.wrap .i64 x2); let x9 := (IntKind.wrap .i64 x2 < ae s); .need ((0 : Int) ≤ Rd.pos r ∧ Rd.pos r < ae s) (.ite (decide ((↑(x5.toNat) : Int) ≥ 48) && decide ((↑(x5.toNat) : Int) ≤ 57)) (.need (s.length ≤ 1048576 ∧ room x7 32 ∧ (0 : Int) ≤ Rd.pos r ∧ Rd.pos r < ae s ∧ isD x5 = true) (.ret (.tup []) [.cells [.pd (.str s), .i (Rd.pos x4), .own 2, .i (Rd.bad x4)] 169, .dead, .own 92 .cell (Rd.out x4)])) (.ite ((↑(x5.toNat) : Int) == 40) (.need (ah Tryz.prog (120 : FuncId) [.c (.loc 0 0), SX.i 1] [.cells [.pd (.str s), .i (IntKind.wrap .i64 (Rd.pos r + (1 : Int))), .own 1, .i (Rd.bad r)] (169 : TypeId), .own (92 : TypeId) .cell (Rd.out r)] (.tup []) (rd2 s x1)) (.need ((Rd.bad x1 < (0 : Int) → (0 : Int) ≤ Rd.pos x1 ∧ Rd.pos x1 ≤ ae s) ∧ (-1 : Int) ≤ Rd.pos x1 ∧ Rd.pos x1 ≤ (1099511627776 : Int)) (.ret (.tup []) [.cells [.pd (.str s), .i (Rd.pos x1 + (1 : Int)), .own 2, .i (Rd.bad (bD s { pos := Rd.pos x1, out := Rd.out x1, bad := Rd.bad x1 }))] 169, .dead, .own 92 .cell (Rd.out x1)]))) (.need (s.length ≤ 1048576 ∧ (0 : Int) ≤ Rd.pos r ∧ Rd.pos r ≤ ae s) (.ite (az s (Rd.pos r) == [116, 114, 117, 101]) (.need (room x7 32) (.ret (.tup []) [.cells [.pd (.str s), .i x8, .own 2, .i (Rd.bad r)] 169, .dead, .own 92 .cell (Rd.out r ++ [{ op := (3 : Int), a := (0 : Int), name := [] }])])) (.ite (az s (Rd.pos r) == [102, 97, 108, 115, 101]) (.need (room x7 32) (.ret (.tup []) [.cells [.pd (.str s), .i x8, .own 2, .i (Rd.bad r)] 169, .dead, .own 92 .cell (Rd.out r ++ [{ op := (4 : Int), a := (0 : Int), name := [] }])])) (.need ((x6 && decide x9) = true → (0 : Int) ≤ IntKind.wrap .i64 x2 ∧ IntKind.wrap .i64 x2 < ae s) (.ite (x6 && decide x9 && (↑((List.getD s (x8.toNat) (0 : UInt8)).toNat) : Int) == 40) (.need (ah Tryz.prog (210 : FuncId) [.c (.loc 0 0), SX.s (az s (Rd.pos r))] (zMe2 s r) (.tup []) (rd2 s x3)) (.ret (.tup []) [.cells [.pd (.str s), .i (Rd.pos x3), .own 2, .i (Rd.bad x3)] 169, .dead, .own 92 .cell (Rd.out x3)])) (.ite (aP (az s (Rd.pos r))) (.need (room x7 32) (.ret (.tup []) [.cells [.pd (.str s), .i x8, .own 2, .i (Rd.bad r)] 169, .dead, .own 92 .cell (Rd.out r ++ [{ op := (5 : Int), a := (0 : Int), name := az s (Rd.pos r) }])])) (.ret (.tup []) (zMe1 s r))))))))))) ?_
 conv => zeta
 rw [cg (n := r.pos + ae (az s r.pos)) (by omega) (by omega)]
 have hc := g2
 simp only [fB, af, decide_eq_true_eq] at hc
 refine ⟨⟨hlow, by omega⟩, fun h => ?_, fun _ => ⟨fun h => ?_, fun _ => ⟨⟨hs, hlow, by omega⟩, fun h => ?_, fun _ => ⟨fun h => ?_, fun _ => ⟨fun h => ⟨by omega, hc.1⟩, fun _ => ⟨hq, RdQ.two rfl⟩, fun h => ?_⟩⟩⟩⟩⟩
 · have h' : isD (s.getD r.pos.toNat 0) = true := h
   rw [g6] at h'; cases h'
 · exact absurd (show bJ s r.pos = 40 from eq_of_beq h) g5
 · have h' := eq_of_beq h
   rcases g1 with ⟨e, _⟩ | ⟨e, _⟩ <;> (rw [e] at h'; exact absurd h' (by decide))
 · have h' := eq_of_beq h
   rcases g1 with ⟨e, _⟩ | ⟨e, _⟩ <;> (rw [e] at h'; exact absurd h' (by decide))
 · exfalso
   have e40 : (((s.getD (r.pos + ae (az s r.pos)).toNat 0).toNat : Int) == 40) = true := hc.2
   rw [decide_eq_true hc.1, e40] at h
   rcases g1 with ⟨e, _⟩ | ⟨e, _⟩ <;> (rw [e] at h; exact absurd h (by decide))
theorem yX {r : Rd} (hok : Ok s r) (hsl : eE s r) (hh : cB s r.pos = .leaf) : r7 s r (eD s r) := by
 have hlt := hok.lt (fun x e => by rw [hh] at e; subst e; simp)
 have hlow := hok.low
 have hL : ae s = (s.length : Int) := rfl
 have hs := hsl.2
 have hs1 := hsl.1
 have hw := jt s hok.low hok.high
 have hr : room (r.out.length + 1) 32 := fy (by omega)
 obtain ⟨g1, g2⟩ := Bj hh
 by_cases hin : az s r.pos = inS ∧ fB s r.pos = true ∧ isD (s.getD r.pos.toNat 0) = false
 · have e : eD s r = inR s r := by
    unfold eD
    rw [if_neg (by rw [hin.2.2]; simp), if_neg (by rw [hin.1]; decide), if_neg (by rw [hin.1]; decide), if_pos ⟨hin.1, hin.2.1⟩]
   have hc := hin.2.1
   have e2 : ae inS = 2 := by decide
   simp only [fB, hin.1, e2, af, decide_eq_true_eq] at hc
   rw [e]
   have hq := As (w := inS) rfl hok hsl (by omega)
   let B : Int → Rd → Rd := fun _ _ => r
   let C : Rd → Rd := fun _ => inR s r
   refine ah.rd Tryz.func187 (by kernel_rfl) (by kernel_rfl) rfl fun Γ => ?_
   refine jg (cfg := (o8 B C)) kT Tryz.func187 (let x1 := (B (1 : Int) { pos := IntKind.wrap .i64 (Rd.pos r + (1 : Int)), out := Rd.out r, bad := Rd.bad r }); let x2 := (Rd.pos r + ae (az s (Rd.pos r))); let x3 := (C { pos := Rd.pos r, out := Rd.out r, bad := Rd.bad r }); let x4 := (bW s { pos := Rd.pos r, out := Rd.out r, bad := Rd.bad r }); let x5 := (List.getD s ((Rd.pos r).toNat) (0 : UInt8)); let x6 := (az s (Rd.pos r) == [105, 110] || az s (Rd.pos r) == [114, 101] || az s (Rd.pos r) == [105, 109]); let x7 := ((Rd.out r).length + 1); let x8 := (IntKind.wrap .i64 x2); let x9 := (IntKind.wrap .i64 x2 < ae s); .need ((0 : Int) ≤ Rd.pos r ∧ Rd.pos r < ae s) (.ite (decide ((↑(x5.toNat) : Int) ≥ 48) && decide ((↑(x5.toNat) : Int) ≤ 57)) (.need (s.length ≤ 1048576 ∧ room x7 32 ∧ (0 : Int) ≤ Rd.pos r ∧ Rd.pos r < ae s ∧ isD x5 = true) (.ret (.tup []) [.cells [.pd (.str s), .i (Rd.pos x4), .own 2, .i (Rd.bad x4)] 169, .dead, .own 92 .cell (Rd.out x4)])) (.ite ((↑(x5.toNat) : Int) == 40) (.need (ah Tryz.prog (120 : FuncId) [.c (.loc 0 0), SX.i 1] [.cells [.pd (.str s), .i (IntKind.wrap .i64 (Rd.pos r + (1 : Int))), .own 1, .i (Rd.bad r)] (169 : TypeId), .own (92 : TypeId) .cell (Rd.out r)] (.tup []) (rd2 s x1)) (.need ((Rd.bad x1 < (0 : Int) → (0 : Int) ≤ Rd.pos x1 ∧ Rd.pos x1 ≤ ae s) ∧ (-1 : Int) ≤ Rd.pos x1 ∧ Rd.pos x1 ≤ (1099511627776 : Int)) (.ret (.tup []) [.cells [.pd (.str s), .i (Rd.pos x1 + (1 : Int)), .own 2, .i (Rd.bad (bD s { pos := Rd.pos x1, out := Rd.out x1, bad := Rd.bad x1 }))] 169, .dead, .own 92 .cell (Rd.out x1)]))) (.need (s.length ≤ 1048576 ∧ (0 : Int) ≤ Rd.pos r ∧ Rd.pos r ≤ ae s) (.ite (az s (Rd.pos r) == [116, 114, 117, 101]) (.need (room x7 32) (.ret (.tup []) [.cells [.pd (.str s), .i x8, .own 2, .i (Rd.bad r)] 169, .dead, .own 92 .cell (Rd.out r ++ [{ op := (3 : Int), a := (0 : Int), name := [] }])])) (.ite (az s (Rd.pos r) == [102, 97, 108, 115, 101]) (.need (room x7 32) (.ret (.tup []) [.cells [.pd (.str s), .i x8, .own 2, .i (Rd.bad r)] 169, .dead, .own 92 .cell (Rd.out r ++ [{ op := (4 : Int), a := (0 : Int), name := [] }])])) (.need ((x6 && decide x9) = true → (0 : Int) ≤ IntKind.wrap .i64 x2 ∧ IntKind.wrap .i64 x2 < ae s) (.ite (x6 && decide x9 && (↑((List.getD s (x8.toNat) (0 : UInt8)).toNat) : Int) == 40) (.need (ah Tryz.prog (210 : FuncId) [.c (.loc 0 0), SX.s (az s (Rd.pos r))] (zMe2 s r) (.tup []) (rd2 s x3)) (.ret (.tup []) [.cells [.pd (.str s), .i (Rd.pos x3), .own 2, .i (Rd.bad x3)] 169, .dead, .own 92 .cell (Rd.out x3)])) (.ite (aP (az s (Rd.pos r))) (.need (room x7 32) (.ret (.tup []) [.cells [.pd (.str s), .i x8, .own 2, .i (Rd.bad r)] 169, .dead, .own 92 .cell (Rd.out r ++ [{ op := (5 : Int), a := (0 : Int), name := az s (Rd.pos r) }])])) (.ret (.tup []) (zMe1 s r))))))))))) ?_
   conv => zeta
   rw [hin.1, e2, cg (n := r.pos + 2) (by omega) (by omega)]
   refine ⟨⟨hlow, by omega⟩, fun h => ?_, fun hd => ⟨fun h => ?_, fun _ => ⟨⟨hs, hlow, by omega⟩, fun h => absurd h (by decide), fun _ => ⟨fun h => absurd h (by decide), fun _ => ⟨fun h => ⟨by omega, hc.1⟩, fun _ => ⟨hq, RdQ.two rfl⟩, fun h => ?_⟩⟩⟩⟩⟩
   · have h' : isD (s.getD r.pos.toNat 0) = true := h
     rw [hin.2.2] at h'; cases h'
   · exact absurd (show bJ s r.pos = 40 from eq_of_beq h) (g1 hin.2.2)
   · exfalso
     have e40 : (((s.getD (r.pos + 2).toNat 0).toNat : Int) == 40) = true := hc.2
     rw [decide_eq_true hc.1, e40] at h
     exact absurd h (by decide)
 · let B : Int → Rd → Rd := fun _ _ => r
   let C : Rd → Rd := fun _ => r
   refine ah.rd Tryz.func187 (by kernel_rfl) (by kernel_rfl) rfl fun Γ => ?_
   refine jg (cfg := (o8 B C)) kT Tryz.func187 (let x1 := (B (1 : Int) { pos := IntKind.wrap .i64 (Rd.pos r + (1 : Int)), out := Rd.out r, bad := Rd.bad r }); let x2 := (Rd.pos r + ae (az s (Rd.pos r))); let x3 := (C { pos := Rd.pos r, out := Rd.out r, bad := Rd.bad r }); let x4 := (bW s { pos := Rd.pos r, out := Rd.out r, bad := Rd.bad r }); let x5 := (List.getD s ((Rd.pos r).toNat) (0 : UInt8)); let x6 := (az s (Rd.pos r) == [105, 110] || az s (Rd.pos r) == [114, 101] || az s (Rd.pos r) == [105, 109]); let x7 := ((Rd.out r).length + 1); let x8 := (IntKind.wrap .i64 x2); let x9 := (IntKind.wrap .i64 x2 < ae s); .need ((0 : Int) ≤ Rd.pos r ∧ Rd.pos r < ae s) (.ite (decide ((↑(x5.toNat) : Int) ≥ 48) && decide ((↑(x5.toNat) : Int) ≤ 57)) (.need (s.length ≤ 1048576 ∧ room x7 32 ∧ (0 : Int) ≤ Rd.pos r ∧ Rd.pos r < ae s ∧ isD x5 = true) (.ret (.tup []) [.cells [.pd (.str s), .i (Rd.pos x4), .own 2, .i (Rd.bad x4)] 169, .dead, .own 92 .cell (Rd.out x4)])) (.ite ((↑(x5.toNat) : Int) == 40) (.need (ah Tryz.prog (120 : FuncId) [.c (.loc 0 0), SX.i 1] [.cells [.pd (.str s), .i (IntKind.wrap .i64 (Rd.pos r + (1 : Int))), .own 1, .i (Rd.bad r)] (169 : TypeId), .own (92 : TypeId) .cell (Rd.out r)] (.tup []) (rd2 s x1)) (.need ((Rd.bad x1 < (0 : Int) → (0 : Int) ≤ Rd.pos x1 ∧ Rd.pos x1 ≤ ae s) ∧ (-1 : Int) ≤ Rd.pos x1 ∧ Rd.pos x1 ≤ (1099511627776 : Int)) (.ret (.tup []) [.cells [.pd (.str s), .i (Rd.pos x1 + (1 : Int)), .own 2, .i (Rd.bad (bD s { pos := Rd.pos x1, out := Rd.out x1, bad := Rd.bad x1 }))] 169, .dead, .own 92 .cell (Rd.out x1)]))) (.need (s.length ≤ 1048576 ∧ (0 : Int) ≤ Rd.pos r ∧ Rd.pos r ≤ ae s) (.ite (az s (Rd.pos r) == [116, 114, 117, 101]) (.need (room x7 32) (.ret (.tup []) [.cells [.pd (.str s), .i x8, .own 2, .i (Rd.bad r)] 169, .dead, .own 92 .cell (Rd.out r ++ [{ op := (3 : Int), a := (0 : Int), name := [] }])])) (.ite (az s (Rd.pos r) == [102, 97, 108, 115, 101]) (.need (room x7 32) (.ret (.tup []) [.cells [.pd (.str s), .i x8, .own 2, .i (Rd.bad r)] 169, .dead, .own 92 .cell (Rd.out r ++ [{ op := (4 : Int), a := (0 : Int), name := [] }])])) (.need ((x6 && decide x9) = true → (0 : Int) ≤ IntKind.wrap .i64 x2 ∧ IntKind.wrap .i64 x2 < ae s) (.ite (x6 && decide x9 && (↑((List.getD s (x8.toNat) (0 : UInt8)).toNat) : Int) == 40) (.need (ah Tryz.prog (210 : FuncId) [.c (.loc 0 0), SX.s (az s (Rd.pos r))] (zMe2 s r) (.tup []) (rd2 s x3)) (.ret (.tup []) [.cells [.pd (.str s), .i (Rd.pos x3), .own 2, .i (Rd.bad x3)] 169, .dead, .own 92 .cell (Rd.out x3)])) (.ite (aP (az s (Rd.pos r))) (.need (room x7 32) (.ret (.tup []) [.cells [.pd (.str s), .i x8, .own 2, .i (Rd.bad r)] 169, .dead, .own 92 .cell (Rd.out r ++ [{ op := (5 : Int), a := (0 : Int), name := az s (Rd.pos r) }])])) (.ret (.tup []) (zMe1 s r))))))))))) ?_
   conv => zeta
   rw [cg (n := r.pos + ae (az s r.pos)) (by omega) (by omega)]
   refine ⟨⟨hlow, hlt⟩, fun h => ⟨⟨hs, hr, hlow, hlt, h⟩, RdQ.two ?_⟩, fun hd => ⟨fun h => ?_, fun _ => ⟨⟨hs, hlow, hok.high⟩, fun h => ⟨hr, RdQ.two ?_⟩, fun n1 => ⟨fun h => ⟨hr, RdQ.two ?_⟩, fun n2 => ⟨fun h => ?_, fun h => ?_, fun n3 => ⟨fun h => ⟨hr, RdQ.two ?_⟩, fun h => RdQ.one ?_⟩⟩⟩⟩⟩⟩
   · have h' : isD (s.getD r.pos.toNat 0) = true := h
     have e : eD s r = bW s r := by unfold eD; rw [if_pos h']
     rw [e]; rfl
   · exact absurd (show bJ s r.pos = 40 from eq_of_beq h) (g1 hd)
   · have h' : az s r.pos = fM := eq_of_beq h
     have hd' : ¬ isD (s.getD r.pos.toNat 0) = true := by have : isD (s.getD r.pos.toNat 0) = false := hd; rw [this]; simp
     have e : eD s r = (r.emit ⟨3, 0, []⟩).to (r.pos + ae (az s r.pos)) := by unfold eD; rw [if_neg hd', if_pos h', h']; rfl
     rw [e]; rfl
   · have h' : az s r.pos = gl := eq_of_beq h
     have hd' : ¬ isD (s.getD r.pos.toNat 0) = true := by have : isD (s.getD r.pos.toNat 0) = false := hd; rw [this]; simp
     have e : eD s r = (r.emit ⟨4, 0, []⟩).to (r.pos + ae (az s r.pos)) := by
      unfold eD
      have n1' : ¬ az s r.pos = fM := ne_of_beq_false n1
      rw [if_neg hd', if_neg n1', if_pos h', h']; rfl
     rw [e]; rfl
   · simp only [af, decide_eq_true_eq] at h
     exact ⟨by omega, h.2⟩
   · exfalso
     have h2 : (decide (r.pos + ae (az s r.pos) < ae s) && ((s.getD (r.pos + ae (az s r.pos)).toNat 0).toNat : Int) == 40) = true := by
      simp only [af] at h ⊢
      exact ⟨h.1.2, h.2⟩
     have hcb : fB s r.pos = true := h2
     simp only [af, aF, beq_iff_eq] at h
     rcases h.1.1 with (h1 | h1) | h1
     · exact hin ⟨h1, hcb, hd⟩
     · exact (g2 hd).1 ⟨h1, hcb⟩
     · exact (g2 hd).2 ⟨h1, hcb⟩
   · have hd' : ¬ isD (s.getD r.pos.toNat 0) = true := by have : isD (s.getD r.pos.toNat 0) = false := hd; rw [this]; simp
     have e : eD s r = (r.emit ⟨5, 0, az s r.pos⟩).to (r.pos + ae (az s r.pos)) := by
      unfold eD
      have n1' : ¬ az s r.pos = fM := ne_of_beq_false n1
      have n2' : ¬ az s r.pos = gl := ne_of_beq_false n2
      rw [if_neg hd', if_neg n1', if_neg n2', if_neg (fun g => hin ⟨g.1, g.2, hd⟩), if_pos h]
     rw [e]; rfl
   · have hd' : ¬ isD (s.getD r.pos.toNat 0) = true := by have : isD (s.getD r.pos.toNat 0) = false := hd; rw [this]; simp
     have e : eD s r = r.wrong r.pos := by
      unfold eD
      have n1' : ¬ az s r.pos = fM := ne_of_beq_false n1
      have n2' : ¬ az s r.pos = gl := ne_of_beq_false n2
      rw [if_neg hd', if_neg n1', if_neg n2', if_neg (fun g => hin ⟨g.1, g.2, hd⟩), if_neg (by rw [h]; simp)]
     rw [e]; rfl
end Go.Proofs.YtpfidgnkokidoaaGreatDoor
