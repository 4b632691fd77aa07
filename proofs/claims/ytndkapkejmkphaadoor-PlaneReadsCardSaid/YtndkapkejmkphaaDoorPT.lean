/- An executor for function bodies of the model over data, part PT: a statement whose order Go leaves open, with operations that write the call's own blocks, and with such as are done only if another one says so: the symbolic run. Conditions: each operation's own. -/
import Derived.Test.YtndkapkejmkphaaDoorPO
namespace Go.Ev
open Go.RowKit

/-! ### numbers that a turning leaves alone -/
theorem map_eq_self {α : Type} {f : α → α} {l : List α} (h : ∀ x ∈ l, f x = x) : l.map f = l := by
  induction l with
  | nil => rfl
  | cons a l ih => rw [List.map_cons, h a List.mem_cons_self, ih fun x hx => h x (List.mem_cons_of_mem _ hx)]
section
variable {ρ : Nat → Nat}
theorem RC.map_eq {s : RC} (h : ∀ i ∈ s.refs, ρ i = i) : s.map ρ = s := by
  cases s with
  | pd p => rfl
  | loc i o => simp only [RC.map]; rw [h i (by simp [RC.refs])]
theorem SC.map_eq {s : SC} (h : ∀ i ∈ s.refs, ρ i = i) : s.map ρ = s := by
  cases s with
  | pd p => rfl
  | loc i o => simp only [SC.map]; rw [h i (by simp [SC.refs])]
  | own i => simp only [SC.map]; rw [h i (by simp [SC.refs])]
  | oat i j sz o => simp only [SC.map]; rw [h i (by simp [SC.refs])]
  | fn f a b =>
    simp only [SC.map, SC.refs] at h ⊢
    rw [map_eq_self fun x hx => RC.map_eq fun i hi => h i (List.mem_append_left _ (List.mem_flatMap.2 ⟨x, hx, hi⟩)), map_eq_self fun x hx => RC.map_eq fun i hi => h i (List.mem_append_right _ (List.mem_flatMap.2 ⟨x, hx, hi⟩))]
theorem SX.map_eq {s : SX} (h : ∀ i ∈ s.refs, ρ i = i) : s.map ρ = s := by
  cases s with
  | c s => simp only [SX.map]; rw [SC.map_eq h]
  | agg cs => simp only [SX.map]; rw [map_eq_self fun x hx => SC.map_eq fun i hi => h i (List.mem_flatMap.2 ⟨x, hx, hi⟩)]
theorem SV.map_eq {s : SV} (h : ∀ i ∈ s.refs, ρ i = i) : s.map ρ = s := by
  cases s with
  | x s => simp only [SV.map]; rw [SX.map_eq h]
  | tup l => simp only [SV.map]; rw [map_eq_self fun x hx => SX.map_eq fun i hi => h i (List.mem_flatMap.2 ⟨x, hx, hi⟩)]
  | grd s b v => simp only [SV.map]; rw [SX.map_eq h]
theorem Chunk.map_eq {s : Chunk} (h : ∀ i ∈ s.refs, ρ i = i) : s.map ρ = s := by
  cases s with
  | dead => rfl
  | cells cs e => simp only [Chunk.map]; rw [map_eq_self fun x hx => SC.map_eq fun i hi => h i (List.mem_flatMap.2 ⟨x, hx, hi⟩)]
  | own e t l => rfl
  | obj o =>
    cases o with
    | set => rfl
    | it j d c => simp only [Chunk.map, Ob.map]; rw [h j (by simp [Chunk.refs, Ob.refs])]
end
theorem SV.R_on {V V' : Vn} {s : SV} (hle : HLe V.H V'.H) (h : ∀ i ∈ s.refs, V'.σ i = V.σ i ∧ V'.ov i = V.ov i) {v : Value} (hr : s.R V v) : s.R V' v := by
  have ht : Turned (fun i => i) V V' s.refs := ⟨hle, h⟩
  cases s with
  | x s => have := SX.R_map ht hr; rwa [SX.map_eq fun _ _ => rfl] at this
  | tup l =>
    obtain ⟨us, e, h1⟩ := hr
    have := sxs_map ht h1
    rw [map_eq_self fun x _ => SX.map_eq fun _ _ => rfl] at this
    exact ⟨us, e, this⟩
  | grd s b v => exact hr
theorem SlotOk.on {V V' : Vn} {a : Act} {t : Nat} {sv : SV} (hle : HLe V.H V'.H) (h : ∀ i ∈ sv.refs, V'.σ i = V.σ i ∧ V'.ov i = V.ov i) (hk : SlotOk V a t sv) : SlotOk V' a t sv := by
  have := SlotOk.map (ρ := fun i => i) (V' := V') ⟨hle, h⟩ hk
  rwa [SV.map_eq fun _ _ => rfl] at this

/-! ### ancestors -/
def insN (x : Nat) (l : List Nat) : List Nat := bif l.any (Nat.beq x) then l else x :: l
def anc1 (t : List (List Nat)) (o : Oper) : List Nat := (directDeps o).foldl (fun l j => (j :: t.getD j []).foldl (fun l x => insN x l) l) []
def ancT : List Oper → List (List Nat) → List (List Nat)
  | [], t => t
  | o :: r, t => ancT r (t ++ [anc1 t o])
def ancL (A : List (List Nat)) (i : Nat) : List Nat := A.getD i []
def flowOk2 (ops : Array Oper) : Bool := distinctN (allDsts ops) && (ops.toList.zipIdx.all fun p => (directDeps p.1).all fun j => Nat.blt j p.2)

/-! ### what the operations that are done have left of the chunks -/
abbrev Eff := List (Nat × Nat × Chunk)
def effAt (D : Nat → Bool) : Eff → Nat → Option Chunk
  | [], _ => none
  | q :: r, x => bif Nat.beq q.2.1 x && D q.1 then some q.2.2 else effAt D r x
def ckAux (E : Eff) (D : Nat → Bool) : List Chunk → Nat → List Chunk
  | [], _ => []
  | c :: r, x => (effAt D E x).getD c :: ckAux E D r (x + 1)
def effOf : List (Nat × Chunk) → Nat → Option Chunk
  | [], _ => none
  | p :: r, x => bif Nat.beq p.1 x then some p.2 else effOf r x
def vis (A : List (List Nat)) (i x : Nat) (T : List (Nat × Nat)) : Bool :=
  T.all fun q => !Nat.beq q.2 x || Nat.beq q.1 i || (ancL A i).any (Nat.beq q.1) || (ancL A q.1).any (Nat.beq i)
def viewAux (A : List (List Nat)) (T : List (Nat × Nat)) (E : Eff) (i : Nat) : List Chunk → Nat → List Chunk
  | [], _ => []
  | c :: r, x => (bif vis A i x T then (effAt (fun k => (ancL A i).any (Nat.beq k)) E x).getD c else .dead) :: viewAux A T E i r (x + 1)

/-! ### the run -/
structure FX where
  sv : SV
  on : Option (Nat × Nat × Bool × Prop)
def FX.R (V : Vn) (fo : FX) (v : Value) : Prop := match fo.on with
  | none => fo.sv.R V v
  | some q => (q.2.2.2 → fo.sv.R V v) ∧ (¬ q.2.2.2 → v = undef)
def onBy (want b : Bool) : Option (Nat × Nat × Bool × Prop) → Prop
  | none => b = want
  | some q => q.2.2.2 ∧ b = want
def litOn (cfg : Cfg) : Bool := cfg.tab.any fun e => Nat.beq e.1 1000000007
def askO (cfg : Cfg) (ops : Array Oper) (i : Nat) : Option Bool := bif cfg.tab.any (fun e => Nat.beq e.1 1000000009) then ops.toList.findSome? (fun o => match o.guard with
  | some (j, want) => bif Nat.beq j i then some (bif cfg.tab.any (fun e => Nat.beq e.1 (1000001000 + i)) then !want else want) else none
  | none => none) else none
def askW (ask : Option Bool) (p : Option Prop) (sv : SV) : Option Prop × SV := match ask with
  | none => (p, sv)
  | some want => match sv with
    | .x (.c (.pd (.bool b))) => (some (match p with
      | none => b = want
      | some q => q ∧ b = want), .x (.c (.pd (.bool want))))
    | _ => (p, sv)
theorem askW_ok {ask : Option Bool} {p : Option Prop} {sv : SV} (h : Holds (askW ask p sv).1) : Holds p ∧ (askW ask p sv).2 = sv := by
  cases ask with
  | none => exact ⟨h, rfl⟩
  | some want =>
    by_cases hb : ∃ b, sv = .x (.c (.pd (.bool b)))
    · obtain ⟨b, rfl⟩ := hb
      cases p with
      | none =>
        have h' : b = want := h
        exact ⟨trivial, by rw [h']; rfl⟩
      | some q =>
        have h' : q ∧ b = want := h
        exact ⟨h'.1, by rw [h'.2]; rfl⟩
    · have e : askW (some want) p sv = (p, sv) := by
        unfold askW
        simp only
        split
        · exact absurd ⟨_, rfl⟩ hb
        · rfl
      rw [e] at h ⊢
      exact ⟨h, rfl⟩
def grdX (lit : Bool) (ops : Array Oper) (fs : List FX) (An : List Nat) (o : Oper) : Option (Option (Nat × Nat × Bool × Prop)) :=
  match o.guard with
  | none => some none
  | some (j, want) => bif An.any (Nat.beq j) then match fs[j]?, dstOf ops j with
      | some ⟨.x (.c (.pd (.bool b))), on⟩, some s => bif lit then (match on with
        | none => bif b == want then some none else some (some (j, s, want, onBy want b none))
        | some q => some (some (j, s, want, onBy want b (some q)))) else some (some (j, s, want, onBy want b on))
      | _, _ => none
    else none
def slotsX (ops : Array Oper) (fs : List FX) (all : List Nat) : List Nat → List (Nat × SV)
  | [] => []
  | j :: r => match fs[j]?, dstOf ops j with
    | some ⟨sv, none⟩, some d => (d, sv) :: slotsX ops fs all r
    | some ⟨.x v, some (g, s, want, _)⟩, some d => bif all.any (Nat.beq g) then (d, .grd s want v) :: slotsX ops fs all r else slotsX ops fs all r
    | _, _ => slotsX ops fs all r
def stX (base : ST) (ck : List Chunk) (ops : Array Oper) (fs : List FX) (l : List Nat) : ST := { base with fr := slotsX ops fs l l ++ base.fr, ck := ck }
def rdOp (P : Program) (cfg : Cfg) (s : ST) (g : Option (Nat × Bool)) (op : Op) : Option (Option Prop × SV) :=
  match opVB P s g op with
  | some (p, sx) => some (p, .x sx)
  | none => match g with
    | some _ => match callee P cfg.tys s g op with
      | some (f, args) => goB P cfg s f args
      | none => none
    | none => match opT s op with
      | some l => some (none, .tup l)
      | none => match opC s op with
        | some sx => some (none, .x sx)
        | none => match callee P cfg.tys s none op with
          | some (f, args) => bif within [] (args.flatMap SX.refs) then none else goB P cfg s f args
          | none => none
def opN (P : Program) (st : ST) : Op → Option SX
  | .buildSlice t len parts => match P.underlying t with
    | some (.slice e) => match szOf P e, zerosS P e, partsX st none parts.toList with
      | some n, some z, some ps => match fillS (fun i => some (i * n, n)) (repS z len) ps with
        | some cells => match fnList cells with
          | some l => bif st.wf && Nat.beq n 1 && Nat.ble (len * n) 16777216 && Nat.beq z.length n && Nat.beq l.length len && cells.all (SC.lt st.ck.length) then some (.c (.pd (.fns l))) else none
          | none => none
        | none => none
      | _, _, _ => none
    | _ => none
  | _ => none
def wrOp (P : Program) (cfg : Cfg) (s : ST) (o : Oper) : Option (Option Prop × SV × List Chunk) :=
  match opN P s o.op with
  | some sx => some (none, .x sx, s.ck)
  | none => match opM P cfg.tys s o.op with
  | some (sx, ck') => some (none, .x sx, ck')
  | none => match opS P s o.op, o.dst with
    | some (p, ck'), none => some (p, .tup [], ck')
    | _, _ => match opX P s o.op with
      | some (p, sx, ck') => some (p, .x sx, ck')
      | none => match callee P cfg.tys s none o.op with
        | some (f, args) => goA P cfg.tab s f args
        | none => none
def subST (m : List Nat) (s : ST) : Option ST := match pickCk s.ck m with
  | some ck0 => bif incr m && within m (ck0.flatMap Chunk.refs) then
      some { n := s.n, fr := (s.fr.filter fun p => within m p.2.refs).map (fun p => (p.1, p.2.map fun i => idxIn i m 0)), ck := ck0.map (Chunk.map fun i => idxIn i m 0), kn := [], m := m.length }
    else none
  | none => none
def ren (a b : Nat) (x : Nat) : Nat := bif Nat.beq x a then b else x
def frzAll : Nat → List Chunk → SV → Option SV
  | _, [], sv => some sv
  | n, .own _ t l :: r, sv => frzAll (n + 1) r (sv.frz (.own n t l))
  | _, _ :: _, _ => none
def fedTo (q : Op → Nat → Bool) (ops : Array Oper) : Nat → Nat → Bool
  | 0, _ => false
  | n + 1, t => ops.toList.any fun o => q o.op t || match o.op with
    | .move (.tmp s) | .assign (.tmp s) => Nat.beq s t && (match o.dst with | some d => fedTo q ops n d | none => false)
    | .extract (.tmp s) _ => Nat.beq s t && (match o.dst with | some d => fedTo q ops n d | none => false)
    | _ => false
def isT (t : Nat) : Operand → Bool
  | .tmp s => Nat.beq s t
  | _ => false
def qApp : Op → Nat → Bool
  | .call { callee := .builtin .append, args := args, argTypes := _ }, t => match args.toList with
    | x :: _ => isT t x
    | [] => false
  | _, _ => false
def qCall : Op → Nat → Bool
  | .call { callee := .value _, args := args, argTypes := _ }, t => args.toList.any (isT t)
  | _, _ => false
def isCall : Op → Bool
  | .call { callee := .value _, args := _, argTypes := _ } => true
  | _ => false
def keepQ (ops : Array Oper) (o : Oper) : Bool := match o.dst with
  | some d => fedTo qApp ops 4 d || (!isCall o.op && !fedTo qCall ops 4 d)
  | none => false
def isRow : Chunk → Bool
  | .obj _ => true
  | .cells _ _ => true
  | _ => false
def marked : List Chunk → Option (List Chunk)
  | [.dead] => some []
  | .own e t l :: r => (marked r).map (.own e t l :: ·)
  | _ => none
def renL (n x sz k y : Nat) : Nat := bif Nat.ble n y && Nat.blt y (n + k) then x + (y - n) * sz else y
def newEf (x sz : Nat) : Nat → List Chunk → List (Nat × Chunk)
  | _, [] => []
  | j, c :: r => (x + j * sz, c) :: newEf x sz (j + 1) r
def okR (b : Nat) (l : List Nat) : Bool := l.all fun y => Nat.blt y b
def putW (n x sz : Nat) (m : List Nat) (keep : Bool) (ret : SV) (ck2 : List Chunk) : Option (SV × List (Nat × Chunk)) :=
  match ck2.drop m.length with
  | [] => some (ret.map (back m n), m.zip (ck2.map (Chunk.map (back m n))))
  | [c] => bif keep || isRow c then
      some ((ret.map (back m n)).map (ren n x), m.zip ((ck2.map (Chunk.map (back m n))).map (Chunk.map (ren n x))) ++ [(x, (c.map (back m n)).map (ren n x))])
    else match frzAll n [c.map (back m n)] (ret.map (back m n)) with
      | some sv => some (sv, m.zip (ck2.map (Chunk.map (back m n))))
      | none => none
  | l => match marked l with
    | some L => bif Nat.ble L.length 3 && okR (n + L.length) (ret.map (back m n)).refs && okR (n + L.length) ((ck2.map (Chunk.map (back m n))).flatMap Chunk.refs) then
        some ((ret.map (back m n)).map (renL n x sz L.length), m.zip ((ck2.map (Chunk.map (back m n))).map (Chunk.map (renL n x sz L.length))) ++ newEf x sz 0 L)
      else none
    | none => match frzAll n (l.map (Chunk.map (back m n))) (ret.map (back m n)) with
      | some sv => some (sv, m.zip (ck2.map (Chunk.map (back m n))))
      | none => none
def ow (n0 sz y : Nat) : Nat := (y - n0) % sz
def flowW (P : Program) (cfg : Cfg) (ops : Array Oper) (A : List (List Nat)) (T : List (Nat × Nat)) (n0 i : Nat) (s : ST) (m : List Nat) (o : Oper) : Option (Option Prop × SV × List (Nat × Chunk)) :=
  bif m.all (fun x => vis A i x T && !(Nat.ble n0 x && Nat.beq (ow n0 ops.size x) i) && Nat.blt x s.ck.length) then
    match subST m s with
    | some s' => match wrOp P cfg s' o with
      | some (p, ret, ck2) => bif Nat.ble m.length ck2.length && notGrd ret then (putW s.ck.length (n0 + i) ops.size m (keepQ ops o) ret ck2).map fun r => (p, r) else none
      | none => none
    | none => none
  else none
def oldW (fr0 : List (Nat × SV)) (ops : Array Oper) (A : List (List Nat)) (i : Nat) (op : Op) : Option SX := match op with
  | .move (.tmp d) => match fr0.find? (fun q => Nat.beq q.1 d) with
    | some (_, .x v) => bif (List.range ops.size).all (fun j => match dstOf ops j with
      | some e => bif Nat.beq e d then (ancL A j).any (Nat.beq i) else true
      | none => true) then some v else none
    | _ => none
  | _ => none
theorem oldW_spec {fr0 : List (Nat × SV)} {ops : Array Oper} {A : List (List Nat)} {i : Nat} {op : Op} {v : SX} (h : oldW fr0 ops A i op = some v) : ∃ d, op = .move (.tmp d) ∧ (d, SV.x v) ∈ fr0 ∧ ∀ j, dstOf ops j = some d → i ∈ ancL A j := by
  unfold oldW at h
  split at h
  · rename_i d
    split at h
    · rename_i d' v' hf
      cases hb : (List.range ops.size).all (fun j => match dstOf ops j with
        | some e => bif Nat.beq e d then (ancL A j).any (Nat.beq i) else true
        | none => true)
      · rw [hb] at h; cases h
      · rw [hb] at h
        simp only [cond_true, Option.some.injEq] at h
        subst h
        have hm := List.mem_of_find?_eq_some hf
        have hd := List.find?_some hf
        have hd' : d' = d := Nat.eq_of_beq_eq_true hd
        subst hd'
        refine ⟨d', rfl, hm, fun j hj => ?_⟩
        have hjs : j < ops.size := by
          unfold dstOf at hj
          simp only [Option.bind_eq_some_iff] at hj
          obtain ⟨o, h1, _⟩ := hj
          exact (Array.getElem?_eq_some_iff.1 h1).1
        have := List.all_eq_true.1 hb j (List.mem_range.2 hjs)
        rw [hj] at this
        simp only [Nat.beq_refl, cond_true] at this
        exact mem_any this
    · cases h
  · cases h
def flowOp2 (P : Program) (cfg : Cfg) (base : ST) (ops : Array Oper) (A : List (List Nat)) (T : List (Nat × Nat)) (n0 : Nat) (fr0 : List (Nat × SV)) (fs : List FX) (E : Eff) (i : Nat) (o : Oper) : Option (Option Prop × FX × List (Nat × Chunk)) :=
  match grdX (litOn cfg) ops fs (ancL A i) o with
  | some none => match rdOp P cfg (stX base (viewAux A T E i base.ck 0) ops fs (ancL A i)) none o.op with
    | some (p, sv) => some ((askW (askO cfg ops i) p sv).1, ⟨(askW (askO cfg ops i) p sv).2, none⟩, [])
    | none => match oldW fr0 ops A i o.op with
    | some v => some (none, ⟨.x v, none⟩, [])
    | none => match flowW P cfg ops A T n0 i (stX base (viewAux A T E i base.ck 0) ops fs (ancL A i)) (reachOf (viewAux A T E i base.ck 0) (opRefs (stX base (viewAux A T E i base.ck 0) ops fs (ancL A i)) o.op)) o with
      | some (p, sv, ef) => some ((askW (askO cfg ops i) p sv).1, ⟨(askW (askO cfg ops i) p sv).2, none⟩, ef)
      | none => none
  | some (some g) => match rdOp P cfg (stX base (viewAux A T E i base.ck 0) ops fs (ancL A i)) (some (g.2.1, g.2.2.1)) o.op with
    | some (p, .x v) => some (p.map (fun p => g.2.2.2 → p), ⟨.x v, some g⟩, [])
    | _ => none
  | none => none
def refsOk (n0 sz : Nat) (A : List (List Nat)) (i : Nat) (l : List Nat) : Bool := l.all fun y => Nat.blt y n0 || (Nat.blt y (n0 + sz * 3) && (Nat.beq (ow n0 sz y) i || (ancL A i).any fun k => Nat.beq (ow n0 sz y) k))
def okFX (n0 sz : Nat) (A : List (List Nat)) (T : List (Nat × Nat)) (i : Nat) (fo : FX) (ef : List (Nat × Chunk)) : Bool :=
  notGrd fo.sv && refsOk n0 sz A i fo.sv.refs && ef.all fun p => refsOk n0 sz A i p.2.refs && vis A i p.1 T && refsOk n0 sz A i [p.1]
def flowRun2 (P : Program) (cfg : Cfg) (base : ST) (ops : Array Oper) (A : List (List Nat)) (T : List (Nat × Nat)) (n0 : Nat) (fr0 : List (Nat × SV)) : List Oper → List FX → Eff → Option (List Prop × List FX × Eff)
  | [], fs, E => some ([], fs, E)
  | o :: r, fs, E => match flowOp2 P cfg base ops A T n0 fr0 fs E fs.length o with
    | some (p, fo, ef) => bif okFX n0 ops.size A T fs.length fo ef then
        match flowRun2 P cfg base ops A T n0 fr0 r (fs ++ [fo]) (ef.map (fun q => (fs.length, q.1, q.2)) ++ E) with
        | some (ps, fs', E') => some (match p with | some p => p :: ps | none => ps, fs', E')
        | none => none
      else none
    | none => none
def keysE (E : Eff) : List (Nat × Nat) := E.map fun q => (q.1, q.2.1)
def inT (T : List (Nat × Nat)) (E : Eff) : Bool := E.all fun q => T.any fun t => Nat.beq t.1 q.1 && Nat.beq t.2 q.2.1
def flow2 (P : Program) (cfg : Cfg) (base : ST) (ops : Array Oper) (A : List (List Nat)) (n0 : Nat) (fr0 : List (Nat × SV)) : Option (List Prop × List FX × Eff) :=
  match flowRun2 P cfg base ops A [] n0 fr0 ops.toList [] [] with
  | some (ps, fs, E) => match E with
    | [] => some (ps, fs, [])
    | q :: E => match flowRun2 P cfg base ops A (keysE (q :: E)) n0 fr0 ops.toList [] [] with
      | some (ps2, fs2, E2) => bif inT (keysE (q :: E)) E2 then some (ps2, fs2, E2) else none
      | none => none
  | none => none
def base2 (ops : Array Oper) (st : ST) : ST := { flowBase ops st with ck := st.ck ++ List.replicate (ops.size * 3) .dead }
def isDead : Chunk → Bool
  | .dead => true
  | _ => false
def trimCk (n0 : Nat) (ck : List Chunk) : List Chunk := bif (ck.drop n0).all isDead then ck.take n0 else ck
def endST (s : ST) : ST := { s with fr := s.fr.filter fun p => p.2.lt s.ck.length }
def flowEnd (ops : Array Oper) (st : ST) (fs : List FX) (E : Eff) : ST :=
  endST (stX (base2 ops st) (trimCk st.ck.length (ckAux E (fun _ => true) (base2 ops st).ck 0)) ops fs (List.range ops.size))
end Go.Ev
