/- The library's strings.Builder, told exactly: what a write, a reading and a look leave behind. Conditions: each theorem's own. Contracts: strings.Builder: written, read, how long. Conditions: at most 2^47 bytes; a reading: some bytes. -/
import Derived.Test.YtpfidgnkokidoaaGreatDoorShelfb
import Derived.Test.YtpfidgnkokidoaaGreatDoorDa
namespace Go.Proofs
open Go.Shelf Go.RowKit
variable {P : Program} {ρ : Ren}
section
variable (w : World)
theorem append_exact (t u ty e : TypeId) (i : TypeInfo) (ht : P.underlying t = some (.slice e)) (hu : P.underlying u = some .string) (hi : P.info? e = some i) (hz : i.zero = some (.int .u8 0)) (hsize : i.size = 1) (hby : i.bytes = 1)
 (v : Value) (n : Nat) (xs : List Value) (hown : w.ownsRow 0 e 1 v n xs) (s : ByteArray) (hbytes : n + s.size ≤ 140737488355328) :
 ∃ v' w', (Builtin.append_ #[t, u] ty #[v, .string s]).run P w = .ok v' w' ∧ w'.ownsRow 0 e 1 v' (n + s.size) (xs ++ Lib.strCells s) ∧ w.grownBy w' v.ownBlock ∧ ∀ g, v'.ownBlock = some g → v.ownBlock = some g ∨ w.heap.size ≤ g := by
 have h63 : n + s.size ≤ maxLen := by unfold maxLen; omega
 obtain ⟨v', w', hr, h2, h3, _⟩ := Lib.run_append_own_string (P := P) w 0 t u ty e i ht hu hi hz hsize hby v n xs hown s h63 hbytes (Nat.zero_le _)
 refine ⟨v', w', hr, h2, h3, fun g hg => ?_⟩
 have hxl : xs.length = n := by simpa using hown.1
 rcases hown.2 with ⟨rfl, rfl⟩ | ⟨g0, cap, cur, rfl, hbg, hg0, hnc, hcm, hcs, htake⟩
 · right
   obtain ⟨v2, w2, hr2, k2, _, _⟩ := Lib.run_append_own_string (P := P) w w.heap.size t u ty e i ht hu hi hz hsize hby (.slice none 0 0) 0 xs ⟨hown.1, .inl ⟨rfl, rfl⟩⟩ s h63 hbytes (Nat.le_refl _)
   rw [hr] at hr2
   injection hr2 with e1 e2
   subst e1; subst e2
   rcases k2.2 with ⟨rfl, _⟩ | ⟨g1, cap, cur, rfl, hb, _⟩
   · simp [Value.ownBlock] at hg
   · simp only [Value.ownBlock, Option.some.injEq] at hg; omega
 · by_cases hroom : n + s.size ≤ cap
   · left
     have hr2 := Lib.run_append_room_string (P := P) w t u ty e i ht hu hi hsize g0 n cap cur hg0 s hroom (by omega)
     rw [hr] at hr2
     injection hr2 with e1 e2
     subst e1
     simpa [Value.ownBlock] using hg
   · right
     have holds : ∀ j u, xs[j]? = some u → w.cell? ((⟨g0, 0, none⟩ : Addr).add j) = some u := hown.cells (g := g0) rfl
     have hr2 := Lib.run_append_grow_string (P := P) w t u ty e i (.int .u8 0) ht hu hi hz ⟨g0, 0, none⟩ n cap xs (by rw [hsize]; simpa using hxl) holds s (by omega) (by omega) (by rw [hby]; exact growslice_fits (by omega) (by omega))
     rw [hr] at hr2
     injection hr2 with e1 e2
     subst e1
     simp only [Value.ownBlock, Option.some.injEq] at hg
     omega
theorem wpList_append_exact {ops : Array Oper} {rest : List Oper} {o : Oper} {a : Act} {Q : Exit → Act → World → Prop} (hgd : o.guard = none) (sl x : Operand) (t u : TypeId)
 (ho : o.op = .call { callee := .builtin .append, args := #[sl, x], argTypes := #[t, u] })
 (e : TypeId) (i : TypeInfo) (ht : P.underlying t = some (.slice e)) (hu : P.underlying u = some .string) (hi : P.info? e = some i) (hz : i.zero = some (.int .u8 0)) (hsize : i.size = 1) (hby : i.bytes = 1)
 (v : Value) (n : Nat) (xs : List Value) (hs : a.eval sl = v) (hown : w.ownsRow 0 e 1 v n xs) (s : ByteArray) (hx : a.eval x = .string s) (hbytes : n + s.size ≤ 140737488355328)
 (h : ∀ v' w', w'.ownsRow 0 e 1 v' (n + s.size) (xs ++ Lib.strCells s) → w.grownBy w' v.ownBlock → (∀ g, v'.ownBlock = some g → v.ownBlock = some g ∨ w.heap.size ≤ g) → wpList P ops Q rest (a.put o.dst v') w') : wpList P ops Q (o :: rest) a w := by
 refine wpList_plain hgd fun K hK => ?_
 obtain ⟨v', w', hr, h2, h3, h4⟩ := append_exact (P := P) w t u o.type e i ht hu hi hz hsize hby v n xs hown s hbytes
 unfold Oper.wp execOp
 simp only [ho, resolve, invoke, builtin, Sem.run_bind, Sem.run_pure, Result.andThen_ok, List.map_toArray, List.map_cons, List.map_nil, hs, hx, hr]
 exact hK _ _ (h v' w' h2 h3 h4)
end
set_option maxHeartbeats 1000000 in
set_option maxRecDepth 100000 in
theorem ws_exact (L : Lays.n166 P ρ) (X : Builder.Extra P ρ) (b n : Nat) (v : Value) (bs : List Value) (s : ByteArray) (w w1 : World) (hcc : Calls P (ρ.f 240) #[.pointer (some ⟨b, 0, none⟩)] w fun e w' => e = .returned (.tuple #[]) ∧ w' = w1)
 (hbk : w1.heap[b]? = some (.cells #[.pointer (some ⟨b, 0, none⟩), v] (ρ.t 72) (0, 0))) (hown : w1.ownsRow 0 (ρ.t 5) 1 v n bs) (hne : v.ownBlock ≠ some b) (hlen : n + s.size ≤ 140737488355328) :
 Calls P (ρ.f 166) #[.pointer (some ⟨b, 0, none⟩), .string s] w fun e w' => e = .returned (.tuple #[.int .i64 s.size, .nilIface]) ∧ ∃ v' w2, w1.grownBy w2 v.ownBlock ∧ w2.ownsRow 0 (ρ.t 5) 1 v' (n + s.size) (bs ++ Lib.strCells s) ∧ (∀ g, v'.ownBlock = some g → v.ownBlock = some g ∨ w1.heap.size ≤ g) ∧ w' = w2.setCell ⟨b, 1, none⟩ v' := by
 obtain ⟨i0, hi, hz0, hz1, hz2⟩ := info_parts X.infoByte
 have mixed := L.mixed
 have t72 := L.t72; have a72 := L.a72; have z72 := L.z72; have v72 := L.v72; have u72 := run_underlying L.t72
 have t70 := L.t70; have a70 := L.a70; have z70 := L.z70; have v70 := L.v70; have u70 := run_underlying L.t70
 have t37 := L.t37; have a37 := L.a37; have z37 := L.z37; have v37 := L.v37; have u37 := run_underlying L.t37
 have t3 := L.t3; have a3 := L.a3; have z3 := L.z3; have v3 := L.v3; have u3 := run_underlying L.t3
 have t9 := L.t9; have a9 := L.a9; have z9 := L.z9; have v9 := L.v9; have u9 := run_underlying L.t9
 have t4 := L.t4; have a4 := L.a4; have z4 := L.z4; have v4 := L.v4; have u4 := run_underlying L.t4
 have t164 := L.t164; have a164 := L.a164; have z164 := L.z164; have v164 := L.v164; have u164 := run_underlying L.t164
 have t5 := X.t5; have a5 := X.a5; have z5 := X.z5; have v5 := X.v5; have u5 := run_underlying X.t5
 have e240 : ∀ args w, (callFunc (ρ.f 240) args).run P w = .ok (.enter (ρ.f 240) args) w := enters_of L.f240 (by kernel_rfl) rfl
 go_enter L.f166, Body.n166_ntmps ρ
 go_wp2_with (go_at_fn (ρ.f 240); refine hcc.mono ?_)
 rintro e w1 ⟨rfl, rfl⟩
 have c0 : w1.cell? ⟨b, 0, none⟩ = some (.pointer (some ⟨b, 0, none⟩)) := by rw [Lib.cell_of_heap hbk]; rfl
 have c1 : w1.cell? ⟨b, 1, none⟩ = some v := by rw [Lib.cell_of_heap hbk]; rfl
 go_wp2_with (at_builtin; refine wpList_append_exact _ rfl _ _ (ρ.t 37) (ρ.t 9) rfl (ρ.t 5) i0 L.t37 L.t9 hi hz0 hz1 hz2 _ _ _ rfl hown s rfl ?c4 ?_)
 case c4 => omega
 intro v' w2 hown' hgrow hblk
 have hlt : b < w1.heap.size := by
  rcases Nat.lt_or_ge b w1.heap.size with h' | h'
  · exact h'
  · simp [Array.getElem?_eq_none h'] at hbk
 have hb2 : w2.heap[b]? = some (.cells #[.pointer (some ⟨b, 0, none⟩), v] (ρ.t 72) (0, 0)) := by
  rw [hgrow.block b hlt (fun e => hne e.symm)]
  exact hbk
 have d0 : w2.cell? ⟨b, 0, none⟩ = some (.pointer (some ⟨b, 0, none⟩)) := by rw [Lib.cell_of_heap hb2]; rfl
 have d1 : w2.cell? ⟨b, 1, none⟩ = some v := by rw [Lib.cell_of_heap hb2]; rfl
 have f1 : w2.frozen? ⟨b, 1, none⟩ = false := Lib.frozen_of_heap hb2 1
 obtain ⟨ao, n', cap, rfl⟩ : ∃ ao n' cap, v' = .slice ao n' cap := by
  rcases hown'.2 with ⟨hv, _⟩ | ⟨g, cap, cur, hv, _⟩
  · exact ⟨_, _, _, hv⟩
  · exact ⟨_, _, _, hv⟩
 go_wp2
 go_ret2
 exact ⟨rfl, _, w2, hgrow, hown', hblk, rfl⟩
set_option maxHeartbeats 2000000 in
set_option maxRecDepth 100000 in
theorem str_exact (L : Lays.n169 P ρ) (X : Builder.Extra P ρ) (b g cap : Nat) (p : Value) (cur : Array Value) (fz : Nat × Nat) (l : List UInt8) (w : World) (h0 : l ≠ [])
 (hbk : w.heap[b]? = some (.cells #[p, .slice (some ⟨g, 0, none⟩) l.length cap] (ρ.t 72) (0, 0))) (hg : w.heap[g]? = some (.cells cur (ρ.t 5) fz)) (hnc : l.length ≤ cap) (hcm : cap ≤ maxLen) (hcs : l.length ≤ cur.size)
 (hcur : ∀ (j : Nat) (x : UInt8), l[j]? = some x → cur[j]? = some (Value.int .u8 x.toNat)) :
 Calls P (ρ.f 169) #[.pointer (some ⟨b, 0, none⟩)] w fun e w' => e = .returned (.string ⟨l.toArray⟩) ∧ w' = w.drew.freeze ⟨g, 0, none⟩ l.length := by
 have hl0 : l.length ≠ 0 := by simpa using h0
 have c1 : w.drew.cell? ⟨b, 1, none⟩ = some (.slice (some ⟨g, 0, none⟩) l.length cap) := by
  have : w.drew.heap[b]? = some (.cells #[p, .slice (some ⟨g, 0, none⟩) l.length cap] (ρ.t 72) (0, 0)) := hbk
  rw [Lib.cell_of_heap this]; rfl
 have hSD : (Builtin.unsafeSliceData_ #[(ρ.t 37)] (ρ.t 127) #[.slice (some ⟨g, 0, none⟩) l.length cap]).run P w.drew = .ok (.pointer (some ⟨g, 0, none⟩)) w.drew :=
  Lib.run_unsafeSliceData_row _ _ _ _ _ _ (by omega)
 have hg' : w.drew.heap[g]? = some (.cells cur (ρ.t 5) fz) := hg
 have hUS : (Builtin.unsafeString_ #[(ρ.t 127), (ρ.t 3)] (ρ.t 9) #[.pointer (some ⟨g, 0, none⟩), .int .i64 l.length]).run P w.drew = .ok (.string ⟨l.toArray⟩) (w.drew.freeze ⟨g, 0, none⟩ l.length) := by
  refine Lib.run_unsafeString_row w.drew (ρ.t 127) (ρ.t 3) (ρ.t 9) (ρ.t 5) L.t127 X.cellsByte g cur.size (by simp [World.shape?, hg']) l h0 hcs (by unfold maxLen at hcm; omega) ?_
  intro j x hx
  have e1 : (⟨g, 0, none⟩ : Addr).add j = ⟨g, j, none⟩ := by rw [Addr.add_lit, Nat.zero_add]
  rw [e1]
  simp only [World.cell?, hg']
  exact hcur j x hx
 have mixed := L.mixed
 have t72 := L.t72; have a72 := L.a72; have z72 := L.z72; have v72 := L.v72; have u72 := run_underlying L.t72
 have t70 := L.t70; have a70 := L.a70; have z70 := L.z70; have v70 := L.v70; have u70 := run_underlying L.t70
 have t37 := L.t37; have a37 := L.a37; have z37 := L.z37; have v37 := L.v37; have u37 := run_underlying L.t37
 have t127 := L.t127; have a127 := L.a127; have z127 := L.z127; have v127 := L.v127; have u127 := run_underlying L.t127
 have t3 := L.t3; have a3 := L.a3; have z3 := L.z3; have v3 := L.v3; have u3 := run_underlying L.t3
 have t9 := L.t9; have a9 := L.a9; have z9 := L.z9; have v9 := L.v9; have u9 := run_underlying L.t9
 have t5 := X.t5; have a5 := X.a5; have z5 := X.z5; have v5 := X.v5; have u5 := run_underlying X.t5
 go_enter L.f169, Body.n169_ntmps ρ
 go_wp2
 go_region_o
 all_goals (go_wp2; go_ret; exact ⟨rfl, rfl⟩)
end Go.Proofs
namespace Go.Proofs.YtpfidgnkokidoaaGreatDoor
open Go Go.Ev Go.RowKit
set_option maxRecDepth 100000
def ints (s:Str):List Int:=s.map fun c=>(c.toNat:Int)
def gS (l:List Int):Str:=l.map fun n=>UInt8.ofNat n.toNat
theorem ti (a b:Str):ints (a++b)=ints a++ints b:=cn
theorem jQ (a:Str):(ints a).length=a.length:=bD _
theorem lO (s:Str):gS (ints s)=s:=by
 unfold gS ints
 rw [eZ]
 have:((fun n:Int=>UInt8.ofNat n.toNat)∘fun c:UInt8=>(c.toNat:Int))=id:=by
  funext c; simp
 rw [this,List.map_id]
theorem Dg {s:Str} (h:s≠[]):ints s≠[]:=by unfold ints; simpa using h
theorem xQ {H:Mem}:∀ {l:List Int} {xs:List Value},All2 (PR H) (l.flatMap ETy.byte.enc) xs→xs=l.map fun n=>Value.int .u8 n
 | [],xs,h=>by cases h; rfl
 | n :: r,xs,h=>by
   cases h with
   | cons h1 h2 =>
     have h1':PR H (.int .u8 n) _:=h1
     cases h1'
     rw [ay,xQ h2]
theorem xB {H:Mem}:∀ s:Str,All2 (PR H) ((ints s).flatMap ETy.byte.enc) (Lib.strCells (bs s))
 | []=>.nil
 | c::r=>.cons (.int .u8 c.toNat) (xB r)
theorem I3 {Γ:Ctx} {ck:List Chunk} {V:Vn} {w:World} (r:WOk Γ ck V w) {g:Nat} {o:Obj} (ho:w.heap[g]?=some o) (hn:V.H g=none) (hw:Γ.w0.heap.size≤g∨Γ.M g) (hno:∀ (i:Nat) (c:Chunk),ck[i]?=some c→c.blk V i≠some g) :
 HLe V.H (fun k=>if k=g then some o else V.H k)∧WOk Γ ck ⟨fun k=>if k=g then some o else V.H k,V.σ,V.ov⟩ w:=by
 have hle:HLe V.H (fun k=>if k=g then some o else V.H k):=by
  intro k x hk
  have:k≠g:=fun he=>by subst he; rw [hn] at hk; cases hk
  simp [this,hk]
 have hblk:∀ (j:Nat) (d:Chunk),d.blk ⟨fun k=>if k=g then some o else V.H k,V.σ,V.ov⟩ j=d.blk V j:=by intro j d; cases d <;> rfl
 refine ⟨hle,{ ext:=r.ext,imm:=?_,hle:=r.hle.trans hle,frz:=?_,agr:=r.agr,own:=?_,base:=?_,inj:=?_ }⟩
 · intro k x hk
   by_cases he:k=g
   · subst he; simp at hk; subst hk; exact ho
   · simp [he] at hk; exact r.imm k x hk
 · intro k hk
   by_cases he:k=g
   · subst he; exact .inr hw
   · simp [he] at hk; exact r.frz k hk
 · intro j d hd
   have h:=r.own j d hd
   have hag:∀ n,Agree n V ⟨fun k=>if k=g then some o else V.H k,V.σ,V.ov⟩:=fun n=>⟨hle,fun _ _=>⟨rfl,rfl⟩⟩
   cases d with
   | dead=>trivial
   | cells cs e =>
     obtain ⟨us,h1,h2⟩:=h
     refine ⟨us,h1,h2.mono fun s u _ hs=>?_⟩
     cases s with
     | pd p=>exact PR.mono hle hs
     | loc i o=>exact hs
     | own i=>exact hs
     | oat i j sz o=>exact hs
     | fn f x y =>
       obtain ⟨ua,ub,q1,q2,q3⟩:=hs
       refine ⟨ua,ub,q1,q2.mono fun a b _ hab=>?_,q3.mono fun a b _ hab=>?_⟩ <;> cases a <;> first | exact PR.mono hle hab | exact hab
   | own e t l =>
     obtain ⟨xs,h1,h2,h3⟩:=h
     exact ⟨xs,h1,h2.mono fun _ _ _ hp=>hp.mono hle,h3⟩
 · intro j d b hd hb'
   rw [hblk] at hb'
   have h:=r.base j d b hd hb'
   refine ⟨h.1,?_⟩
   have:b≠g:=fun he=>hno j d hd (by rw [← he]; exact hb')
   simp [this,h.2]
 · intro j k d d' b hd hd' hb1 hb2
   rw [hblk] at hb1 hb2
   exact r.inj j k d d' b hd hd' hb1 hb2
theorem Jg {w:World} {b:Nat} {p v:Value} {T:TypeId} (hb:w.heap[b]?=some (.cells #[p,v] T (0,0))) (q:Value):(w.setCell ⟨b,0,none⟩ q).heap[b]?=some (.cells #[q,v] T (0,0)):=by
 simp [World.setCell,Array.getElem?_modify,hb]
theorem LD {w:World} {b:Nat} {p v:Value} {T:TypeId} (hb:w.heap[b]?=some (.cells #[p,v] T (0,0))) (q:Value):(w.setCell ⟨b,1,none⟩ q).heap[b]?=some (.cells #[p,q] T (0,0)):=by
 simp [World.setCell,Array.getElem?_modify,hb]
section
variable {Γ:Ctx} {V:Vn} {w:World}
theorem Dr {p:SC} {c1:Chunk} {l:List Int} {s:Str} {v v':Value} {xs:List Value} {w2:World} (hw:WOk Γ [.cells [.loc 0 0,p] 73,c1] V w) (hm:Γ.m≤2) (hwf:iT [.cells [.loc 0 0,p] 73,c1]=true)
 (hrow:∀ b,v.ownBlock=some b→c1.blk V 1=some b) (hb:w.heap[V.σ 0]?=some (.cells #[.pointer (some ⟨V.σ 0,0,none⟩),v] 73 (0,0)))
 (hx:All2 (PR V.H) (l.flatMap ETy.byte.enc) xs) (hg:w.grownBy w2 v.ownBlock) (ho:w2.ownsRow 0 5 1 v' (l.length+s.length) (xs++Lib.strCells (bs s))) (hblk:∀ g,v'.ownBlock=some g→v.ownBlock=some g∨w.heap.size≤g) :
 ∃ V2:Vn,WOk Γ [.cells [.loc 0 0,.own 2] 73,.dead,.own 5 .byte (l++ints s)] V2 (w2.setCell ⟨V.σ 0,1,none⟩ v'):=by
 have hlt:V.σ 0<w.heap.size:=by
  rcases Nat.lt_or_ge (V.σ 0) w.heap.size with h' | h'
  · exact h'
  · simp [Array.getElem?_eq_none h'] at hb
 obtain ⟨V2,hag,hH,e1,e2,hw2⟩:=hw.regrow hwf hm (some 1) (c:=.own 5 .byte (l++ints s)) (v':=v') (s':=match v'.ownBlock with | some b=>b | none=>0) (w':=w2) (row:=v.ownBlock) (fun b hb=>⟨1,c1,rfl,rfl,hrow b hb⟩) hg (fun V' hag hH f1 f2=>by
  have f3:V'.ov 2=v':=f2
  refine ⟨⟨xs++Lib.strCells (bs s),?_,?_,fun b hb=>?_⟩,fun b hb=>?_⟩
  · show w2.ownsRow 0 _ 1 (V'.ov 2) _ _
    rw [f3,ag,jQ]; exact ho
  · rw [ch]
    exact (hx.mono fun _ _ _ h=>h.mono hag.hle).append (xB s)
  · show V'.σ 2=b
    have hb':(V'.ov 2).ownBlock=some b:=hb
    rw [f3] at hb'
    have f1':V'.σ 2=_:=f1
    rw [f1',hb']
  · have hb':(V'.ov 2).ownBlock=some b:=hb
    rw [f3] at hb'
    exact hblk b hb')
 have hw3:WOk Γ [.cells [.loc 0 0,p] 73,.dead,.own 5 .byte (l++ints s)] V2 w2:=hw2
 have s0:V2.σ 0=V.σ 0:=(hag.same 0 (by show 0<2; omega)).1
 have hrn:∀ b,v.ownBlock=some b→b≠V.σ 0:=fun b hvb he=>by
  have h1:=hrow b hvb
  have:=hw.inj 0 1 _ _ (V.σ 0) rfl rfl rfl (by rw [h1,he])
  cases this
 have hb2:w2.heap[V.σ 0]?=some (.cells #[.pointer (some ⟨V.σ 0,0,none⟩),v] 73 (0,0)):=by
  rw [hg.block _ hlt (fun e=>hrn _ e.symm rfl)]; exact hb
 have e3:V2.ov 2=v':=e2
 refine ⟨V2,hw3.rewrite (i:=0) rfl (.cells [.loc 0 0,.own 2] 73) ⟨rfl,rfl,rfl,by simp [World.setCell]⟩ (fun b hbb=>?_) rfl ⟨[.pointer (some ⟨V.σ 0,0,none⟩),v'],?_,?_⟩⟩
 · refine Below.heap_setCell _ _ _ _ fun e=>?_
   have h1:some (V2.σ 0)≠some b:=hbb
   rw [s0] at h1
   exact h1 (by rw [e])
 · rw [s0]; exact LD hb2 v'
 · refine .cons ?_ (.cons ?_ .nil)
   · show _=Value.pointer (some ⟨V2.σ 0,0,none⟩); rw [s0]
   · show v'=V2.ov 2; rw [e3]
end
theorem CH {V:Vn} {s:Str} {vs:List Value} (hv:All2 (SX.R V) [.c (.loc 0 0),.s s] vs):vs=[.pointer (some ⟨V.σ 0,0,none⟩),.string (bs s)]:=by
 cases hv with
 | cons a1 hv=>cases hv with
   | cons a2 hv =>
     cases hv
     have a1':_=Value.pointer (some ⟨V.σ 0,0,none⟩):=a1
     have a2':PR V.H (.str s) _:=a2
     cases a2'; rw [a1']
theorem nq {V:Vn} {p q:SC} {us:List Value} (hu:All2 (SC.R V) [p,q] us):∃ a b,us=[a,b]∧p.R V a∧q.R V b:=by
 cases hu with
 | cons a1 hu=>cases hu with
   | cons a2 hu=>cases hu; exact ⟨_,_,rfl,a1,a2⟩
theorem Ht {V:Vn} (s:Str):SV.R V (.tup [.i s.length,.p (.v .nilIface)]) (.tuple #[.int .i64 (bs s).size,.nilIface]):=by
 rw [eP]; exact ⟨_,rfl,.cons (PR.int _ _) (.cons (PR.v _ rfl) .nil)⟩
theorem Mx (s:Str) (l:List Int) (hl:l.length+s.length≤140737488355328):ak Tryz.prog 26 [.c (.loc 0 0),.s s] [.cells [.loc 0 0,.own 1] 73,.own 5 .byte l] (.tup [.i s.length,.p (.v .nilIface)]) [.cells [.loc 0 0,.own 2] 73,.dead,.own 5 .byte (l++ints s)]:=by
 intro w V vs hw hT hv
 rw [CH hv]
 obtain ⟨us,hb,hu⟩:=hw.own 0 _ rfl
 obtain ⟨a,b,rfl,ha,hbv⟩:=nq hu
 have ha':a = .pointer (some ⟨V.σ 0,0,none⟩):=ha
 have hb':b=V.ov 1:=hbv
 subst ha'; subst hb'
 obtain ⟨xs,ho,hx,hs1⟩:=hw.own 1 _ rfl
 have hrow:∀ b,(V.ov 1).ownBlock=some b→Chunk.blk V 1 (.own 5 .byte l)=some b:=fun b h=>h
 have hne:(V.ov 1).ownBlock≠some (V.σ 0):=fun e=>by have:=hw.inj 0 1 _ _ (V.σ 0) rfl rfl rfl e; cases this
 refine (ws_exact (ρ:=Tryz.lays156_ren) { Tryz.lays156 with } Tryz.Builder_Extra_156 (V.σ 0) l.length (V.ov 1) xs (bs s) w w (Any.Builder_copyCheck_used { Tryz.lays156 with } Tryz.Builder_Extra_156.toX72 (V.σ 0) w ?_) hb ho hne (by rw [eP]; exact hl)).mono fun e w' ⟨he,v',w2,hg,ho2,hblk,hw'⟩=>?_
 · rw [Lib.cell_of_heap hb]; rfl
 subst he; subst hw'
 rw [eP] at ho2
 obtain ⟨V2,h2⟩:=Dr (s:=s) hw (aw 2) rfl hrow hb hx hg ho2 hblk
 exact ⟨_,V2,rfl,Ht s,h2⟩
theorem NH (s:Str) (hl:s.length≤140737488355328):ak Tryz.prog 26 [.c (.loc 0 0),.s s] [.cells [.pd (.v (.pointer none)),.pd (.v (.slice none 0 0))] 73] (.tup [.i s.length,.p (.v .nilIface)]) [.cells [.loc 0 0,.own 2] 73,.dead,.own 5 .byte (ints s)]:=by
 intro w V vs hw hT hv
 rw [CH hv]
 obtain ⟨us,hb,hu⟩:=hw.own 0 _ rfl
 obtain ⟨a,b,rfl,ha,hbv⟩:=nq hu
 have ha':PR V.H (.v (.pointer none)) a:=ha
 have hb':PR V.H (.v (.slice none 0 0)) b:=hbv
 cases ha'; cases hb'
 have hb1:=Jg hb (.pointer (some ⟨V.σ 0,0,none⟩))
 have hsh:w.shape? (V.σ 0)=some (73,2):=by simp [World.shape?,hb]
 refine (ws_exact (ρ:=Tryz.lays156_ren) { Tryz.lays156 with } Tryz.Builder_Extra_156 (V.σ 0) 0 (.slice none 0 0) [] (bs s) w _ (Any.Builder_copyCheck_fresh { Tryz.lays156 with } Tryz.Builder_Extra_156.toX72 (V.σ 0) w ?_ hsh ?_) hb1 (World.ownsRow_nil _ 0 _ 1) (by simp [Value.ownBlock]) (by rw [eP]; omega)).mono fun e w' ⟨he,v',w2,hg,ho2,hblk,hw'⟩=>?_
 · rw [Lib.cell_of_heap hb]; rfl
 · exact Lib.frozen_of_heap hb 0
 subst he; subst hw'
 rw [eP] at ho2
 have hw1:WOk (Go.Ev.entry [.cells [.pd (.v (.pointer none)),.pd (.v (.slice none 0 0))] 73] V w) [.cells [.loc 0 0,.pd (.v (.slice none 0 0))] 73] V (w.setCell ⟨V.σ 0,0,none⟩ (.pointer (some ⟨V.σ 0,0,none⟩))) :=
  hw.rewrite (i:=0) rfl (.cells [.loc 0 0,.pd (.v (.slice none 0 0))] 73) ⟨rfl,rfl,rfl,by simp [World.setCell]⟩ (fun b hbb=>Below.heap_setCell _ _ _ _ fun e=>by
   have h1:some (V.σ 0)≠some b:=hbb
   exact h1 (by rw [e])) rfl ⟨_,hb1,.cons rfl (.cons (PR.v _ rfl) .nil)⟩
 have hw1b:WOk (Go.Ev.entry [.cells [.pd (.v (.pointer none)),.pd (.v (.slice none 0 0))] 73] V w) [.cells [.loc 0 0,.pd (.v (.slice none 0 0))] 73,.dead] V (w.setCell ⟨V.σ 0,0,none⟩ (.pointer (some ⟨V.σ 0,0,none⟩))) :=
  hw1.sub (fun x c hc=>by
   match x with
   | 0=>exact .inr hc
   | 1=>simp at hc; exact .inl hc.symm
   | x+2=>simp at hc)
 obtain ⟨V2,h2⟩:=Dr (s:=s) (l:=[]) (xs:=[]) hw1b (by show 1≤2; omega) rfl (fun b h=>by simp [Value.ownBlock] at h) hb1 .nil hg (by have ho3:w2.ownsRow 0 5 1 v' (0+s.length) ([]++Lib.strCells (bs s)):=ho2; exact ho3) hblk
 exact ⟨_,V2,rfl,Ht s,h2⟩
def Bw:Ent:=(26,fun
 | [.c (.loc 0 0),.c (.pd (.str s))],[.cells [.loc 0 0,.own 1] 73,.own 5 .byte l]=>some (some (l.length+s.length≤140737488355328),.tup [.c (.pd (.int .i64 s.length)),.c (.pd (.v .nilIface))],[.cells [.loc 0 0,.own 2] 73,.dead,.own 5 .byte (l++ints s)])
 | _,_=>none)
theorem C6:EntOk Tryz.prog Bw:=entOk fun vs ck=>by
 unfold Bw; dsimp only; split
 · rename_i s l; exact entS fun hp=>Mx s l hp
 · exact entN
def Az:Ent:=(26,fun
 | [.c (.loc 0 0),.c (.pd (.str s))],[.cells [.pd (.v (.pointer none)),.pd (.v (.slice none 0 0))] 73]=>some (some (s.length≤140737488355328),.tup [.c (.pd (.int .i64 s.length)),.c (.pd (.v .nilIface))],[.cells [.loc 0 0,.own 2] 73,.dead,.own 5 .byte (ints s)])
 | _,_=>none)
theorem CJ:EntOk Tryz.prog Az:=entOk fun vs ck=>by
 unfold Az; dsimp only; split
 · rename_i s; exact entS fun hp=>NH s hp
 · exact entN
end Go.Proofs.YtpfidgnkokidoaaGreatDoor
