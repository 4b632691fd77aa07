/- The library's contracts of the shelf, laid at this dump by the kit's tools. Conditions: each one's own. Contracts: slices.Sort on whole numbers. Conditions: sizes. Contracts: none; plain: places sorted, transitions of a place (layer 11). Conditions: none. An executor for function bodies of the model over data, part VI: a slice made, of elements of one cell. Conditions: its size. An executor for function bodies of the model over data, part VK: a range over a function, whose rounds turn blocks of the call's own. Conditions: the rule's own. -/
import Derived.Shelf.Lay
import Derived.Shelf.LaySoft
import Derived.Shelf.Strings.Trim
import Derived.Shelf.Small.Utf8
import Derived.Shelf.Small.Bits
import Derived.Shelf.Small.Strs
import Derived.Shelf.Utf8.RuneCount
import Derived.Shelf.Strconv.Itoa0
import Derived.Shelf.Strconv.Itoa1
import Derived.Shelf.LaysM
import Derived.Shelf.Strconv.Itoa2
import Derived.Shelf.Strconv.Itoa3
import Derived.Shelf.Strconv.Itoa4
import Derived.Shelf.Strconv.ParseIntEmpty
import Derived.Shelf.Strconv.Clone
import Derived.Shelf.Strconv.SyntaxError
import Derived.Shelf.LaysC
import Derived.Shelf.Strconv.ToError
import Derived.Shelf.Strconv.Lower
import Derived.Shelf.Strconv.ParseUint10
import Derived.Shelf.Strconv.ParseUint10Empty
import Derived.Shelf.Strconv.ParseUint10Any
import Derived.Shelf.Strconv.ParseInt10
import Derived.Shelf.Strconv.RangeError
import Derived.Shelf.Strconv.ToErrorRange
import Derived.Shelf.Strconv.ParseUintEmpty
import Derived.Shelf.Strconv.ParseUint10b64
import Derived.Shelf.Strconv.ParseUint10b32
import Derived.Shelf.Strconv.ParseUint10b16
import Derived.Shelf.Strconv.ParseUint10b8
import Derived.Shelf.Strconv.ParseUint10At
import Derived.Shelf.Strconv.ParseInt10At64
import Derived.Shelf.Strconv.ParseInt10At32
import Derived.Shelf.Strconv.ParseInt10At16
import Derived.Shelf.Strconv.ParseInt10At8
import Derived.Shelf.Strconv.ParseInt10All
import Derived.Shelf.Strconv.ParseIntPublic10
import Derived.Shelf.Strconv.ErrVarParseInt
import Derived.Shelf.Strings.Search1
import Derived.Shelf.Strings.Search2
import Derived.Shelf.Strings.Search3
import Derived.Shelf.Strings.Cut
import Derived.Shelf.Strings.Count
import Derived.Shelf.Strings.Shaped
import Derived.Shelf.Sort.Plain
import Derived.Shelf.Strings.Prefix
import Derived.Shelf.Strings.Split
import Derived.Shelf.Strings.SplitShaped
import Derived.Shelf.Unicode.Decode
import Derived.Shelf.Strings.Runes
import Derived.Shelf.Strings.RuneCount
import Derived.Shelf.Strings.IndexAny
import Derived.Shelf.Strings.AsciiSet
import Derived.Shelf.Strings.Explode
import Derived.Shelf.Bits.Mul64
import Derived.Shelf.Unicode.DecodeSlow
import Derived.Shelf.Unicode.DecodeAny
import Derived.Shelf.Unicode.DecodeLast
import Derived.Shelf.Slices.Clone
import Derived.Shelf.Slices.CompactS
import Derived.Shelf.Slices.SearchI
import Derived.Shelf.Slices.Cells
import Derived.Shelf.Slices.In.SortNone
import Derived.Shelf.SlicesE.Clone
import Derived.Test.YtlhgnjmdopjpeaaGreatDoorProg
import Derived.Test.YtlhgnjmdopjpeaaGreatDoorTj
import Derived.Test.YtlhgnjmdopjpeaaGreatDoorAb
import Derived.Test.YtlhgnjmdopjpeaaGreatDoorKb
import Derived.Laws.OwnMore
import Derived.Test.YtlhgnjmdopjpeaaGreatDoorVg
import Derived.Test.YtlhgnjmdopjpeaaGreatDoorVb
namespace Go.Proofs
open Go.Shelf
def Tryz.lays189_ren:Go.Shelf.Ren:=⟨fun |189=>61 |125=>104 |257=>103 |128=>171 |129=>172 |294=>162 |295=>163 |296=>164 |297=>165 |298=>166 |299=>167 |216=>168 |300=>169 |301=>170 |328=>217 |329=>218 |330=>219 |331=>220 |332=>221 |215=>222 |343=>260 |n=>n,fun |28=>34 |3=>3 |46=>120 |0=>0 |51=>183 |53=>185 |4=>4 |183=>175 |182=>174 |131=>180 |5=>5 |9=>9 |218=>229 |222=>233 |228=>261 |229=>113 |n=>n,fun |n=>n⟩
theorem Tryz.lays189:Go.Proofs.Lays.n189 Tryz.prog Tryz.lays189_ren:={
 mixed:=by kernel_rfl
 f125:=Tryz.func104.trans (congrArg some (by kernel_rfl))
 f128:=Tryz.func171.trans (congrArg some (by kernel_rfl))
 f129:=Tryz.func172.trans (congrArg some (by kernel_rfl))
 f189:=Tryz.func61.trans (congrArg some (by kernel_rfl))
 f215:=Tryz.func222.trans (congrArg some (by kernel_rfl))
 f216:=Tryz.func168.trans (congrArg some (by kernel_rfl))
 f257:=Tryz.func103.trans (congrArg some (by kernel_rfl))
 f294:=Tryz.func162.trans (congrArg some (by kernel_rfl))
 f295:=Tryz.func163.trans (congrArg some (by kernel_rfl))
 f296:=Tryz.func164.trans (congrArg some (by kernel_rfl))
 f297:=Tryz.func165.trans (congrArg some (by kernel_rfl))
 f298:=Tryz.func166.trans (congrArg some (by kernel_rfl))
 f299:=Tryz.func167.trans (congrArg some (by kernel_rfl))
 f300:=Tryz.func169.trans (congrArg some (by kernel_rfl))
 f301:=Tryz.func170.trans (congrArg some (by kernel_rfl))
 f328:=Tryz.func217.trans (congrArg some (by kernel_rfl))
 f329:=Tryz.func218.trans (congrArg some (by kernel_rfl))
 f330:=Tryz.func219.trans (congrArg some (by kernel_rfl))
 f331:=Tryz.func220.trans (congrArg some (by kernel_rfl))
 f332:=Tryz.func221.trans (congrArg some (by kernel_rfl))
 f343:=Tryz.func260.trans (congrArg some (by kernel_rfl))
 t0:=Tryz.underlying0
 a0:=Tryz.isAgg0
 z0:=Tryz.sizeOf0
 v0:=Tryz.zeroValue0
 t3:=Tryz.underlying3
 a3:=Tryz.isAgg3
 z3:=Tryz.sizeOf3
 v3:=Tryz.zeroValue3
 t4:=Tryz.underlying4
 a4:=Tryz.isAgg4
 z4:=Tryz.sizeOf4
 v4:=Tryz.zeroValue4
 t5:=Tryz.underlying5
 a5:=Tryz.isAgg5
 z5:=Tryz.sizeOf5
 v5:=Tryz.zeroValue5
 t9:=Tryz.underlying9
 a9:=Tryz.isAgg9
 z9:=Tryz.sizeOf9
 v9:=Tryz.zeroValue9
 t28:=Tryz.underlying34
 a28:=Tryz.isAgg34
 z28:=Tryz.sizeOf34
 v28:=Tryz.zeroValue34
 t46:=Tryz.underlying120
 a46:=Tryz.isAgg120
 z46:=Tryz.sizeOf120
 v46:=Tryz.zeroValue120
 t51:=Tryz.underlying183
 a51:=Tryz.isAgg183
 z51:=Tryz.sizeOf183
 v51:=Tryz.zeroValue183
 t53:=Tryz.underlying185
 a53:=Tryz.isAgg185
 z53:=Tryz.sizeOf185
 v53:=Tryz.zeroValue185
 t131:=Tryz.underlying180
 a131:=Tryz.isAgg180
 z131:=Tryz.sizeOf180
 v131:=Tryz.zeroValue180
 t182:=Tryz.underlying174
 a182:=Tryz.isAgg174
 z182:=Tryz.sizeOf174
 v182:=Tryz.zeroValue174
 t183:=Tryz.underlying175
 a183:=Tryz.isAgg175
 z183:=Tryz.sizeOf175
 v183:=Tryz.zeroValue175
 t218:=Tryz.underlying229
 a218:=Tryz.isAgg229
 z218:=Tryz.sizeOf229
 v218:=Tryz.zeroValue229
 t222:=Tryz.underlying233
 a222:=Tryz.isAgg233
 z222:=Tryz.sizeOf233
 v222:=Tryz.zeroValue233
 t228:=Tryz.underlying261
 a228:=Tryz.isAgg261
 z228:=Tryz.sizeOf261
 v228:=Tryz.zeroValue261
 t229:=Tryz.underlying113
 a229:=Tryz.isAgg113
 z229:=Tryz.sizeOf113
 v229:=Tryz.zeroValue113}
open Go.Sort Go.RowKit in
theorem Tryz.slices_Sort_int(blk off cap:Nat)(zs:List Int)(w:World)(hH:Holds (Value.int .i64) w blk off zs.toArray)(hblk:blk<w.heap.size)(hsz:zs.length<4611686018427387904) :
 Calls Tryz.prog 61 #[.slice (some ⟨blk,off,none⟩) zs.length cap] w fun e w' =>
  e = .returned (.tuple #[])∧∃n os,w'=grow (putRow (Value.int .i64) (Sort.ahead w n) blk off (zs.mergeSort fun x y=>decide (x≤y)).toArray) os:=Any.slices_Sort_int Tryz.lays189 blk off cap zs w hH hblk hsz
open Go.RowKit Go.Sort in
theorem Tryz.slices_Sort_int_none(p:Option Addr)(cap:Nat)(w:World) :
 Calls Tryz.prog 61 #[.slice p 0 cap] w fun e w'=>e = .returned (.tuple #[])∧w'=w:=Any.slices_Sort_int_none Tryz.lays189 p cap w
end Go.Proofs
namespace Go.Proofs.YtlhgnjmdopjpeaaGreatDoor
open Go Go.Ev
set_option maxRecDepth 100000
variable(l:List Int)
theorem yz:l.flatMap (ETy.enc .int)=l.map (PD.int .i64):=by
 induction l with
 |nil=>rfl
 |cons a l ih=>rw[bF,aq,ih];rfl
theorem Q2(H:Mem)(l:List Int):All2 (PR H) (l.map (PD.int .i64)) (l.map (Value.int .i64)):=by
 induction l with
 |nil=>exact .nil
 |cons a l ih=>exact .cons (PR.int .i64 a) ih
theorem CQ{H:Mem}:∀{l:List Int} {xs:List Value},All2 (PR H) (l.map (PD.int .i64)) xs→xs=l.map (Value.int .i64)
 |[],_,h=>by cases h;rfl
 | a :: l,_,h=>by
   cases h with
   | cons a1 h =>
     rw[CQ h,aq]
     cases a1;rfl
theorem J8(d:List Int)(cur:Array Value)(h:d.length≤cur.size):(Sort.putCells (Value.int .i64) 0 d.toArray cur).toList.take d.length=d.map (Value.int .i64):=by
 refine List.ext_getElem? fun k=>?_
 rw[List.getElem?_take,List.getElem?_map]
 by_cases hk:k<d.length
 · rw[if_pos hk]
   simp only[Sort.putCells,Array.toList_mapIdx,List.getElem?_mapIdx,Array.getElem?_toList]
   rw[Array.getElem?_eq_getElem (by omega),bu,if_pos ⟨aS _,by simpa using hk⟩,List.getElem?_eq_getElem hk]
   simp[hk]
 ·rw[if_neg hk,List.getElem?_eq_none (by omega)];rfl
def dC:List Int:=l.mergeSort fun x y=>decide (x≤y)
theorem MZ{V:Vn}{vs:List Value}{i:Nat}(hv:All2 (SX.R V) [.c (.own i)] vs):vs=[V.ov i]:=by
 cases hv with
 | cons a1 hv =>
   cases hv
   have h:_=V.ov i:=a1
   rw[h]
theorem Om{Γ:Ctx}{T:TypeId}{l:List Int}{V:Vn}{w:World}(r:WOk Γ [.own T .int l] V w){g n cap:Nat}{cur:Array Value}(ho:V.ov 0 = .slice (some ⟨g,0,none⟩) n cap)
 (hg:w.heap[g]?=some (.cells cur T (0,0))) (hn:n≤cap) (hm:cap≤maxLen) (hc:cur.size=cap * 1) (hs:V.σ 0=g) (d l':List Int) (hd:d.length=n) (hl:d=l') (hln:l.length=n) (q:Nat) :
 WOk Γ [.own T .int l'] V (Sort.putRow (Value.int .i64) (Sort.ahead w q) g 0 d.toArray):=by
 subst hl
 have hblk:(Chunk.own T .int l).blk V 0=some g:=by show(V.ov 0).ownBlock=_;rw[ho];rfl
 refine WOk.rewrite r (i:=0) (c:=.own T .int l) rfl (.own T .int d) ⟨rfl,rfl,rfl,by simp[Sort.putRow,Sort.mapBlock,Sort.ahead]⟩ (fun b hb=>?_) rfl ?_
 · rw[hblk]at hb
   have:g≠b:=fun e=>hb (by rw[e])
   simp[Sort.putRow,Sort.mapBlock,Sort.ahead,Array.getElem?_modify,this]
 · refine⟨d.map (Value.int .i64),⟨by simp[ETy.size],.inr ⟨g,cap,Sort.putCells (Value.int .i64) 0 d.toArray cur,by rw[ho,hd],aS _,?_,by omega,hm,?_,?_⟩⟩,?_,fun b hb=>?_⟩
   ·simp[Sort.putRow,Sort.mapBlock,Sort.ahead,Array.getElem?_modify,hg,Sort.onCells]
   ·simp[Sort.putCells,hc,ETy.size]
   · have:=J8 d cur (by omega)
     simpa[ETy.size]using this
   ·rw[yz];exact Q2 _ _
   · rw[ho]at hb
     rw[hs];simpa[Value.ownBlock]using hb
theorem M4{T:TypeId}{l:List Int}{V:Vn}{w:World}(h:(Chunk.own T .int l).holds V w 0):(V.ov 0 = .slice none 0 0∧l=[]) ∨
 ∃g cap cur,V.ov 0 = .slice (some ⟨g,0,none⟩) l.length cap∧w.heap[g]?=some (.cells cur T (0,0))∧l.length≤cap∧cap≤maxLen∧cur.size=cap * 1∧V.σ 0=g∧Sort.Holds (Value.int .i64) w g 0 l.toArray:=by
 obtain⟨xs,⟨h1,h2⟩,h3,h4⟩:=h
 rw[yz]at h3
 have hx:=CQ h3
 rcases h2 with⟨e,e0⟩ |⟨g,cap,cur,e,_,hg,hn,hm,hc,ht⟩
 ·exact .inl ⟨e,fV.1 e0⟩
 · refine .inr ⟨g,cap,cur,e,hg,hn,hm,hc,h4 g (by rw[e];rfl),fun j hj=>?_⟩
   have hj':j<l.length:=by simpa using hj
   have hsz:(ETy.size .int)=1:=rfl
   have hk:cur.toList[j]?=some ((Value.int .i64) l[j]):=by
    have:(cur.toList.take (l.length * ETy.size .int))[j]?=(l.map (Value.int .i64))[j]?:=by rw[ht,hx]
    rw[List.getElem?_take,if_pos (by rw[hsz];omega),List.getElem?_map,List.getElem?_eq_getElem hj']at this
    exact this
   refine⟨?_,?_⟩
   · simp only[World.cell?,hg,ba]
     rw[←Array.getElem?_toList,hk]
     simp[hj']
   ·simp[World.frozen?,hg]
theorem DV(h:l.length≤1000000):ah Tryz.prog 61 [.c (.own 0)] [.own 3 .int l] (.tup []) [.own 3 .int (dC l)]:=by
 intro w V vs hw hT hv
 rw[MZ hv]
 have hh:=hw.own 0 _ rfl
 rcases M4 hh with⟨e,e0⟩ |⟨g,cap,cur,e,hg,hn,hm,hc,hs,hH⟩
 · rw[e]
   refine(Tryz.slices_Sort_int_none none 0 w).mono fun e w' ⟨he,hw'⟩=>?_
   subst he;subst hw'
   subst e0
   exact⟨_,V,rfl,⟨[],rfl,.nil⟩,by rw[show dC []=[]from List.mergeSort_nil];exact hw⟩
 · rw[e]
   have hb:=(Array.getElem?_eq_some_iff.1 hg).1
   refine(Tryz.slices_Sort_int g 0 cap l w hH hb (by omega)).mono fun e1 w' ⟨he,q,os,hw'⟩=>?_
   rw[show(l.mergeSort fun x y=>decide (x≤y))=dC l from rfl]at hw'
   subst he;subst hw'
   refine⟨_,V,rfl,⟨[],rfl,.nil⟩,?_⟩
   have h1:=Om hw e hg hn hm hc hs (dC l) (dC l) (List.length_mergeSort l) rfl rfl q
   refine h1.kept ⟨rfl,rfl,rfl,?_,fun k hk _=>?_⟩
   · show _≤(_++_:Array Obj).size
     rw[gl];omega
   · show(_++_:Array Obj)[k]?=_
     rw[Array.getElem?_append_left hk]
def uY:Ent:=(61,fun
 |[.c (.own 0)],[.own 3 .int l]=>some (some (l.length≤1000000),.tup [],[.own 3 .int (dC l)])
 |_,_=>none)
theorem Jh:EntOk Tryz.prog uY:=entOk fun vs ck=>by
 unfold uY;dsimp only;split
 ·rename_i l;exact entS fun hp=>DV l hp
 ·exact entN
theorem N0{l:List Int}(h:l.Pairwise (·≤·)):dC l=l:=by
 unfold dC
 refine List.mergeSort_of_pairwise (h.imp fun{a b} hab=>?_)
 exact decide_eq_true hab
def kR (ts : List Tran) (may : List Int) (i : Int) : Nat → Int → Int
  | 0, k => k
  | n + 1, k => if (decide (k ≥ 0) && decide (k < (ts.length : Int)) && dr ts k == i && !inB may k) = true then kR ts may i n (k + 1) else k
def nd (ts : List Tran) (i k : Int) : Bool := decide (k ≥ 0) && decide (k < (ts.length : Int)) && dr ts k == i
theorem yx {a r : List Int} (hn : a.Nodup) (hr : r.Pairwise (· < ·)) (h : ∀ y, y ∈ a ↔ y ∈ r) : dC a = r := by
  have hp : (dC a).Perm a := List.mergeSort_perm _ _
  have hs : (dC a).Pairwise (fun x y => decide (x ≤ y) = true) := List.pairwise_mergeSort (fun x y z h1 h2 => by simp at *; omega) (fun x y => by simp; omega) a
  have hn2 : (dC a).Nodup := hp.nodup_iff.2 hn
  refine nY ?_ hr fun y => (hp.mem_iff).trans (h y)
  have := List.Pairwise.and hs hn2
  exact this.imp fun ⟨h1, h2⟩ => by
    have h1' := of_decide_eq_true h1
    have h2' : _ ≠ _ := h2
    omega
theorem sU {p : Int → Bool} : ∀ {m : List Int} {k : Int}, m.Pairwise (· < ·) → k ∈ m → p k = true → (∀ j ∈ m, j < k → p j = false) → m.find? p = some k
  | [], k, _, h, _, _ => by cases h
  | a :: m, k, hs, hk, hp, hl => by
    obtain ⟨h1, h2⟩ := List.pairwise_cons.1 hs
    rw [List.find?_cons]
    rcases List.mem_cons.1 hk with rfl | hk
    · rw [hp]
    · rw [hl a List.mem_cons_self (h1 k hk)]
      exact sU h2 hk hp fun j hj => hl j (List.mem_cons_of_mem _ hj)
def rK (ts : List Tran) : Prop := ∀ a b : Nat, a ≤ b → b < ts.length → (ETy.get .tran ts a).src ≤ (ETy.get .tran ts b).src
theorem C0 {c : Chart} (v : Valid c) : rK c.trans := by
  have hstep : ∀ k, k + 1 < c.trans.length → (ETy.get .tran c.trans k).src ≤ (ETy.get .tran c.trans (k + 1)).src := fun k hk => by
    have h0 := ((mE c (k + 1) _ _).1 (v.trans (k + 1) hk)).1
    unfold gA at h0
    have hl := (dP c).1 v.few
    rw [Bool.or_eq_false_iff, Bool.or_eq_false_iff] at h0
    have h1 := h0.1.2
    rw [cg (n := ((k + 1 : Nat) : Int) - 1) (by omega) (by omega), Bool.and_eq_false_iff] at h1
    rcases h1 with h1 | h1
    · have := of_decide_eq_false h1; omega
    · have := of_decide_eq_false h1
      rw [show (((k + 1 : Nat) : Int) - 1).toNat = k by omega] at this
      omega
  intro a b hab
  induction b with
  | zero => intro _; have : a = 0 := by omega
            subst this; exact Int.le_refl _
  | succ b ih =>
    intro hb
    by_cases e : a = b + 1
    · subst e; exact Int.le_refl _
    · exact Int.le_trans (ih (by omega) (by omega)) (hstep b hb)
theorem Kt {ts : List Tran} (hs : rK ts) {may : List Int} (hinc : may.Pairwise (· < ·)) (hrg : ∀ k ∈ may, 0 ≤ k ∧ k < (ts.length : Int)) (i : Int) : ∀ (n k : Nat), ts.length - k < n → k ≤ ts.length → (∃ j, j < ts.length ∧ j ≤ k ∧ (ETy.get .tran ts j).src = i) → (∀ j : Nat, j < k → (j : Int) ∈ may → (ETy.get .tran ts j).src ≠ i) →
    may.find? (fun k => dr ts k == i) = if nd ts i (kR ts may i n (k : Int)) = true then some (kR ts may i n (k : Int)) else none := by
  intro n
  induction n with
  | zero => intro k h; omega
  | succ n ih =>
    intro k hn hk ⟨j0, hj0, hj1, hj2⟩ hlow
    have hsrc : ∀ m : Nat, dr ts (m : Int) = (ETy.get .tran ts m).src := fun m => by unfold dr; rw [Int.toNat_natCast]
    rw [kR]
    by_cases hc : (decide ((k : Int) ≥ 0) && decide ((k : Int) < (ts.length : Int)) && dr ts (k : Int) == i && !inB may (k : Int)) = true
    · rw [if_pos hc]
      simp only [Bool.and_eq_true, decide_eq_true_eq, Bool.not_eq_true', beq_iff_eq] at hc
      have := ih (k + 1) (by omega) (by omega) ⟨j0, hj0, by omega, hj2⟩ (fun j hj hm => by
        by_cases e : j = k
        · subst e
          rw [(cu _ _).2 hm] at hc; exact absurd hc.2 (by decide)
        · exact hlow j (by omega) hm)
      exact this
    · rw [if_neg hc]
      by_cases hh : nd ts i (k : Int) = true
      · rw [if_pos hh]
        have hm : inB may (k : Int) = true := by
          cases hb : inB may (k : Int)
          · exfalso
            apply hc
            unfold nd at hh
            rw [hh, hb]; rfl
          · rfl
        unfold nd at hh
        simp only [Bool.and_eq_true, decide_eq_true_eq, beq_iff_eq] at hh
        refine sU hinc ((cu _ _).1 hm) (by simp [hh.2]) fun j hj hlt => ?_
        obtain ⟨q, rfl⟩ := Int.eq_ofNat_of_zero_le (hrg j hj).1
        have := hlow q (by omega) hj
        rw [hsrc]; simpa using this
      · rw [if_neg hh, List.find?_eq_none]
        intro j hj
        obtain ⟨q, rfl⟩ := Int.eq_ofNat_of_zero_le (hrg j hj).1
        have hql : q < ts.length := by have := (hrg _ hj).2; omega
        rw [hsrc]
        intro he
        have he' : (ETy.get .tran ts q).src = i := by simpa using he
        by_cases hqk : q < k
        · exact hlow q hqk hj he'
        · have hkl : k < ts.length := by omega
          have h1 := hs j0 k hj1 hkl
          have h2 := hs k q (by omega) hql
          apply hh
          unfold nd
          simp only [Bool.and_eq_true, decide_eq_true_eq, beq_iff_eq, hsrc]
          exact ⟨⟨by omega, by omega⟩, by omega⟩
theorem room_le {n b : Nat} (h : n ≤ 100000) (hb : b ≤ 1000) : room n b := ⟨Nat.le_trans (Nat.mul_le_mul h hb) (by decide), by unfold maxLen; omega⟩
theorem sQ (ks : List Int) (B : Int → Bool) {k : Nat} (hk : k < ks.length) : (ks.take (k + 1)).filter B = (ks.take k).filter B ++ (if B (ETy.get .int ks k) = true then [ETy.get .int ks k] else []) := by
  rw [ETy.get_eq (t := .int) (List.getElem?_eq_getElem hk), List.take_succ_eq_append_getElem hk, List.filter_append]
  cases h : B ks[k] <;> simp [h]
end Go.Proofs.YtlhgnjmdopjpeaaGreatDoor
namespace Go.Ev
open Go.RowKit
def EE(P:Program)(root:Code)(p:List Nat)(i:Nat)(st:ST):Option (Nat×TypeId×Value×Int×Int×Nat) :=
 match(opsOf (sub root p))[i]? with
 | some o=>match o.guard,o.dst,o.op with
   | none,some d,.makeSlice t l c=>match P.underlying t,lW (bt st none l),lW (bt st none c)with
     | some (.slice e),some L,some C=>match P.info? e with
       | some inf=>match inf.zero with
         |some z=>bif Nat.blt d st.n&&st.wf&&Nat.beq inf.size 1 then some (d,e,z,L,C,inf.bytes)else none
         |none=>none
       |none=>none
     |_,_,_=>none
   |_,_,_=>none
 |none=>none
theorem All2.replicate{α β:Type}{R:α→β→Prop}{a:List α}{b:β}(h:All2 R a [b]):∀n:Nat,All2 R ((List.replicate n a).flatMap id) (List.replicate n b)
 |0=>.nil
 | n+1=>by
   rw[fH,fH,bF]
   exact h.append (All2.replicate h n)
theorem oR(ty:ETy)(x:ty.den):∀n:Nat,(List.replicate n x).flatMap ty.enc=(List.replicate n (ty.enc x)).flatMap id
 |0=>rfl
 | n+1=>by
   rw[fH,fH,bF,bF,oR ty x n];rfl
section
variable{P:Program}{f:Go.Sy.Md}{root:Code}{Γ:Ctx}{Q:Out}{st:ST}{k:List PI}
theorem J.make{p:List Nat}{i d:Nat}{e:TypeId}{z:Value}{L C:Int}{by1:Nat}(ty:ETy)(x0:ty.den)(n:Nat)(h:EE P root p i st=some (d,e,z,L,C,by1))(hs:ty.size=1)(hz1:z.cells=#[z])(hx:∀H,All2 (PR H) (ty.enc x0) [z])(hL:L=(n:Int))(hC:C=(n:Int))(hr:room n by1)
 (hk:J P f root Γ Q (.ops p (i+1)::k) {st with fr:=bH d (.x (.c (.own st.ck.length))) st.fr,ck:=st.ck++[.own e ty (List.replicate n x0)]}):J P f root Γ Q (.ops p i::k) st:=by
 unfold EE at h
 split at h
 · rename_i o ho
   split at h
   · rename_i d' t l c hg hd hop
     split at h
     · rename_i e' L' C' hu hl hc
       split at h
       · rename_i inf hi
         split at h
         · rename_i z' hz
           cases hb:(Nat.blt d' st.n&&st.wf&&Nat.beq inf.size 1)
           ·rw[hb]at h;cases h
           · rw [hb]at h
             simp only[cond_true,aa,ae]at h
             obtain⟨rfl,rfl,rfl,rfl,rfl,rfl⟩:=h
             simp only[af]at hb
             obtain⟨⟨hd',hwf⟩,hsz1⟩:=hb
             intro hT V a w r
             have hil:i<(opsOf (sub root p)).size:=(Array.getElem?_eq_some_iff.1 ho).1
             have hsz:(opsOf (sub root p)).size - i=((opsOf (sub root p)).size - (i+1))+1:=by omega
             simp only[aq,PI.den]
             rw[hsz,bG]
             have hw:Region.wanted o (yielded (opsOf (sub root p)) a.tmps)=true:=by simp only[Region.wanted,hg]
             obtain⟨kl,el⟩:=eQ r (g:=none) trivial hl
             obtain⟨kc,ec⟩:=eQ r (g:=none) trivial hc
             subst hL;subst hC
             have hbb:inf.bytes * n≤281474976710656:=by have:=hr.1;rw[Nat.mul_comm];omega
             obtain⟨w',hrun,hown,hgrow⟩:=run_make_full (P:=P) (w:=w) 0 t e' inf z' 1 hu hi hz (ak hsz1) kl kc n hbb hr.2 (aS _)
             rw[hz1,Nat.mul_one,toList_madeCells_one]at hown
             obtain⟨V',hag,hH,g1,g2,r'⟩:=r.grow hwf none (c:=.own e' ty (List.replicate n x0)) (v':=.slice (some ⟨w.heap.size,0,none⟩) n n) (s':=w.heap.size) (w':=w') (row:=none) (by simp) hgrow (fun V' hag hH f1 f2=>by
              refine⟨⟨List.replicate n z',by rw[f2,dZ,hs];exact hown,by rw[oR];exact All2.replicate (hx _) n,fun b hb=>?_⟩,fun b hb=>.inr ?_⟩
              · rw[f2]at hb
                simp only[Value.ownBlock,aa]at hb
                rw[f1,hb]
              · simp only[Chunk.blk,f2,Value.ownBlock,aa]at hb
                omega)
             have hex:(execOp a.eval o).run P w = .ok (.value (.slice (some ⟨w.heap.size,0,none⟩) n n)) w':=by
              obtain⟨dst,op,ty',pos,after,guard⟩:=o
              simp only at hop
              subst hop
              simp only[execOp,el,ec]
              exact bo hrun
             refine Go.Sy.Fin.op_value ho hw hex ?_
             rw[hd]
             have hput:er {st with ck:=cZ none st.ck++[Chunk.own e' ty (List.replicate n x0)]} (some d') (.x (.c (.own st.ck.length)))=some {st with fr:=bH d' (.x (.c (.own st.ck.length))) st.fr,ck:=cZ none st.ck++[Chunk.own e' ty (List.replicate n x0)]}:=by simp only[er,hd',cond_true]
             exact hk hT V' _ w' (dj r' hput (v:=.slice (some ⟨w.heap.size,0,none⟩) n n) g2.symm)
         ·cases h
       ·cases h
     ·cases h
   ·cases h
 ·cases h
end
variable(q:Nat){Γ:Ctx}{P:Program}{ck:List Chunk}
def mW(ck:List Chunk)(V:Vn)(w:World):Ctx:={entry ck V w with m:=q}
theorem WOk.wholeQ{V:Vn}{w:World}(r:WOk Γ ck V w):WOk (mW q ck V w) ck V w :=
 {ext:=Fr.refl _ _,imm:=r.imm,hle:=HLe.refl _,frz:=fun _ h=>.inl h,agr:=fun _ _=>⟨rfl,rfl⟩,own:=r.own,base:=fun i c b hc hb=>⟨.inr ⟨i,c,hc,hb⟩,(r.base i c b hc hb).2⟩,inj:=r.inj}
theorem WOk.afterQ{q:Nat}{Γ:Ctx}{ck ck':List Chunk}{V V':Vn}{w w':World}(r:WOk Γ ck V w)(hm:Γ.m≤q)(s:WOk (mW q ck V w) ck' V' w'):WOk Γ ck' V' w':=by
 have hM:∀b,(mW q ck V w).M b→Γ.w0.heap.size≤b∨Γ.M b:=fun b ⟨i,c,hc,hb⟩=>(r.base i c b hc hb).1
 have hsz:=r.ext.size
 refine{ext:=⟨s.ext.os.trans r.ext.os,s.ext.tape.trans r.ext.tape,s.ext.output.trans r.ext.output,aC r.ext.size s.ext.size,fun k hk hn=>?_⟩,imm:=s.imm,hle:=r.hle.trans s.hle,frz:=fun k h=>?_,agr:=fun i hi=>?_,own:=s.own,base:=fun i c b hc hb=>⟨?_,(s.base i c b hc hb).2⟩,inj:=s.inj}
 · have h1:k<w.heap.size:=bW hk hsz
   refine(s.ext.block k h1 fun hk2=>?_).trans (r.ext.block k hk hn)
   rcases hM k hk2 with h |h
   ·omega
   ·exact hn h
 · rcases s.frz k h with h1 |h1 |h1
   ·exact r.frz k h1
   · have h2:w.heap.size≤k:=h1
     exact .inr (.inl (aC hsz h2))
   ·exact .inr (hM k h1)
 · have h1:V'.σ i=V.σ i∧V'.ov i=V.ov i:=s.agr i (bW hi hm)
   exact⟨h1.1.trans (r.agr i hi).1,h1.2.trans (r.agr i hi).2⟩
 · rcases(s.base i c b hc hb).1 with h |h
   · have h2:w.heap.size≤b:=h
     exact .inl (aC hsz h2)
   ·exact hM b h
theorem Rel.markQ{q:Nat}{Γ:Ctx}{st:ST}{V V':Vn}{a:Act}{w W:World}{ck:List Chunk}{D:Nat}(r:Rel Γ st V a w)(hfr:st.fr.all (fun p=>p.2.lt q)=true)(hag:Agree q V V')(hcl:Cl V.H V'.H)(hw:WOk Γ ck V' W)(hlen:ck.length=st.ck.length)
 (hD:w.heap.size≤D) (hk:W.heap[D]?=some (.deferred (some []))) :
 ∃V2,Rel {Γ with ds:=D::Γ.ds,H0:=fun k=>if k=D then some (.deferred (some []))else Γ.H0 k} {st with ck:=ck} V2 {a with defers:={target:=.collected D,args:=#[]}::a.defers} W:=by
 have hVD:V.H D=none:=by
  cases h:V.H D with
  |none=>rfl
  |some o=>have:=(Array.getElem?_eq_some_iff.1 (r.wok.imm D o h)).1;omega
 have hVD':V'.H D=none:=by
  cases h:V'.H D with
  |none=>rfl
  | some o =>
    have h1:=hw.imm D o h
    rw[hk]at h1
    simp only[aa]at h1
    rcases hcl D o h with h2 |h2
    ·rw[hVD]at h2;cases h2
    ·rw[←h1]at h2;cases h2
 have hle2:HLe V'.H (fun k=>if k=D then some (.deferred (some []))else V'.H k):=fun k o h=>by
  show(if k=D then some (.deferred (some []))else V'.H k)=some o
  rw[if_neg fun e=>by rw[e,hVD']at h;cases h];exact h
 refine⟨⟨fun k=>if k=D then some (.deferred (some []))else V'.H k,V'.σ,V'.ov⟩,{size:=r.size,defers:=⟨?_,?_,?_⟩,slots:=fun t sv h=>?_,wok:=?_,few:=⟨r.few.1,by show st.m≤ck.length;rw[hlen];exact r.few.2⟩}⟩
 · show{target:=.collected D,args:=#[]}::a.defers=_
   rw[r.defers.eq];rfl
 · refine dv.2 ⟨fun hm=>?_,r.defers.nodup⟩
   have:=r.wok.hle _ _ (r.defers.at' D hm).1
   rw[hVD]at this;cases this
 · intro E hE
   rcases aI.1 hE with rfl |hE
   ·exact⟨if_pos rfl,aC r.wok.ext.size hD⟩
   · have h1:=r.defers.at' E hE
     refine⟨?_,h1.2⟩
     show(if E=D then some (.deferred (some []))else Γ.H0 E)=_
     split
     ·rfl
     ·exact h1.1
 ·exact cO.keep (V:=V') (V':=⟨fun k=>if k=D then some (.deferred (some []))else V'.H k,V'.σ,V'.ov⟩) (a:=a) rfl rfl hle2.ke rfl ((r.slots t sv h).agree hag (an.1 hfr _ h))
 · refine{ext:=hw.ext,imm:=fun k o h=>?_,hle:=fun k o h=>?_,frz:=fun k h=>?_,agr:=hw.agr,own:=fun i c hc=>?_,base:=fun i c b hc hb=>⟨(hw.base i c b hc hb).1,?_⟩,inj:=hw.inj}
   · have h':(if k=D then some (.deferred (some []))else V'.H k)=some o:=h
     split at h'
     ·rename_i e;rw[e,hk];exact h'
     ·exact hw.imm k o h'
   · have h':(if k=D then some (.deferred (some []))else Γ.H0 k)=some o:=h
     show(if k=D then some (.deferred (some []))else V'.H k)=some o
     split at h'
     ·rename_i e;rw[if_pos e];exact h'
     ·rename_i e;rw[if_neg e];exact hw.hle k o h'
   · by_cases e:k=D
     · left;show(if k=D then some (.deferred (some []))else Γ.H0 k)≠none
       rw[if_pos e];simp
     · have h':(if k=D then some (.deferred (some []))else V'.H k)≠none:=h
       rw[if_neg e]at h'
       rcases hw.frz k h' with h1 |h1
       · left;show(if k=D then some (.deferred (some []))else Γ.H0 k)≠none
         rw[if_neg e];exact h1
       ·exact .inr h1
   ·exact Chunk.holds_keep (V:=V') (V':=⟨fun k=>if k=D then some (.deferred (some []))else V'.H k,V'.σ,V'.ov⟩) rfl rfl hle2.ke (hw.own i c hc)
   · show(if b=D then some (.deferred (some []))else V'.H b)=none
     rw[if_neg fun e=>?_]
     ·exact(hw.base i c b hc hb).2
     · obtain⟨o,h1,h2⟩:=Chunk.blk_live (hw.own i c hc) hb
       rw[e,hk]at h1
       simp only[aa]at h1
       exact h2 _ h1.symm
theorem J.rangesQ {Γ:Ctx} {Q:Out} {m:FuncId} {fn:Func} {root:Code} {st:ST} {p:List Nat} {k:List PI} {g s d gf id:Nat} {o:Oper} {body:Code} {caps:List RC} {ok:Int→Prop} {xs:List Int}
 (hf:P.funcs[m]?=some fn) (hc:sub root p = .rangeFunc (.tmp g) #[s] (.region id #[o] false) body) (ho1:o.op = .assign (.tmp s)) (ho2:o.dst=some d) (ho3:o.guard=none) (hs:Nat.blt s st.n=true) (hd:Nat.blt d st.n=true) (hsd:Nat.beq s d=false)
 (hg:Ev.lookup st.fr g=some (.x (.c (.fn (.func gf) [] caps)))) (hgf:∀args w,(callFunc gf args).run P w = .ok (.enter gf args) w) (hwf:st.wf=true) (hq1:Nat.ble st.m q=true) (hq2:Nat.ble q st.ck.length=true) (hfr:st.fr.all (fun p=>p.2.lt q)=true) (hit:Iter P gf caps ok xs)
 (cK badx:List Int→Prop) (hg0:cK []) (ckf ckx:List Int→List Chunk) (h0:ckf []=st.ck) (hlf:∀l,(ckf l).length=st.ck.length) (hlx:∀l,(ckx l).length=st.ck.length) (hnf:∀l,(ckf l).all Chunk.noTbl=true) (hnx:∀l,(ckx l).all Chunk.noTbl=true)
 (hround:∀(l:Nat) (pre:List Int) (x:Int) (Γ:Ctx),Γ.ds=[]→ok x→(∀y∈pre,ok y)→cK pre→pre.length<xs.length→J P ⟨m,some l⟩ root Γ (fun v ck=>(v = .x (.b true)∧cK (pre++[x])∧ck=ckf (pre++[x]))∨(v = .x (.b false)∧badx (pre++[x])∧ck=ckx (pre++[x]))) [.code (p++[1])]
  {n:=st.n,fr:=bH d (.x (.i x)) (bH s (.x (.i x)) st.fr),ck:=ckf pre,m:=q})
 (hdone:cK xs→∀Γ',J P m root Γ' Q k {st with ck:=ckf xs})
 (hstop:∀pre,pre <+: xs→badx pre→∃l,iX P {st with ck:=ckx pre} fn.results.toList=some l∧Q (iG {st with ck:=ckx pre} (iS l)).1 (iG {st with ck:=ckx pre} (iS l)).2) :
 J P m root Γ Q (.code p::k) st:=by
 intro hT V a w r
 have hs':s<st.n:=aB hs
 have hd':d<st.n:=aB hd
 have hwf2:=hwf
 simp only[ST.wf,af]at hwf2
 have hgv:=r.slots g _ (cT hg)
 obtain⟨ua,ub,hgv,hua,hub⟩:=hgv
 cases hua
 have hag:a.eval (.tmp g) = .func (.func gf) #[] ub.toArray:=hgv
 have hTV:hZ P V.H:=hT.mono r.wok.hle
 have hΓ:Γ.m≤q:=aC r.few.1 (aB hq1)
 let I:List {x:Int // ok x}→World→Prop:=fun ys W=>cK (ys.map (·.1))∧∃V',Agree q V V'∧Cl V.H V'.H∧WOk Γ (ckf (ys.map (·.1))) V' W
 let Ix:Code→List {x:Int // ok x}→World→Prop:=fun c ys W=>(c = .ret∧badx (ys.map (·.1)))∧∃V',Agree q V V'∧Cl V.H V'.H∧WOk Γ (ckx (ys.map (·.1))) V' W
 let Ax:{x:Int // ok x}→Act→World→Prop:=fun x a' _=>a'=(({a with defers:=[]}:Act).put (some s) (.int .i64 x.1)).put (some d) (.int .i64 x.1)
 have hI:OwnFrom w.heap.size I:=fun ys W W' row ⟨q0,V',q1,q2,q3⟩ hgr hrow=>⟨q0,V',q1,q2,q3.turned q2 r.wok.imm r.wok.ext.size hgr hrow (hnf _)⟩
 have hIx:∀c,OwnFrom w.heap.size (Ix c):=fun c ys W W' row ⟨q0,V',q1,q2,q3⟩ hgr hrow=>⟨q0,V',q1,q2,q3.turned q2 r.wok.imm r.wok.ext.size hgr hrow (hnx _)⟩
 have hI0:I [] w:=⟨hg0,V,Agree.refl _ _,fun _ _ h=>.inl h,by show WOk Γ (ckf []) V w;rw[h0];exact r.wok⟩
 have hAx:∀x a',OwnFrom w.heap.size (fun(_:Unit) W=>Ax x a' W):=fun x a' _ W W' row h _ _=>h
 have hKb:∀(W:World) (l:Nat) (o o':Obj),w.heap.size≤l→W.heap[l]?=some o→o.isCells=false→o.isWalk=false→KpH V.H W (W.putObj l o'):=fun W l o o' hl _ _ _ =>
  ⟨rfl,rfl,rfl,by simp,fun i hi=>World.putObj_heap_other fun e=>by
   cases h:V.H i with
   |none=>exact hi h
   |some ob=>have:=(Array.getElem?_eq_some_iff.1 (r.wok.imm i ob h)).1;omega⟩
 let Qk:Exit→Act→World→Prop:=fun e a' w'=>match e with
  |.normal=>Go.Sy.Fin P (m:Go.Sy.Md) (jr Γ Q) (k.map (PI.den root)) a' w'
  |.ret=>∃(v:Value) (ds:List Nat),a'.defers=ds.map (fun D=>({target:=.collected D,args:=#[]}:Deferred))∧ds.Nodup∧(∀D∈ds,w'.heap[D]?=some (.deferred (some [])))∧(results fn a'.tmps).run P (Go.Sy.took w' ds) = .ok v (Go.Sy.took w' ds)∧jr Γ Q (.returned v) (Go.Sy.took w' ds)
  |_=>False
 have hH0:∀D,w.heap.size≤D→Γ.H0 D=none:=fun D hD=>by
  cases h:Γ.H0 D with
  |none=>rfl
  |some ob=>have:=(Array.getElem?_eq_some_iff.1 (r.wok.imm D ob (r.wok.hle D ob h))).1;omega
 have hT':∀D,w.heap.size≤D→hZ P (fun k=>if k=D then some (.deferred (some []))else Γ.H0 k):=fun D hD=>hT.mono fun k ob h=>by
  show(if k=D then some (.deferred (some []))else Γ.H0 k)=some ob
  rw[if_neg fun e=>by rw[e,hH0 D hD]at h;cases h];exact h
 have key:=wpIn_rangeFunc_ownH (F:=Fence.wide) (n:=1) (P:=P) (g:=.tmp g) (ps:=#[s]) (assign:=.region id #[o] false) (body:=body) (Q:=Qk) (a:=a) (w:=w) rfl (av 1) hag trivial hgf
  (encs:=fun(x:{x:Int // ok x})=>#[.int .i64 x.1]) (Kp:=KpH V.H) (S:=fun ys=>ys.map (·.1)=xs) (Sp:=fun ys=>ys.map (·.1) <+: xs) (N:=xs.length) (w0:=w) (hit _ V w ub r.wok.imm hTV hub)
  (fun h1 h2=>h1.trans h2) hKb (Below.refl _ _) (fun _=>rfl) I Ix hI hIx hI0 Ax hAx ?assign ?body ?done ?stop
 case assign =>
  intro l pre x W K hi hK
  have hszs:s<a.tmps.size:=by rw[r.size];exact hs'
  have e:({tmps:=(#[s].zip #[Value.int .i64 x.1]).foldl (fun t (p,v)=>t.setIfInBounds p v) a.tmps,defers:=[]}:Act)=({a with defers:=[]}:Act).put (some s) (.int .i64 x.1):=by
   simp[Act.put]
  show(Code.region id #[o] false).wpIn (Fence.wide.inRound l) _ P (Exit.then K _) ({tmps:=(#[s].zip #[Value.int .i64 x.1]).foldl (fun t (p,v)=>t.setIfInBounds p v) a.tmps,defers:=[]}:Act) W
  rw[e]
  refine sH ho1 ho2 ho3 (hK _ _ (KeepsFrom.refl _ _) ⟨rfl,rfl,rfl,av _,fun _ _=>rfl⟩ hi ?_)
  show(({a with defers:=[]}:Act).put (some s) (.int .i64 x.1)).put (some d) ((({a with defers:=[]}:Act).put (some s) (.int .i64 x.1)).eval (.tmp s))=_
  have e2:((({a with defers:=[]}:Act).put (some s) (.int .i64 x.1)).eval (.tmp s)) = .int .i64 x.1:=by
   show((({a with defers:=[]}:Act).put (some s) (.int .i64 x.1)).tmps.getD s undef)=_
   simp[Act.put,Array.getD,hszs]
  rw[e2]
 case body =>
  intro l pre x a' W hl hrec hi ha hlt
  obtain⟨hgd,V',q1,q2,q3⟩:=hi
  have ha':a'=(({a with defers:=[]}:Act).put (some s) (.int .i64 x.1)).put (some d) (.int .i64 x.1):=ha
  have hln:=hlf (pre.map (·.1))
  have r0:Rel (mW q (ckf (pre.map (·.1))) V' W) {n:=st.n,fr:=st.fr,ck:=ckf (pre.map (·.1)),m:=q} V' {a with defers:=[]} W :=
   {size:=r.size,defers:=.nil rfl,slots:=fun t sv h=>cO.keep (V:=V') (a:=a) rfl rfl (HLe.refl _).ke rfl ((r.slots t sv h).agree q1 (an.1 hfr _ h)),wok:=q3.wholeQ q,few:=⟨av _,by show q≤(ckf (pre.map (·.1))).length;rw[hln];exact aB hq2⟩}
  have r1:=r0.put s (.x (.i x.1)) (.int .i64 x.1) hs' fun a2 _ h=>by show SX.R V' (SX.i x.1) (a2.tmps.getD s undef);rw[h];exact PR.int _ _
  have r2:=r1.put d (.x (.i x.1)) (.int .i64 x.1) hd' fun a2 _ h=>by show SX.R V' (SX.i x.1) (a2.tmps.getD d undef);rw[h];exact PR.int _ _
  rw[←ha']at r2
  have hj:=hround l (pre.map (·.1)) x.1 (mW q (ckf (pre.map (·.1))) V' W) rfl x.2 (fun y hy=>by obtain⟨z,_,rfl⟩:=aM.1 hy;exact z.2) hgd (by rw[aP];exact hlt) (hTV.mono q1.hle) V' a' W r2
  have hb:sub root (p++[1])=body:=by rw[gW,hc];rfl
  simp only[aq,cb,PI.den,hb]at hj
  refine wpIn_mono (td hj) fun e a2 W2 hq=>?_
  have common:∀{ck:List Chunk} {V2:Vn},WOk (mW q (ckf (pre.map (·.1))) V' W) ck V2 W2→ck.length=st.ck.length→ck.all Chunk.noTbl=true→KeepsFrom w.heap.size W W2∧KpH V.H W W2∧∃V3,Agree q V V3∧Cl V.H V3.H∧WOk Γ ck V3 W2:=by
   intro ck V2 hw _ hnt
   have hM:∀b,(mW q (ckf (pre.map (·.1))) V' W).M b→(∃ob,W.heap[b]?=some ob∧ob.isCells=true)∧V'.H b=none:=fun b ⟨i,c,hci,hcb⟩=>⟨Chunk.blk_cells (an.1 (hnf _) c (List.mem_of_getElem? hci)) (q3.own i c hci) hcb,(q3.base i c b hci hcb).2⟩
   refine⟨⟨hw.ext.size,fun b ob _ hb1 hb2=>?_⟩,⟨hw.ext.os,hw.ext.tape,hw.ext.output,hw.ext.size,fun b hb1=>?_⟩,?_⟩
   · have hlt2:b<W.heap.size:=(Array.getElem?_eq_some_iff.1 hb1).1
     refine(hw.ext.block b hlt2 fun h=>?_).trans hb1
     obtain⟨⟨o2,h3,h4⟩,_⟩:=hM b h
     rw[hb1]at h3
     simp only[aa]at h3
     rw[←h3,hb2]at h4;cases h4
   · obtain⟨ob,hob⟩:=Option.ne_none_iff_exists'.1 hb1
     have h5:=q3.imm b ob (q1.hle b ob hob)
     have hlt2:b<W.heap.size:=(Array.getElem?_eq_some_iff.1 h5).1
     refine hw.ext.block b hlt2 fun h=>?_
     have:=(hM b h).2
     rw[q1.hle b ob hob]at this;cases this
   · have hw3:=q3.afterQ hΓ hw
     refine hw3.clean (n:=q) ⟨q1.hle.trans hw.hle,fun i hi=>?_⟩ r.wok.hle hnt
     have h1:V2.σ i=V'.σ i∧V2.ov i=V'.ov i:=hw.agr i hi
     exact⟨h1.1.trans (q1.same i hi).1,h1.2.trans (q1.same i hi).2⟩
  have hmap:(pre++[x]).map (·.1)=pre.map (·.1)++[x.1]:=by simp
  rcases hq with⟨rfl,⟨v,V2,ret,ck2,h1,h2,h3,h4⟩ |h1⟩ |⟨rfl,⟨v,V2,ret,ck2,h1,h2,h3,h4⟩ |h1⟩ |⟨id2,rfl,⟨v,V2,ret,ck2,h1,h2,h3,h4⟩ |h1⟩
  case inl.inr=>exact False.elim h1
  case inr.inl.inr=>exact False.elim h1
  case inr.inr.inr=>exact False.elim h1
  · rw[jX rfl]at h4
    simp only[Ending.returned.injEq]at h1
    rcases h2 with⟨e1,hgx,e2⟩ |⟨e1,hgx,e2⟩
    · subst e2
      obtain⟨g1,g2,g3⟩:=common h4 (hlf _) (hnf _)
      refine⟨g1,g2,?_⟩
      show cK ((pre++[x]).map (·.1))∧∃V',_∧_∧WOk Γ (ckf ((pre++[x]).map (·.1))) V' W2
      rw[hmap];exact⟨hgx,g3⟩
    · subst e1
      have h5:PR V2.H (.bool false) v:=h3
      rw[←h1]at h5;cases h5
  · rw [jX rfl]at h4
    simp only[Ending.returned.injEq]at h1
    rcases h2 with⟨e1,hgx,e2⟩ |⟨e1,hgx,e2⟩
    · subst e1
      have h5:PR V2.H (.bool true) v:=h3
      rw[←h1]at h5;cases h5
    · subst e2
      obtain⟨g1,g2,g3⟩:=common h4 (hlx _) (hnx _)
      refine⟨g1,⟨rfl,?_⟩,?_⟩
      ·rw[hmap];exact hgx
      · show ∃V',_∧_∧WOk Γ (ckx ((pre++[x]).map (·.1))) V' W2
        rw[hmap];exact g3
  · exfalso
    simp only[Ending.returned.injEq]at h1
    subst h1
    rcases h2 with⟨e1,_⟩ |⟨e1,_⟩
    · subst e1
      have h5:PR V2.H (.bool true) (.int .i64 (id2:Int)):=h3
      cases h5
    · subst e1
      have h5:PR V2.H (.bool false) (.int .i64 (id2:Int)):=h3
      cases h5
 case done =>
  intro D ys W hD hS hi hk
  obtain⟨hgd,V',q1,q2,q3⟩:=hi
  have hS':ys.map (·.1)=xs:=hS
  rw[hS']at q3 hgd
  obtain⟨V2,r2⟩:=r.markQ hfr q1 q2 q3 (hlf xs) hD hk
  exact Go.Sy.Fin.mono (fun e w' hq=>hq.turn (lK (hH0 D hD) _)) (hdone hgd _ (hT' D hD) V2 _ W r2)
 case stop =>
  intro D c ys W hD hS hi hk
  obtain⟨⟨rfl,hbd⟩,V',q1,q2,q3⟩:=hi
  obtain⟨V2,r2⟩:=r.markQ hfr q1 q2 q3 (hlx _) hD hk
  obtain⟨l,hl1,hl2⟩:=hstop _ hS hbd
  obtain⟨v,g1,g2⟩:=r2.fin hl1 hl2
  refine wpIn_ret ?_
  exact⟨v,D::Γ.ds,r2.defers.eq,r2.defers.nodup,fun E hE=>r2.wok.imm _ _ (r2.wok.hle _ _ (r2.defers.at' E hE).1),g1,g2.turn (lK (hH0 D hD) _)⟩
 intro b k' cs hro hb0
 obtain⟨hb,hkd,hk0⟩:=hb0 rfl
 subst hk0
 simp only[aq,PI.den,hc]
 obtain⟨e,a',w',hq,harr⟩:=key b (k.map (PI.den root)++[]) cs hro trivial (room_wide _)
 have harr':=harr
 cases e with
 |normal=>exact Go.Sy.EndAt.of_steps (stepsIn_wide.1 harr') (hq b [] cs hro hb0)
 | ret =>
   obtain⟨v,ds,e1,e2,e3,e4,e5⟩:=hq
   obtain⟨todo,hst⟩:=harr'.1 hro
   refine⟨.returned v,Go.Sy.took w' ds,_,e5,(stepsIn_wide.1 hst).trans (Go.Sy.leave_marks ds w' _ cs rfl e1 e2 e3),hb,?_⟩
   exact⟨rfl,rfl,hkd,fn,by simpa[Frame.atR,hb]using hf,e4⟩
 |_=>exact hq.elim
theorem J.rangeQ{Γ:Ctx}{Q:Out}{m:FuncId}{fn:Func}{root:Code}{st:ST}{p:List Nat}{k:List PI}{g s d gf:Nat}{caps:List RC}{ok:Int→Prop}{xs:List Int}
 (hf:P.funcs[m]?=some fn) (hc:sl root p=some (g,s,d)) (hs:Nat.blt s st.n=true) (hd:Nat.blt d st.n=true) (hsd:Nat.beq s d=false)
 (hg:Ev.lookup st.fr g=some (.x (.c (.fn (.func gf) [] caps)))) (hgf:∀args w,(callFunc gf args).run P w = .ok (.enter gf args) w) (hwf:st.wf=true) (hq1:Nat.ble st.m q=true) (hq2:Nat.ble q st.ck.length=true) (hfr:st.fr.all (fun p=>p.2.lt q)=true) (hit:Iter P gf caps ok xs)
 (cK badx:List Int→Prop) (hg0:cK []) (ckf ckx:List Int→List Chunk) (h0:ckf []=st.ck) (hlf:∀l,(ckf l).length=st.ck.length) (hlx:∀l,(ckx l).length=st.ck.length) (hnf:∀l,(ckf l).all Chunk.noTbl=true) (hnx:∀l,(ckx l).all Chunk.noTbl=true)
 (hround:∀(l:Nat) (pre:List Int) (x:Int) (Γ:Ctx),Γ.ds=[]→ok x→(∀y∈pre,ok y)→cK pre→pre.length<xs.length→J P ⟨m,some l⟩ root Γ (fun v ck=>(v = .x (.b true)∧cK (pre++[x])∧ck=ckf (pre++[x]))∨(v = .x (.b false)∧badx (pre++[x])∧ck=ckx (pre++[x]))) [.code (p++[1])]
  {n:=st.n,fr:=bH d (.x (.i x)) (bH s (.x (.i x)) st.fr),ck:=ckf pre,m:=q})
 (hdone:cK xs→∀Γ',J P m root Γ' Q k {st with ck:=ckf xs})
 (hstop:∀pre,pre <+: xs→badx pre→∃l,iX P {st with ck:=ckx pre} fn.results.toList=some l∧Q (iG {st with ck:=ckx pre} (iS l)).1 (iG {st with ck:=ckx pre} (iS l)).2) :
 J P m root Γ Q (.code p::k) st:=by
 unfold sl at hc
 split at hc
 · rename_i g' s' id o body hcode
   split at hc
   · rename_i s2 d' ho1 ho2 ho3
     cases hb:Nat.beq s2 s'
     ·rw[hb]at hc;cases hc
     · rw[hb]at hc
       simp only[cond_true,aa,ae]at hc
       obtain⟨rfl,rfl,rfl⟩:=hc
       have e:=ak hb
       subst e
       exact J.rangesQ q hf hcode ho1 ho2 ho3 hs hd hsd hg hgf hwf hq1 hq2 hfr hit cK badx hg0 ckf ckx h0 hlf hlx hnf hnx hround hdone hstop
   ·cases hc
 ·cases hc
end Go.Ev
