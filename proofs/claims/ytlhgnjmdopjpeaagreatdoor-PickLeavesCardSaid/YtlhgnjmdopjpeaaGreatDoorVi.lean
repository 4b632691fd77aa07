/- Contracts: none; plain: what is taken, the laws (layer 11). Conditions: none. The library's contracts of the shelf, laid at this dump by the kit's tools. Conditions: each one's own. Contracts: slices.Sort on whole numbers. Conditions: sizes. Contracts: none; plain: places sorted, transitions of a place (layer 11). Conditions: none. An executor for function bodies of the model over data, part VI: a slice made, of elements of one cell. Conditions: its size. -/
import Derived.Test.YtlhgnjmdopjpeaaGreatDoorAa
import Derived.Shelf.Lay
import Derived.Shelf.LaySoft
import Derived.Shelf.Strings.Trim
import Derived.Shelf.Small.Utf8
import Derived.Shelf.Small.Bits
import Derived.Shelf.Small.Strs
import Derived.Shelf.Utf8.RuneCount
import Derived.Shelf.Strconv.Itoa0
import Derived.Shelf.Strconv.Itoa1
import Derived.Shelf.LaysM
import Derived.Shelf.Strconv.Itoa2
import Derived.Shelf.Strconv.Itoa3
import Derived.Shelf.Strconv.Itoa4
import Derived.Shelf.Strconv.ParseIntEmpty
import Derived.Shelf.Strconv.Clone
import Derived.Shelf.Strconv.SyntaxError
import Derived.Shelf.LaysC
import Derived.Shelf.Strconv.ToError
import Derived.Shelf.Strconv.Lower
import Derived.Shelf.Strconv.ParseUint10
import Derived.Shelf.Strconv.ParseUint10Empty
import Derived.Shelf.Strconv.ParseUint10Any
import Derived.Shelf.Strconv.ParseInt10
import Derived.Shelf.Strconv.RangeError
import Derived.Shelf.Strconv.ToErrorRange
import Derived.Shelf.Strconv.ParseUintEmpty
import Derived.Shelf.Strconv.ParseUint10b64
import Derived.Shelf.Strconv.ParseUint10b32
import Derived.Shelf.Strconv.ParseUint10b16
import Derived.Shelf.Strconv.ParseUint10b8
import Derived.Shelf.Strconv.ParseUint10At
import Derived.Shelf.Strconv.ParseInt10At64
import Derived.Shelf.Strconv.ParseInt10At32
import Derived.Shelf.Strconv.ParseInt10At16
import Derived.Shelf.Strconv.ParseInt10At8
import Derived.Shelf.Strconv.ParseInt10All
import Derived.Shelf.Strconv.ParseIntPublic10
import Derived.Shelf.Strconv.ErrVarParseInt
import Derived.Shelf.Strings.Search1
import Derived.Shelf.Strings.Search2
import Derived.Shelf.Strings.Search3
import Derived.Shelf.Strings.Cut
import Derived.Shelf.Strings.Count
import Derived.Shelf.Strings.Shaped
import Derived.Shelf.Sort.Plain
import Derived.Shelf.Strings.Prefix
import Derived.Shelf.Strings.Split
import Derived.Shelf.Strings.SplitShaped
import Derived.Shelf.Unicode.Decode
import Derived.Shelf.Strings.Runes
import Derived.Shelf.Strings.RuneCount
import Derived.Shelf.Strings.IndexAny
import Derived.Shelf.Strings.AsciiSet
import Derived.Shelf.Strings.Explode
import Derived.Shelf.Bits.Mul64
import Derived.Shelf.Unicode.DecodeSlow
import Derived.Shelf.Unicode.DecodeAny
import Derived.Shelf.Unicode.DecodeLast
import Derived.Shelf.Slices.Clone
import Derived.Shelf.Slices.CompactS
import Derived.Shelf.Slices.SearchI
import Derived.Shelf.Slices.Cells
import Derived.Shelf.Slices.In.SortNone
import Derived.Shelf.SlicesE.Clone
import Derived.Test.YtlhgnjmdopjpeaaGreatDoorProg
import Derived.Test.YtlhgnjmdopjpeaaGreatDoorTj
import Derived.Test.YtlhgnjmdopjpeaaGreatDoorKb
import Derived.Laws.OwnMore
namespace Go.Proofs.YtlhgnjmdopjpeaaGreatDoor
open Go Go.Ev
set_option maxRecDepth 100000
section
variable{l:List Ev.Stat}{s:List Int}{ts:List Tran}{may:List Int}
theorem BB(h:Lgl l s){y:Int}(hy:y∈bo l s):∃i:Nat,y=(i:Int)∧i<l.length∧(i:Int)∈s∧ju l (i:Int)=true:=by
 obtain⟨h1,h2⟩:=az.1 hy
 obtain⟨i,rfl,h3,_⟩:=h.rng y h1
 exact⟨i,rfl,h3,h1,h2⟩
theorem IL(S:Shp l){i:Nat}(hi:i<l.length)(h:0≤firstM l ts may (i:Int)):firstM l ts may (i:Int)∈may∧Und l (gD ts (firstM l ts may (i:Int))) i:=by
 rcases FC S ts may (l.length+1) i (by omega) hi with⟨h1,_⟩ |h1
 ·unfold firstM at h;omega
 ·exact h1
theorem Ck(S:Shp l)(h:Lgl l s){k:Int}(hk:k∈gU (firstM l ts may) (bo l s)):k∈may∧∃i:Nat,(i:Int)∈bo l s∧firstM l ts may (i:Int)=k∧Und l (gD ts k) i:=by
 rcases(Nz _ _ [] k).1 hk with h1 |⟨y,h1,h2,h3⟩
 ·cases h1
 · obtain⟨i,rfl,h4,_⟩:=BB h h1
   have:=IL (ts:=ts) (may:=may) S h4 (by omega)
   rw[h2]at this
   exact⟨this.1,i,h1,h2,this.2⟩
theorem IQ{k:Int}(hk:k∈nC l s ts may):k∈gU (firstM l ts may) (bo l s):=(BA _ [] k hk).resolve_left (by simp)
theorem LB(S:Shp l)(h:Lgl l s){k:Int}(hk:k∈nC l s ts may):k∈may:=(Ck S h (IQ hk)).1
theorem FG:(nC l s ts may).Nodup:=FP _ [] fU (fun _ _ h=>by cases h) (vH _ _ [] fU)
variable{g:Tran→Bool}{ev:Str}
theorem JW(S:Shp l)(h:Lgl l s){k:Int}:k∈lV l s ts (qN g ev s ts)↔k∈nC l s ts (qN g ev s ts):=by
 rw[JX]
 constructor
 ·rintro⟨_,_,_,h1⟩;exact h1
 · intro h1
   obtain⟨n,h2,h3,_⟩:=wg.1 (LB S h h1)
   exact⟨n,h2,h3,h1⟩
end
end Go.Proofs.YtlhgnjmdopjpeaaGreatDoor
namespace Go.Proofs
open Go.Shelf
def Tryz.lays189_ren:Go.Shelf.Ren:=⟨fun |189=>61 |125=>104 |257=>103 |128=>171 |129=>172 |294=>162 |295=>163 |296=>164 |297=>165 |298=>166 |299=>167 |216=>168 |300=>169 |301=>170 |328=>217 |329=>218 |330=>219 |331=>220 |332=>221 |215=>222 |343=>260 |n=>n,fun |28=>34 |3=>3 |46=>120 |0=>0 |51=>183 |53=>185 |4=>4 |183=>175 |182=>174 |131=>180 |5=>5 |9=>9 |218=>229 |222=>233 |228=>261 |229=>113 |n=>n,fun |n=>n⟩
theorem Tryz.lays189:Go.Proofs.Lays.n189 Tryz.prog Tryz.lays189_ren:={
 mixed:=by kernel_rfl
 f125:=Tryz.func104.trans (congrArg some (by kernel_rfl))
 f128:=Tryz.func171.trans (congrArg some (by kernel_rfl))
 f129:=Tryz.func172.trans (congrArg some (by kernel_rfl))
 f189:=Tryz.func61.trans (congrArg some (by kernel_rfl))
 f215:=Tryz.func222.trans (congrArg some (by kernel_rfl))
 f216:=Tryz.func168.trans (congrArg some (by kernel_rfl))
 f257:=Tryz.func103.trans (congrArg some (by kernel_rfl))
 f294:=Tryz.func162.trans (congrArg some (by kernel_rfl))
 f295:=Tryz.func163.trans (congrArg some (by kernel_rfl))
 f296:=Tryz.func164.trans (congrArg some (by kernel_rfl))
 f297:=Tryz.func165.trans (congrArg some (by kernel_rfl))
 f298:=Tryz.func166.trans (congrArg some (by kernel_rfl))
 f299:=Tryz.func167.trans (congrArg some (by kernel_rfl))
 f300:=Tryz.func169.trans (congrArg some (by kernel_rfl))
 f301:=Tryz.func170.trans (congrArg some (by kernel_rfl))
 f328:=Tryz.func217.trans (congrArg some (by kernel_rfl))
 f329:=Tryz.func218.trans (congrArg some (by kernel_rfl))
 f330:=Tryz.func219.trans (congrArg some (by kernel_rfl))
 f331:=Tryz.func220.trans (congrArg some (by kernel_rfl))
 f332:=Tryz.func221.trans (congrArg some (by kernel_rfl))
 f343:=Tryz.func260.trans (congrArg some (by kernel_rfl))
 t0:=Tryz.underlying0
 a0:=Tryz.isAgg0
 z0:=Tryz.sizeOf0
 v0:=Tryz.zeroValue0
 t3:=Tryz.underlying3
 a3:=Tryz.isAgg3
 z3:=Tryz.sizeOf3
 v3:=Tryz.zeroValue3
 t4:=Tryz.underlying4
 a4:=Tryz.isAgg4
 z4:=Tryz.sizeOf4
 v4:=Tryz.zeroValue4
 t5:=Tryz.underlying5
 a5:=Tryz.isAgg5
 z5:=Tryz.sizeOf5
 v5:=Tryz.zeroValue5
 t9:=Tryz.underlying9
 a9:=Tryz.isAgg9
 z9:=Tryz.sizeOf9
 v9:=Tryz.zeroValue9
 t28:=Tryz.underlying34
 a28:=Tryz.isAgg34
 z28:=Tryz.sizeOf34
 v28:=Tryz.zeroValue34
 t46:=Tryz.underlying120
 a46:=Tryz.isAgg120
 z46:=Tryz.sizeOf120
 v46:=Tryz.zeroValue120
 t51:=Tryz.underlying183
 a51:=Tryz.isAgg183
 z51:=Tryz.sizeOf183
 v51:=Tryz.zeroValue183
 t53:=Tryz.underlying185
 a53:=Tryz.isAgg185
 z53:=Tryz.sizeOf185
 v53:=Tryz.zeroValue185
 t131:=Tryz.underlying180
 a131:=Tryz.isAgg180
 z131:=Tryz.sizeOf180
 v131:=Tryz.zeroValue180
 t182:=Tryz.underlying174
 a182:=Tryz.isAgg174
 z182:=Tryz.sizeOf174
 v182:=Tryz.zeroValue174
 t183:=Tryz.underlying175
 a183:=Tryz.isAgg175
 z183:=Tryz.sizeOf175
 v183:=Tryz.zeroValue175
 t218:=Tryz.underlying229
 a218:=Tryz.isAgg229
 z218:=Tryz.sizeOf229
 v218:=Tryz.zeroValue229
 t222:=Tryz.underlying233
 a222:=Tryz.isAgg233
 z222:=Tryz.sizeOf233
 v222:=Tryz.zeroValue233
 t228:=Tryz.underlying261
 a228:=Tryz.isAgg261
 z228:=Tryz.sizeOf261
 v228:=Tryz.zeroValue261
 t229:=Tryz.underlying113
 a229:=Tryz.isAgg113
 z229:=Tryz.sizeOf113
 v229:=Tryz.zeroValue113}
open Go.Sort Go.RowKit in
theorem Tryz.slices_Sort_int(blk off cap:Nat)(zs:List Int)(w:World)(hH:Holds (Value.int .i64) w blk off zs.toArray)(hblk:blk<w.heap.size)(hsz:zs.length<4611686018427387904) :
 Calls Tryz.prog 61 #[.slice (some ⟨blk,off,none⟩) zs.length cap] w fun e w' =>
  e = .returned (.tuple #[])∧∃n os,w'=grow (putRow (Value.int .i64) (Sort.ahead w n) blk off (zs.mergeSort fun x y=>decide (x≤y)).toArray) os:=Any.slices_Sort_int Tryz.lays189 blk off cap zs w hH hblk hsz
open Go.RowKit Go.Sort in
theorem Tryz.slices_Sort_int_none(p:Option Addr)(cap:Nat)(w:World) :
 Calls Tryz.prog 61 #[.slice p 0 cap] w fun e w'=>e = .returned (.tuple #[])∧w'=w:=Any.slices_Sort_int_none Tryz.lays189 p cap w
end Go.Proofs
namespace Go.Proofs.YtlhgnjmdopjpeaaGreatDoor
open Go Go.Ev
set_option maxRecDepth 100000
variable(l:List Int)
theorem xW:l.flatMap (ETy.enc .int)=l.map (PD.int .i64):=by
 induction l with
 |nil=>rfl
 |cons a l ih=>rw[bH,aq,ih];rfl
theorem Qs(H:Mem)(l:List Int):All2 (PR H) (l.map (PD.int .i64)) (l.map (Value.int .i64)):=by
 induction l with
 |nil=>exact .nil
 |cons a l ih=>exact .cons (PR.int .i64 a) ih
theorem Ca{H:Mem}:∀{l:List Int} {xs:List Value},All2 (PR H) (l.map (PD.int .i64)) xs→xs=l.map (Value.int .i64)
 |[],_,h=>by cases h;rfl
 | a :: l,_,h=>by
   cases h with
   | cons a1 h =>
     rw[Ca h,aq]
     cases a1;rfl
theorem Jr(d:List Int)(cur:Array Value)(h:d.length≤cur.size):(Sort.putCells (Value.int .i64) 0 d.toArray cur).toList.take d.length=d.map (Value.int .i64):=by
 refine List.ext_getElem? fun k=>?_
 rw[List.getElem?_take,List.getElem?_map]
 by_cases hk:k<d.length
 · rw[if_pos hk]
   simp only[Sort.putCells,Array.toList_mapIdx,List.getElem?_mapIdx,Array.getElem?_toList]
   rw[Array.getElem?_eq_getElem (by omega),bn,if_pos ⟨aP _,by simpa using hk⟩,List.getElem?_eq_getElem hk]
   simp[hk]
 ·rw[if_neg hk,List.getElem?_eq_none (by omega)];rfl
def dx:List Int:=l.mergeSort fun x y=>decide (x≤y)
theorem Mh{V:Vn}{vs:List Value}{i:Nat}(hv:All2 (SX.R V) [.c (.own i)] vs):vs=[V.ov i]:=by
 cases hv with
 | cons a1 hv =>
   cases hv
   have h:_=V.ov i:=a1
   rw[h]
theorem NB{Γ:Ctx}{T:TypeId}{l:List Int}{V:Vn}{w:World}(r:WOk Γ [.own T .int l] V w){g n cap:Nat}{cur:Array Value}(ho:V.ov 0 = .slice (some ⟨g,0,none⟩) n cap)
 (hg:w.heap[g]?=some (.cells cur T (0,0))) (hn:n≤cap) (hm:cap≤maxLen) (hc:cur.size=cap * 1) (hs:V.σ 0=g) (d l':List Int) (hd:d.length=n) (hl:d=l') (hln:l.length=n) (q:Nat) :
 WOk Γ [.own T .int l'] V (Sort.putRow (Value.int .i64) (Sort.ahead w q) g 0 d.toArray):=by
 subst hl
 have hblk:(Chunk.own T .int l).blk V 0=some g:=by show(V.ov 0).ownBlock=_;rw[ho];rfl
 refine WOk.rewrite r (i:=0) (c:=.own T .int l) rfl (.own T .int d) ⟨rfl,rfl,rfl,by simp[Sort.putRow,Sort.mapBlock,Sort.ahead]⟩ (fun b hb=>?_) rfl ?_
 · rw[hblk]at hb
   have:g≠b:=fun e=>hb (by rw[e])
   simp[Sort.putRow,Sort.mapBlock,Sort.ahead,Array.getElem?_modify,this]
 · refine⟨d.map (Value.int .i64),⟨by simp[ETy.size],.inr ⟨g,cap,Sort.putCells (Value.int .i64) 0 d.toArray cur,by rw[ho,hd],aP _,?_,by omega,hm,?_,?_⟩⟩,?_,fun b hb=>?_⟩
   ·simp[Sort.putRow,Sort.mapBlock,Sort.ahead,Array.getElem?_modify,hg,Sort.onCells]
   ·simp[Sort.putCells,hc,ETy.size]
   · have:=Jr d cur (by omega)
     simpa[ETy.size]using this
   ·rw[xW];exact Qs _ _
   · rw[ho]at hb
     rw[hs];simpa[Value.ownBlock]using hb
theorem Ml{T:TypeId}{l:List Int}{V:Vn}{w:World}(h:(Chunk.own T .int l).holds V w 0):(V.ov 0 = .slice none 0 0∧l=[]) ∨
 ∃g cap cur,V.ov 0 = .slice (some ⟨g,0,none⟩) l.length cap∧w.heap[g]?=some (.cells cur T (0,0))∧l.length≤cap∧cap≤maxLen∧cur.size=cap * 1∧V.σ 0=g∧Sort.Holds (Value.int .i64) w g 0 l.toArray:=by
 obtain⟨xs,⟨h1,h2⟩,h3,h4⟩:=h
 rw[xW]at h3
 have hx:=Ca h3
 rcases h2 with⟨e,e0⟩ |⟨g,cap,cur,e,_,hg,hn,hm,hc,ht⟩
 ·exact .inl ⟨e,fO.1 e0⟩
 · refine .inr ⟨g,cap,cur,e,hg,hn,hm,hc,h4 g (by rw[e];rfl),fun j hj=>?_⟩
   have hj':j<l.length:=by simpa using hj
   have hsz:(ETy.size .int)=1:=rfl
   have hk:cur.toList[j]?=some ((Value.int .i64) l[j]):=by
    have:(cur.toList.take (l.length * ETy.size .int))[j]?=(l.map (Value.int .i64))[j]?:=by rw[ht,hx]
    rw[List.getElem?_take,if_pos (by rw[hsz];omega),List.getElem?_map,List.getElem?_eq_getElem hj']at this
    exact this
   refine⟨?_,?_⟩
   · simp only[World.cell?,hg,aY]
     rw[←Array.getElem?_toList,hk]
     simp[hj']
   ·simp[World.frozen?,hg]
theorem Dd(h:l.length≤1000000):ag Tryz.prog 61 [.c (.own 0)] [.own 3 .int l] (.tup []) [.own 3 .int (dx l)]:=by
 intro w V vs hw hT hv
 rw[Mh hv]
 have hh:=hw.own 0 _ rfl
 rcases Ml hh with⟨e,e0⟩ |⟨g,cap,cur,e,hg,hn,hm,hc,hs,hH⟩
 · rw[e]
   refine(Tryz.slices_Sort_int_none none 0 w).mono fun e w' ⟨he,hw'⟩=>?_
   subst he;subst hw'
   subst e0
   exact⟨_,V,rfl,⟨[],rfl,.nil⟩,by rw[show dx []=[]from List.mergeSort_nil];exact hw⟩
 · rw[e]
   have hb:=(Array.getElem?_eq_some_iff.1 hg).1
   refine(Tryz.slices_Sort_int g 0 cap l w hH hb (by omega)).mono fun e1 w' ⟨he,q,os,hw'⟩=>?_
   rw[show(l.mergeSort fun x y=>decide (x≤y))=dx l from rfl]at hw'
   subst he;subst hw'
   refine⟨_,V,rfl,⟨[],rfl,.nil⟩,?_⟩
   have h1:=NB hw e hg hn hm hc hs (dx l) (dx l) (List.length_mergeSort l) rfl rfl q
   refine h1.kept ⟨rfl,rfl,rfl,?_,fun k hk _=>?_⟩
   · show _≤(_++_:Array Obj).size
     rw[fY];omega
   · show(_++_:Array Obj)[k]?=_
     rw[Array.getElem?_append_left hk]
def uH:Ent:=(61,fun
 |[.c (.own 0)],[.own 3 .int l]=>some (some (l.length≤1000000),.tup [],[.own 3 .int (dx l)])
 |_,_=>none)
theorem Iw:EntOk Tryz.prog uH:=entOk fun vs ck=>by
 unfold uH;dsimp only;split
 ·rename_i l;exact entS fun hp=>Dd l hp
 ·exact entN
theorem Ng{l:List Int}(h:l.Pairwise (·≤·)):dx l=l:=by
 unfold dx
 refine List.mergeSort_of_pairwise (h.imp fun{a b} hab=>?_)
 exact decide_eq_true hab
def kJ (ts : List Tran) (may : List Int) (i : Int) : Nat → Int → Int
  | 0, k => k
  | n + 1, k => if (decide (k ≥ 0) && decide (k < (ts.length : Int)) && gD ts k == i && !inB may k) = true then kJ ts may i n (k + 1) else k
def mS (ts : List Tran) (i k : Int) : Bool := decide (k ≥ 0) && decide (k < (ts.length : Int)) && gD ts k == i
theorem xU {a r : List Int} (hn : a.Nodup) (hr : r.Pairwise (· < ·)) (h : ∀ y, y ∈ a ↔ y ∈ r) : dx a = r := by
  have hp : (dx a).Perm a := List.mergeSort_perm _ _
  have hs : (dx a).Pairwise (fun x y => decide (x ≤ y) = true) := List.pairwise_mergeSort (fun x y z h1 h2 => by simp at *; omega) (fun x y => by simp; omega) a
  have hn2 : (dx a).Nodup := hp.nodup_iff.2 hn
  refine nO ?_ hr fun y => (hp.mem_iff).trans (h y)
  have := List.Pairwise.and hs hn2
  exact this.imp fun ⟨h1, h2⟩ => by
    have h1' := of_decide_eq_true h1
    have h2' : _ ≠ _ := h2
    omega
theorem sK {p : Int → Bool} : ∀ {m : List Int} {k : Int}, m.Pairwise (· < ·) → k ∈ m → p k = true → (∀ j ∈ m, j < k → p j = false) → m.find? p = some k
  | [], k, _, h, _, _ => by cases h
  | a :: m, k, hs, hk, hp, hl => by
    obtain ⟨h1, h2⟩ := List.pairwise_cons.1 hs
    rw [List.find?_cons]
    rcases List.mem_cons.1 hk with rfl | hk
    · rw [hp]
    · rw [hl a List.mem_cons_self (h1 k hk)]
      exact sK h2 hk hp fun j hj => hl j (List.mem_cons_of_mem _ hj)
def rF (ts : List Tran) : Prop := ∀ a b : Nat, a ≤ b → b < ts.length → (ETy.get .tran ts a).src ≤ (ETy.get .tran ts b).src
theorem Cj {c : Chart} (v : Valid c) : rF c.trans := by
  have hstep : ∀ k, k + 1 < c.trans.length → (ETy.get .tran c.trans k).src ≤ (ETy.get .tran c.trans (k + 1)).src := fun k hk => by
    have h0 := ((mo c (k + 1) _ _).1 (v.trans (k + 1) hk)).1
    unfold gn at h0
    have hl := (eP c).1 v.few
    rw [Bool.or_eq_false_iff, Bool.or_eq_false_iff] at h0
    have h1 := h0.1.2
    rw [cj (n := ((k + 1 : Nat) : Int) - 1) (by omega) (by omega), Bool.and_eq_false_iff] at h1
    rcases h1 with h1 | h1
    · have := of_decide_eq_false h1; omega
    · have := of_decide_eq_false h1
      rw [show (((k + 1 : Nat) : Int) - 1).toNat = k by omega] at this
      omega
  intro a b hab
  induction b with
  | zero => intro _; have : a = 0 := by omega
            subst this; exact Int.le_refl _
  | succ b ih =>
    intro hb
    by_cases e : a = b + 1
    · subst e; exact Int.le_refl _
    · exact Int.le_trans (ih (by omega) (by omega)) (hstep b hb)
theorem JM {ts : List Tran} (hs : rF ts) {may : List Int} (hinc : may.Pairwise (· < ·)) (hrg : ∀ k ∈ may, 0 ≤ k ∧ k < (ts.length : Int)) (i : Int) : ∀ (n k : Nat), ts.length - k < n → k ≤ ts.length → (∃ j, j < ts.length ∧ j ≤ k ∧ (ETy.get .tran ts j).src = i) → (∀ j : Nat, j < k → (j : Int) ∈ may → (ETy.get .tran ts j).src ≠ i) →
    may.find? (fun k => gD ts k == i) = if mS ts i (kJ ts may i n (k : Int)) = true then some (kJ ts may i n (k : Int)) else none := by
  intro n
  induction n with
  | zero => intro k h; omega
  | succ n ih =>
    intro k hn hk ⟨j0, hj0, hj1, hj2⟩ hlow
    have hsrc : ∀ m : Nat, gD ts (m : Int) = (ETy.get .tran ts m).src := fun m => by unfold gD; rw [Int.toNat_natCast]
    rw [kJ]
    by_cases hc : (decide ((k : Int) ≥ 0) && decide ((k : Int) < (ts.length : Int)) && gD ts (k : Int) == i && !inB may (k : Int)) = true
    · rw [if_pos hc]
      simp only [Bool.and_eq_true, decide_eq_true_eq, Bool.not_eq_true', beq_iff_eq] at hc
      have := ih (k + 1) (by omega) (by omega) ⟨j0, hj0, by omega, hj2⟩ (fun j hj hm => by
        by_cases e : j = k
        · subst e
          rw [(cQ _ _).2 hm] at hc; exact absurd hc.2 (by decide)
        · exact hlow j (by omega) hm)
      exact this
    · rw [if_neg hc]
      by_cases hh : mS ts i (k : Int) = true
      · rw [if_pos hh]
        have hm : inB may (k : Int) = true := by
          cases hb : inB may (k : Int)
          · exfalso
            apply hc
            unfold mS at hh
            rw [hh, hb]; rfl
          · rfl
        unfold mS at hh
        simp only [Bool.and_eq_true, decide_eq_true_eq, beq_iff_eq] at hh
        refine sK hinc ((cQ _ _).1 hm) (by simp [hh.2]) fun j hj hlt => ?_
        obtain ⟨q, rfl⟩ := Int.eq_ofNat_of_zero_le (hrg j hj).1
        have := hlow q (by omega) hj
        rw [hsrc]; simpa using this
      · rw [if_neg hh, List.find?_eq_none]
        intro j hj
        obtain ⟨q, rfl⟩ := Int.eq_ofNat_of_zero_le (hrg j hj).1
        have hql : q < ts.length := by have := (hrg _ hj).2; omega
        rw [hsrc]
        intro he
        have he' : (ETy.get .tran ts q).src = i := by simpa using he
        by_cases hqk : q < k
        · exact hlow q hqk hj he'
        · have hkl : k < ts.length := by omega
          have h1 := hs j0 k hj1 hkl
          have h2 := hs k q (by omega) hql
          apply hh
          unfold mS
          simp only [Bool.and_eq_true, decide_eq_true_eq, beq_iff_eq, hsrc]
          exact ⟨⟨by omega, by omega⟩, by omega⟩
theorem room_le {n b : Nat} (h : n ≤ 100000) (hb : b ≤ 1000) : room n b := ⟨Nat.le_trans (Nat.mul_le_mul h hb) (by decide), by unfold maxLen; omega⟩
theorem sH (ks : List Int) (B : Int → Bool) {k : Nat} (hk : k < ks.length) : (ks.take (k + 1)).filter B = (ks.take k).filter B ++ (if B (ETy.get .int ks k) = true then [ETy.get .int ks k] else []) := by
  rw [ETy.get_eq (t := .int) (List.getElem?_eq_getElem hk), List.take_succ_eq_append_getElem hk, List.filter_append]
  cases h : B ks[k] <;> simp [h]
end Go.Proofs.YtlhgnjmdopjpeaaGreatDoor
namespace Go.Ev
open Go.RowKit
def DQ(P:Program)(root:Code)(p:List Nat)(i:Nat)(st:ST):Option (Nat×TypeId×Value×Int×Int×Nat) :=
 match(opsOf (sub root p))[i]? with
 | some o=>match o.guard,o.dst,o.op with
   | none,some d,.makeSlice t l c=>match P.underlying t,lN (bu st none l),lN (bu st none c)with
     | some (.slice e),some L,some C=>match P.info? e with
       | some inf=>match inf.zero with
         |some z=>bif Nat.blt d st.n&&st.wf&&Nat.beq inf.size 1 then some (d,e,z,L,C,inf.bytes)else none
         |none=>none
       |none=>none
     |_,_,_=>none
   |_,_,_=>none
 |none=>none
theorem All2.replicate{α β:Type}{R:α→β→Prop}{a:List α}{b:β}(h:All2 R a [b]):∀n:Nat,All2 R ((List.replicate n a).flatMap id) (List.replicate n b)
 |0=>.nil
 | n+1=>by
   rw[fy,fy,bH]
   exact h.append (All2.replicate h n)
theorem oI(ty:ETy)(x:ty.den):∀n:Nat,(List.replicate n x).flatMap ty.enc=(List.replicate n (ty.enc x)).flatMap id
 |0=>rfl
 | n+1=>by
   rw[fy,fy,bH,bH,oI ty x n];rfl
section
variable{P:Program}{f:Go.Sy.Md}{root:Code}{Γ:Ctx}{Q:Out}{st:ST}{k:List PI}
theorem J.make{p:List Nat}{i d:Nat}{e:TypeId}{z:Value}{L C:Int}{by1:Nat}(ty:ETy)(x0:ty.den)(n:Nat)(h:DQ P root p i st=some (d,e,z,L,C,by1))(hs:ty.size=1)(hz1:z.cells=#[z])(hx:∀H,All2 (PR H) (ty.enc x0) [z])(hL:L=(n:Int))(hC:C=(n:Int))(hr:room n by1)
 (hk:J P f root Γ Q (.ops p (i+1)::k) {st with fr:=bJ d (.x (.c (.own st.ck.length))) st.fr,ck:=st.ck++[.own e ty (List.replicate n x0)]}):J P f root Γ Q (.ops p i::k) st:=by
 unfold DQ at h
 split at h
 · rename_i o ho
   split at h
   · rename_i d' t l c hg hd hop
     split at h
     · rename_i e' L' C' hu hl hc
       split at h
       · rename_i inf hi
         split at h
         · rename_i z' hz
           cases hb:(Nat.blt d' st.n&&st.wf&&Nat.beq inf.size 1)
           ·rw[hb]at h;cases h
           · rw [hb]at h
             simp only[cond_true,aa,ae]at h
             obtain⟨rfl,rfl,rfl,rfl,rfl,rfl⟩:=h
             simp only[af]at hb
             obtain⟨⟨hd',hwf⟩,hsz1⟩:=hb
             intro hT V a w r
             have hil:i<(opsOf (sub root p)).size:=(Array.getElem?_eq_some_iff.1 ho).1
             have hsz:(opsOf (sub root p)).size - i=((opsOf (sub root p)).size - (i+1))+1:=by omega
             simp only[aq,PI.den]
             rw[hsz,bI]
             have hw:Region.wanted o (yielded (opsOf (sub root p)) a.tmps)=true:=by simp only[Region.wanted,hg]
             obtain⟨kl,el⟩:=eM r (g:=none) trivial hl
             obtain⟨kc,ec⟩:=eM r (g:=none) trivial hc
             subst hL;subst hC
             have hbb:inf.bytes * n≤281474976710656:=by have:=hr.1;rw[Nat.mul_comm];omega
             obtain⟨w',hrun,hown,hgrow⟩:=run_make_full (P:=P) (w:=w) 0 t e' inf z' 1 hu hi hz (aj hsz1) kl kc n hbb hr.2 (aP _)
             rw[hz1,Nat.mul_one,toList_madeCells_one]at hown
             obtain⟨V',hag,hH,g1,g2,r'⟩:=r.grow hwf none (c:=.own e' ty (List.replicate n x0)) (v':=.slice (some ⟨w.heap.size,0,none⟩) n n) (s':=w.heap.size) (w':=w') (row:=none) (by simp) hgrow (fun V' hag hH f1 f2=>by
              refine⟨⟨List.replicate n z',by rw[f2,dS,hs];exact hown,by rw[oI];exact All2.replicate (hx _) n,fun b hb=>?_⟩,fun b hb=>.inr ?_⟩
              · rw[f2]at hb
                simp only[Value.ownBlock,aa]at hb
                rw[f1,hb]
              · simp only[Chunk.blk,f2,Value.ownBlock,aa]at hb
                omega)
             have hex:(execOp a.eval o).run P w = .ok (.value (.slice (some ⟨w.heap.size,0,none⟩) n n)) w':=by
              obtain⟨dst,op,ty',pos,after,guard⟩:=o
              simp only at hop
              subst hop
              simp only[execOp,el,ec]
              exact bg hrun
             refine Go.Sy.Fin.op_value ho hw hex ?_
             rw[hd]
             have hput:dY {st with ck:=cK none st.ck++[Chunk.own e' ty (List.replicate n x0)]} (some d') (.x (.c (.own st.ck.length)))=some {st with fr:=bJ d' (.x (.c (.own st.ck.length))) st.fr,ck:=cK none st.ck++[Chunk.own e' ty (List.replicate n x0)]}:=by simp only[dY,hd',cond_true]
             exact hk hT V' _ w' (di r' hput (v:=.slice (some ⟨w.heap.size,0,none⟩) n n) g2.symm)
         ·cases h
       ·cases h
     ·cases h
   ·cases h
 ·cases h
end
end Go.Ev
