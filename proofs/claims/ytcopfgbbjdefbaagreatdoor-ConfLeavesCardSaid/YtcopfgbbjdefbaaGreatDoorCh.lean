/- What a state begins with: the program's walk down and the document's words are alike (plain). Conditions: a valid chart. The library's contracts of the shelf, laid at this dump by the kit's tools. Conditions: each one's own. Contracts: slices.Sort on whole numbers. Conditions: sizes. Contracts: conf: small functions, what a state begins with. Conditions: sizes. -/
import Derived.Test.YtcopfgbbjdefbaaGreatDoorSg
import Derived.Test.YtcopfgbbjdefbaaGreatDoorVk
import Derived.Shelf.Lay
import Derived.Shelf.LaySoft
import Derived.Shelf.Strings.Trim
import Derived.Shelf.Small.Utf8
import Derived.Shelf.Small.Bits
import Derived.Shelf.Small.Strs
import Derived.Shelf.Utf8.RuneCount
import Derived.Shelf.Strconv.Itoa0
import Derived.Shelf.Strconv.Itoa1
import Derived.Shelf.LaysM
import Derived.Shelf.Strconv.Itoa2
import Derived.Shelf.Strconv.Itoa3
import Derived.Shelf.Strconv.Itoa4
import Derived.Shelf.Strconv.ParseIntEmpty
import Derived.Shelf.Strconv.Clone
import Derived.Shelf.Strconv.SyntaxError
import Derived.Shelf.LaysC
import Derived.Shelf.Strconv.ToError
import Derived.Shelf.Strconv.Lower
import Derived.Shelf.Strconv.ParseUint10
import Derived.Shelf.Strconv.ParseUint10Empty
import Derived.Shelf.Strconv.ParseUint10Any
import Derived.Shelf.Strconv.ParseInt10
import Derived.Shelf.Strconv.RangeError
import Derived.Shelf.Strconv.ToErrorRange
import Derived.Shelf.Strconv.ParseUintEmpty
import Derived.Shelf.Strconv.ParseUint10b64
import Derived.Shelf.Strconv.ParseUint10b32
import Derived.Shelf.Strconv.ParseUint10b16
import Derived.Shelf.Strconv.ParseUint10b8
import Derived.Shelf.Strconv.ParseUint10At
import Derived.Shelf.Strconv.ParseInt10At64
import Derived.Shelf.Strconv.ParseInt10At32
import Derived.Shelf.Strconv.ParseInt10At16
import Derived.Shelf.Strconv.ParseInt10At8
import Derived.Shelf.Strconv.ParseInt10All
import Derived.Shelf.Strconv.ParseIntPublic10
import Derived.Shelf.Strconv.ErrVarParseInt
import Derived.Shelf.Strings.Search1
import Derived.Shelf.Strings.Search2
import Derived.Shelf.Strings.Search3
import Derived.Shelf.Strings.Cut
import Derived.Shelf.Strings.Count
import Derived.Shelf.Strings.Shaped
import Derived.Shelf.Sort.Plain
import Derived.Shelf.Strings.Prefix
import Derived.Shelf.Strings.Split
import Derived.Shelf.Strings.SplitShaped
import Derived.Shelf.Unicode.Decode
import Derived.Shelf.Strings.Runes
import Derived.Shelf.Strings.RuneCount
import Derived.Shelf.Strings.IndexAny
import Derived.Shelf.Strings.AsciiSet
import Derived.Shelf.Strings.Explode
import Derived.Shelf.Unicode.DecodeSlow
import Derived.Shelf.Unicode.DecodeAny
import Derived.Shelf.Unicode.DecodeLast
import Derived.Shelf.Slices.Clone
import Derived.Shelf.Slices.CompactS
import Derived.Shelf.Slices.SearchI
import Derived.Shelf.Slices.Cells
import Derived.Shelf.Slices.In.SortNone
import Derived.Shelf.SlicesE.Clone
import Derived.Test.YtcopfgbbjdefbaaGreatDoorProg
import Derived.Test.YtcopfgbbjdefbaaGreatDoorTj
import Derived.Test.YtcopfgbbjdefbaaGreatDoorFc
import Derived.Test.YtcopfgbbjdefbaaGreatDoorTq
namespace Go.Proofs.YtcopfgbbjdefbaaGreatDoor
open Go Go.Ev
set_option maxRecDepth 100000
abbrev knd (l:List Ev.Stat) (k:Nat):Int:=(ETy.get .stat l k).kind
def dI (l:List Ev.Stat):Nat→Nat→List Int
 | 0,_=>[]
 | n+1,k=>(k:Int)::(if ((ETy.get .stat l k).kind==2)=true then dI l n (aP l (ETy.get .stat l k).initial).toNat else if ((ETy.get .stat l k).kind==3)=true then (bg l k).flatMap (fun y=>dI l n y.toNat) else [])
def dV (l:List Ev.Stat) (i:Nat):List Int:=dI l (l.length+1) i
def vA (l:List Ev.Stat) (p j:Nat):Prop:=upM l j=(p:Int)∧(knd l p=3∨(knd l p=2∧(ETy.get .stat l p).initial=(ETy.get .stat l j).name))
structure Tre (l:List Ev.Stat):Prop where
 right:bZ l=true
 names:(l.map fun s:Ev.Stat=>s.name).Nodup
 inits:∀ k,k<l.length→dp l k=0
theorem Valid.tre {c:Chart} (v:Valid c):Tre c.states:=⟨v.tree,v.states,v.inits⟩
variable {l:List Ev.Stat}
theorem Tre.shp (t:Tre l):Shp l:=ix t.right
theorem Tre.init (t:Tre l) {k:Nat} (hk:k<l.length) (h2:knd l k=2):∃ q:Nat,aP l (ETy.get .stat l k).initial=(q:Int)∧q<l.length∧upM l q=(k:Int)∧(ETy.get .stat l q).name=(ETy.get .stat l k).initial∧a8 (knd l q)=false:=by
 have h0:=t.inits k hk
 unfold dp at h0
 have h2':(ETy.get .stat l k).kind=2:=h2
 rw [h2',if_neg (by decide)] at h0
 rcases mW l (ETy.get .stat l k).initial with ⟨e,_⟩ | ⟨q,e,hq,hn⟩
 · rw [e] at h0
   rw [show decide ((-1:Int)<0)=true by decide,b6,if_pos rfl] at h0
   exact absurd h0 (by decide)
 · rw [e,ai] at h0
   rw [decide_eq_false (by omega),a6] at h0
   cases hp:a8 (ETy.get .stat l q).kind
   · rw [hp,if_neg (by decide),if_pos (by decide),jL (by decide),j1 t.right hq,gQ t.shp hq] at h0
     exact ⟨q,e,hq,eq_of_beq h0,hn,hp⟩
   · rw [hp,if_pos rfl] at h0
     exact absurd h0 (by decide)
theorem sF (h:bZ l=true) {k:Nat} (hk:k<l.length):qo l k=true:=by
 unfold bZ at h
 rw [af] at h
 exact (pY l l.length 0 (by omega)).1 h.2 k (aT _) hk
theorem Tre.both (t:Tre l) {k m:Nat} (hm:m<l.length) (hu:upM l m=(k:Int)):knd l k=2∨(knd l k=3∧knd l m≤3):=by
 have hk:k<m:=((fv t.shp hm).1 hu).1
 exact ((jl t.shp (by omega)).1 (sF t.right (by omega))).1 m hm hu
theorem qc (l:List Ev.Stat) {k q:Nat} (hk:k<l.length) (h1:k<q) (h2:q<endM l k):endM l q≤endM l k:=by
 have h3:=dY l hk
 have h4:=dY l (i:=q) (by omega)
 by_cases h:endM l q≤endM l k
 · exact h
 · have h5:=fV l q (endM l k) h2 (by omega)
   have h6:=fV l k q h1 h2
   have h7:=yd l k (by omega)
   omega
theorem cD (t:Tre l) {k:Nat} (hk:k<l.length) {y:Int} (hy:y∈bg l k):∃ m:Nat,y=(m:Int)∧m<l.length∧k<m∧m<endM l k∧upM l m=(k:Int):=by
 obtain ⟨m,e,hm,hu⟩:=(ic t.shp hk y).1 hy
 have:=(fv t.shp hm).1 hu
 exact ⟨m,e,hm,this.1,this.2.1,hu⟩
theorem lV (l:List Ev.Stat) (e:Nat):∀ n k,e≤l.length→(dD l e n k).Pairwise (fun x y=>((endM l x.toNat:Nat):Int)≤y)∧∀ y∈dD l e n k,(k:Int)≤y
 | 0,_,_=>by rw [dD]; exact ⟨.nil,fun y h=>(by cases h)⟩
 | n + 1,k,he=>by
   rw [dD]
   by_cases hk:k<e
   · rw [if_pos hk]
     have ih:=lV l e n (endM l k) he
     have h1:=dY l (i:=k) (by omega)
     refine ⟨cO.2 ⟨fun y hy=>by rw [ai]; exact ih.2 y hy,ih.1⟩,fun y hy=>?_⟩
     rcases aH.1 hy with rfl | hy
     · omega
     · have:=ih.2 y hy; omega
   · rw [if_neg hk]; exact ⟨.nil,fun y h=>(by cases h)⟩
theorem gd {l:List Ev.Stat} (t:Tre l):∀ (n k:Nat),k<l.length→(dI l n k).Pairwise (· < ·)∧∀ y∈dI l n k,(k:Int)≤y∧y<((endM l k:Nat):Int)
 | 0,k,_=>by rw [dI]; exact ⟨.nil,fun y h=>(by cases h)⟩
 | n + 1,k,hk=>by
   have he:=dY l hk
   rw [dI]
   have key:∀ r:List Int,r.Pairwise (· < ·)→(∀ y∈r,(k:Int)<y∧y<((endM l k:Nat):Int))→((k:Int)::r).Pairwise (· < ·)∧∀ y∈(k:Int)::r,(k:Int)≤y∧y<((endM l k:Nat):Int):=fun r h1 h2 =>
    ⟨cO.2 ⟨fun y hy=>(h2 y hy).1,h1⟩,fun y hy=>by
     rcases aH.1 hy with rfl | hy
     · omega
     · have:=h2 y hy; omega⟩
   by_cases h2:knd l k=2
   · rw [if_pos (by simpa using h2)]
     obtain ⟨q,e,hq,hu,_,_⟩:=t.init hk h2
     rw [e,ai]
     have ih:=gd t n q hq
     have hb:=(fv t.shp hq).1 hu
     have hm:=qc l hk hb.1 hb.2.1
     refine key _ ih.1 fun y hy=>?_
     have:=ih.2 y hy
     omega
   · rw [if_neg (by simpa using h2)]
     by_cases h3:knd l k=3
     · rw [if_pos (by simpa using h3)]
       refine key _ ?_ fun y hy=>?_
       · rw [List.pairwise_flatMap]
         refine ⟨fun a ha=>?_,?_⟩
         · obtain ⟨m,rfl,hm,_⟩:=cD t hk ha
           rw [ai]; exact (gd t n m hm).1
         · have hs:=(lV l (endM l k) l.length (k+1) he.2).1
           refine List.Pairwise.imp_of_mem (fun {a b} ha hb hab x hx y hy=>?_) hs
           obtain ⟨m,rfl,hm,_⟩:=cD t hk ha
           obtain ⟨m2,rfl,hm2,_⟩:=cD t hk hb
           rw [ai] at hx hy hab
           have h5:=(gd t n m hm).2 x hx
           have h6:=(gd t n m2 hm2).2 y hy
           omega
       · obtain ⟨a,ha,hy⟩:=aK.1 hy
         obtain ⟨m,rfl,hm,h5,h6,_⟩:=cD t hk ha
         rw [ai] at hy
         have h7:=(gd t n m hm).2 y hy
         have h8:=qc l hk h5 h6
         omega
     · rw [if_neg (by simpa using h3)]
       exact key [] .nil fun y h=>(by cases h)
inductive Begun (l:List Ev.Stat) (i:Nat):Nat→Prop where
 | self:Begun l i i
 | step {p j:Nat}:Begun l i p→j<l.length→vA l p j→Begun l i j
theorem Begun.lt (t:Tre l) {i j:Nat} (hi:i<l.length) (h:Begun l i j):j<l.length∧i≤j:=by
 induction h with
 | self=>exact ⟨hi,ar _⟩
 | step h1 h2 h3 ih=>exact ⟨h2,by have:=((fv t.shp h2).1 h3.1).1; omega⟩
theorem Begun.head {i q j:Nat} (hq:q<l.length) (h:vA l i q) (hb:Begun l q j):Begun l i j:=by
 induction hb with
 | self=>exact .step .self hq h
 | step _ h2 h3 ih=>exact .step ih h2 h3
theorem ni {l:List Ev.Stat} (t:Tre l):∀ (n k:Nat) (y:Int),k<l.length→y∈dI l n k→∃ j:Nat,y=(j:Int)∧Begun l k j
 | 0,_,_,_,h=>by rw [dI] at h; cases h
 | n + 1,k,y,hk,h=>by
   rw [dI] at h
   rcases aH.1 h with rfl | h
   · exact ⟨k,rfl,.self⟩
   · by_cases h2:knd l k=2
     · rw [if_pos (by simpa using h2)] at h
       obtain ⟨q,e,hq,hu,hn,_⟩:=t.init hk h2
       rw [e,ai] at h
       obtain ⟨j,e2,hb⟩:=ni t n q y hq h
       exact ⟨j,e2,hb.head hq ⟨hu,.inr ⟨h2,hn.symm⟩⟩⟩
     · rw [if_neg (by simpa using h2)] at h
       by_cases h3:knd l k=3
       · rw [if_pos (by simpa using h3)] at h
         obtain ⟨a,ha,hy⟩:=aK.1 h
         obtain ⟨m,rfl,hm,_,_,hu⟩:=cD t hk ha
         rw [ai] at hy
         obtain ⟨j,e2,hb⟩:=ni t n m y hm hy
         exact ⟨j,e2,hb.head hm ⟨hu,.inl h3⟩⟩
       · rw [if_neg (by simpa using h3)] at h
         cases h
theorem rA {l:List Ev.Stat} (t:Tre l):∀ (n k:Nat),k<l.length→l.length - k<n→∀ {p j:Nat},(p:Int)∈dI l n k→j<l.length→vA l p j→(j:Int)∈dI l n k
 | 0,_,_,h,_,_,_,_,_=>by omega
 | n + 1,k,hk,hn,p,j,hp,hj,hl=>by
   rw [dI] at hp ⊢
   have hpj:=((fv t.shp hj).1 hl.1).1
   refine aH.2 (.inr ?_)
   have step:∀ q,q<l.length→vA l k q→(j=q∨((p:Int)∈dI l n q))→(j:Int)∈dI l n q:=fun q hq hlq h=>by
    have hkq:=((fv t.shp hq).1 hlq.1).1
    rcases h with rfl | h
    · obtain ⟨n',rfl⟩:∃ n',n=n'+1:=⟨n - 1,by omega⟩
      rw [dI]; exact az
    · exact rA t n q hq (by omega) h hj hl
   by_cases h2:knd l k=2
   · rw [if_pos (by simpa using h2)] at hp ⊢
     obtain ⟨q,e,hq,hu,hnm,_⟩:=t.init hk h2
     rw [e,ai] at hp ⊢
     refine step q hq ⟨hu,.inr ⟨h2,hnm.symm⟩⟩ ?_
     rcases aH.1 hp with hpk | hp
     · have:p=k:=by omega
       subst this
       rcases hl.2 with h3 | ⟨_,h4⟩
       · rw [h2] at h3; exact absurd h3 (by decide)
       · exact .inl (xS t.names hj hq (by rw [hnm]; exact h4.symm))
     · exact .inr hp
   · rw [if_neg (by simpa using h2)] at hp ⊢
     by_cases h3:knd l k=3
     · rw [if_pos (by simpa using h3)] at hp ⊢
       rcases aH.1 hp with hpk | hp
       · have:p=k:=by omega
         subst this
         refine aK.2 ⟨(j:Int),(ic t.shp hk _).2 ⟨j,rfl,hj,hl.1⟩,?_⟩
         rw [ai]
         exact step j hj hl (.inl rfl)
       · obtain ⟨a,ha,hy⟩:=aK.1 hp
         obtain ⟨m,rfl,hm,_,_,hu⟩:=cD t hk ha
         rw [ai] at hy
         refine aK.2 ⟨(m:Int),ha,?_⟩
         rw [ai]
         exact step m hm ⟨hu,.inl h3⟩ (.inr hy)
     · rw [if_neg (by simpa using h3)] at hp
       rcases aH.1 hp with hpk | hp
       · have:p=k:=by omega
         subst this
         rcases hl.2 with h | h
         · exact absurd h h3
         · exact absurd h.1 h2
       · cases hp
theorem w9 (t:Tre l) {i:Nat} (hi:i<l.length) (y:Int):y∈dV l i↔∃ j:Nat,y=(j:Int)∧Begun l i j:=by
 refine ⟨ni t _ i y hi,?_⟩
 rintro ⟨j,rfl,h⟩
 unfold dV
 induction h with
 | self=>rw [dI]; exact az
 | step h1 h2 h3 ih=>exact rA t _ i hi (by omega) ih h2 h3
theorem nC:∀ {a b:List Int},a.Pairwise (· < ·)→b.Pairwise (· < ·)→(∀ y,y∈a↔y∈b)→a=b
 | [],[],_,_,_=>rfl
 | [],y::b,_,_,h=>by have:=(h y).2 az; cases this
 | x::a,[],_,_,h=>by have:=(h x).1 az; cases this
 | x :: a,y::b,ha,hb,h=>by
   rw [cO] at ha hb
   have e:x=y:=by
    rcases aH.1 ((h x).1 az) with h1 | h1
    · exact h1
    · rcases aH.1 ((h y).2 az) with h2 | h2
      · exact h2.symm
      · have:=hb.1 x h1; have:=ha.1 y h2; omega
   subst e
   rw [nC ha.2 hb.2 fun z=>⟨fun hz=>?_,fun hz=>?_⟩]
   · rcases aH.1 ((h z).1 (aJ _ hz)) with rfl | h2
     · have:=ha.1 z hz; omega
     · exact h2
   · rcases aH.1 ((h z).2 (aJ _ hz)) with rfl | h2
     · have:=hb.1 z hz; omega
     · exact h2
theorem kW (n:Nat) (p:Nat→Bool):(((List.range n).filter p).map fun j:Nat=>(j:Int)).Pairwise (· < ·):=by
 rw [List.pairwise_map]
 exact (List.pairwise_lt_range.filter p).imp fun h=>by omega
end Go.Proofs.YtcopfgbbjdefbaaGreatDoor
namespace Go.Proofs
open Go.Shelf
def Tryz.lays189_ren:Go.Shelf.Ren:=⟨fun | 189=>51 | 125=>109 | 257=>108 | 128=>160 | 129=>161 | 294=>151 | 295=>152 | 296=>153 | 297=>154 | 298=>155 | 299=>156 | 216=>157 | 300=>158 | 301=>159 | 328=>189 | 329=>190 | 330=>191 | 331=>192 | 332=>193 | 215=>194 | 343=>242 | n=>n,fun | 28=>29 | 3=>3 | 46=>112 | 0=>0 | 51=>168 | 53=>170 | 4=>4 | 183=>160 | 182=>159 | 131=>165 | 5=>5 | 9=>9 | 218=>202 | 222=>206 | 228=>239 | 229=>58 | n=>n,fun | n=>n⟩
theorem Tryz.lays189:Go.Proofs.Lays.n189 Tryz.prog Tryz.lays189_ren:={
 mixed:=by kernel_rfl
 f125:=Tryz.func109.trans (congrArg some (by kernel_rfl))
 f128:=Tryz.func160.trans (congrArg some (by kernel_rfl))
 f129:=Tryz.func161.trans (congrArg some (by kernel_rfl))
 f189:=Tryz.func51.trans (congrArg some (by kernel_rfl))
 f215:=Tryz.func194.trans (congrArg some (by kernel_rfl))
 f216:=Tryz.func157.trans (congrArg some (by kernel_rfl))
 f257:=Tryz.func108.trans (congrArg some (by kernel_rfl))
 f294:=Tryz.func151.trans (congrArg some (by kernel_rfl))
 f295:=Tryz.func152.trans (congrArg some (by kernel_rfl))
 f296:=Tryz.func153.trans (congrArg some (by kernel_rfl))
 f297:=Tryz.func154.trans (congrArg some (by kernel_rfl))
 f298:=Tryz.func155.trans (congrArg some (by kernel_rfl))
 f299:=Tryz.func156.trans (congrArg some (by kernel_rfl))
 f300:=Tryz.func158.trans (congrArg some (by kernel_rfl))
 f301:=Tryz.func159.trans (congrArg some (by kernel_rfl))
 f328:=Tryz.func189.trans (congrArg some (by kernel_rfl))
 f329:=Tryz.func190.trans (congrArg some (by kernel_rfl))
 f330:=Tryz.func191.trans (congrArg some (by kernel_rfl))
 f331:=Tryz.func192.trans (congrArg some (by kernel_rfl))
 f332:=Tryz.func193.trans (congrArg some (by kernel_rfl))
 f343:=Tryz.func242.trans (congrArg some (by kernel_rfl))
 t0:=Tryz.underlying0
 a0:=Tryz.isAgg0
 z0:=Tryz.sizeOf0
 v0:=Tryz.zeroValue0
 t3:=Tryz.underlying3
 a3:=Tryz.isAgg3
 z3:=Tryz.sizeOf3
 v3:=Tryz.zeroValue3
 t4:=Tryz.underlying4
 a4:=Tryz.isAgg4
 z4:=Tryz.sizeOf4
 v4:=Tryz.zeroValue4
 t5:=Tryz.underlying5
 a5:=Tryz.isAgg5
 z5:=Tryz.sizeOf5
 v5:=Tryz.zeroValue5
 t9:=Tryz.underlying9
 a9:=Tryz.isAgg9
 z9:=Tryz.sizeOf9
 v9:=Tryz.zeroValue9
 t28:=Tryz.underlying29
 a28:=Tryz.isAgg29
 z28:=Tryz.sizeOf29
 v28:=Tryz.zeroValue29
 t46:=Tryz.underlying112
 a46:=Tryz.isAgg112
 z46:=Tryz.sizeOf112
 v46:=Tryz.zeroValue112
 t51:=Tryz.underlying168
 a51:=Tryz.isAgg168
 z51:=Tryz.sizeOf168
 v51:=Tryz.zeroValue168
 t53:=Tryz.underlying170
 a53:=Tryz.isAgg170
 z53:=Tryz.sizeOf170
 v53:=Tryz.zeroValue170
 t131:=Tryz.underlying165
 a131:=Tryz.isAgg165
 z131:=Tryz.sizeOf165
 v131:=Tryz.zeroValue165
 t182:=Tryz.underlying159
 a182:=Tryz.isAgg159
 z182:=Tryz.sizeOf159
 v182:=Tryz.zeroValue159
 t183:=Tryz.underlying160
 a183:=Tryz.isAgg160
 z183:=Tryz.sizeOf160
 v183:=Tryz.zeroValue160
 t218:=Tryz.underlying202
 a218:=Tryz.isAgg202
 z218:=Tryz.sizeOf202
 v218:=Tryz.zeroValue202
 t222:=Tryz.underlying206
 a222:=Tryz.isAgg206
 z222:=Tryz.sizeOf206
 v222:=Tryz.zeroValue206
 t228:=Tryz.underlying239
 a228:=Tryz.isAgg239
 z228:=Tryz.sizeOf239
 v228:=Tryz.zeroValue239
 t229:=Tryz.underlying58
 a229:=Tryz.isAgg58
 z229:=Tryz.sizeOf58
 v229:=Tryz.zeroValue58 }
open Go.Sort Go.RowKit in
theorem Tryz.slices_Sort_int (blk off cap:Nat) (zs:List Int) (w:World) (hH:Holds (Value.int .i64) w blk off zs.toArray) (hblk:blk<w.heap.size) (hsz:zs.length<4611686018427387904) :
 Calls Tryz.prog 51 #[.slice (some ⟨blk,off,none⟩) zs.length cap] w fun e w' =>
  e = .returned (.tuple #[])∧∃ n os,w'=grow (putRow (Value.int .i64) (Sort.ahead w n) blk off (zs.mergeSort fun x y=>decide (x≤y)).toArray) os:=Any.slices_Sort_int Tryz.lays189 blk off cap zs w hH hblk hsz
open Go.RowKit Go.Sort in
theorem Tryz.slices_Sort_int_none (p:Option Addr) (cap:Nat) (w:World) :
 Calls Tryz.prog 51 #[.slice p 0 cap] w fun e w'=>e = .returned (.tuple #[])∧w'=w:=Any.slices_Sort_int_none Tryz.lays189 p cap w
end Go.Proofs
namespace Go.Proofs.YtcopfgbbjdefbaaGreatDoor
open Go Go.Ev
set_option maxRecDepth 100000
variable (l:List Int)
theorem ud:l.flatMap (ETy.enc .int)=l.map (PD.int .i64):=by
 induction l with
 | nil=>rfl
 | cons a l ih=>rw [bp,ax,ih]; rfl
theorem JF (H:Mem) (l:List Int):All2 (PR H) (l.map (PD.int .i64)) (l.map (Value.int .i64)):=by
 induction l with
 | nil=>exact .nil
 | cons a l ih=>exact .cons (PR.int .i64 a) ih
theorem wV {H:Mem}:∀ {l:List Int} {xs:List Value},All2 (PR H) (l.map (PD.int .i64)) xs→xs=l.map (Value.int .i64)
 | [],_,h=>by cases h; rfl
 | a :: l,_,h=>by
   cases h with
   | cons a1 h =>
     rw [wV h,ax]
     cases a1; rfl
theorem DX (d:List Int) (cur:Array Value) (h:d.length≤cur.size):(Sort.putCells (Value.int .i64) 0 d.toArray cur).toList.take d.length=d.map (Value.int .i64):=by
 refine List.ext_getElem? fun k=>?_
 rw [List.getElem?_take,List.getElem?_map]
 by_cases hk:k<d.length
 · rw [if_pos hk]
   simp only [Sort.putCells,Array.toList_mapIdx,List.getElem?_mapIdx,Array.getElem?_toList]
   rw [Array.getElem?_eq_getElem (by omega),bC,if_pos ⟨aT _,by simpa using hk⟩,List.getElem?_eq_getElem hk]
   simp [hk]
 · rw [if_neg hk,List.getElem?_eq_none (by omega)]; rfl
def jy:List Int:=l.mergeSort fun x y=>decide (x≤y)
theorem IJ {V:Vn} {vs:List Value} {i:Nat} (hv:All2 (SX.R V) [.c (.own i)] vs):vs=[V.ov i]:=by
 cases hv with
 | cons a1 hv =>
   cases hv
   have h:_=V.ov i:=a1
   rw [h]
theorem Ib {Γ:Ctx} {T:TypeId} {l:List Int} {V:Vn} {w:World} (r:WOk Γ [.own T .int l] V w) {g n cap:Nat} {cur:Array Value} (ho:V.ov 0 = .slice (some ⟨g,0,none⟩) n cap)
 (hg:w.heap[g]?=some (.cells cur T (0,0))) (hn:n≤cap) (hm:cap≤maxLen) (hc:cur.size=cap * 1) (hs:V.σ 0=g) (d l':List Int) (hd:d.length=n) (hl:d=l') (hln:l.length=n) (q:Nat) :
 WOk Γ [.own T .int l'] V (Sort.putRow (Value.int .i64) (Sort.ahead w q) g 0 d.toArray):=by
 subst hl
 have hblk:(Chunk.own T .int l).blk V 0=some g:=by show (V.ov 0).ownBlock=_; rw [ho]; rfl
 refine WOk.rewrite r (i:=0) (c:=.own T .int l) rfl (.own T .int d) ⟨rfl,rfl,rfl,by simp [Sort.putRow,Sort.mapBlock,Sort.ahead]⟩ (fun b hb=>?_) rfl ?_
 · rw [hblk] at hb
   have:g≠b:=fun e=>hb (by rw [e])
   simp [Sort.putRow,Sort.mapBlock,Sort.ahead,Array.getElem?_modify,this]
 · refine ⟨d.map (Value.int .i64),⟨by simp [ETy.size],.inr ⟨g,cap,Sort.putCells (Value.int .i64) 0 d.toArray cur,by rw [ho,hd],aT _,?_,by omega,hm,?_,?_⟩⟩,?_,fun b hb=>?_⟩
   · simp [Sort.putRow,Sort.mapBlock,Sort.ahead,Array.getElem?_modify,hg,Sort.onCells]
   · simp [Sort.putCells,hc,ETy.size]
   · have:=DX d cur (by omega)
     simpa [ETy.size] using this
   · rw [ud]; exact JF _ _
   · rw [ho] at hb
     rw [hs]; simpa [Value.ownBlock] using hb
theorem Gz {T:TypeId} {l:List Int} {V:Vn} {w:World} (h:(Chunk.own T .int l).holds V w 0):(V.ov 0 = .slice none 0 0∧l=[]) ∨
 ∃ g cap cur,V.ov 0 = .slice (some ⟨g,0,none⟩) l.length cap∧w.heap[g]?=some (.cells cur T (0,0))∧l.length≤cap∧cap≤maxLen∧cur.size=cap * 1∧V.σ 0=g∧Sort.Holds (Value.int .i64) w g 0 l.toArray:=by
 obtain ⟨xs,⟨h1,h2⟩,h3,h4⟩:=h
 rw [ud] at h3
 have hx:=wV h3
 rcases h2 with ⟨e,e0⟩ | ⟨g,cap,cur,e,_,hg,hn,hm,hc,ht⟩
 · exact .inl ⟨e,eM.1 e0⟩
 · refine .inr ⟨g,cap,cur,e,hg,hn,hm,hc,h4 g (by rw [e]; rfl),fun j hj=>?_⟩
   have hj':j<l.length:=by simpa using hj
   have hsz:(ETy.size .int)=1:=rfl
   have hk:cur.toList[j]?=some ((Value.int .i64) l[j]):=by
    have:(cur.toList.take (l.length * ETy.size .int))[j]?=(l.map (Value.int .i64))[j]?:=by rw [ht,hx]
    rw [List.getElem?_take,if_pos (by rw [hsz]; omega),List.getElem?_map,List.getElem?_eq_getElem hj'] at this
    exact this
   refine ⟨?_,?_⟩
   · simp only [World.cell?,hg,a7]
     rw [← Array.getElem?_toList,hk]
     simp [hj']
   · simp [World.frozen?,hg]
theorem yM (h:l.length≤1000000):ah Tryz.prog 51 [.c (.own 0)] [.own 3 .int l] (.tup []) [.own 3 .int (jy l)]:=by
 intro w V vs hw hT hv
 rw [IJ hv]
 have hh:=hw.own 0 _ rfl
 rcases Gz hh with ⟨e,e0⟩ | ⟨g,cap,cur,e,hg,hn,hm,hc,hs,hH⟩
 · rw [e]
   refine (Tryz.slices_Sort_int_none none 0 w).mono fun e w' ⟨he,hw'⟩=>?_
   subst he; subst hw'
   subst e0
   exact ⟨_,V,rfl,⟨[],rfl,.nil⟩,by rw [show jy []=[] from List.mergeSort_nil]; exact hw⟩
 · rw [e]
   have hb:=(Array.getElem?_eq_some_iff.1 hg).1
   refine (Tryz.slices_Sort_int g 0 cap l w hH hb (by omega)).mono fun e1 w' ⟨he,q,os,hw'⟩=>?_
   rw [show (l.mergeSort fun x y=>decide (x≤y))=jy l from rfl] at hw'
   subst he; subst hw'
   refine ⟨_,V,rfl,⟨[],rfl,.nil⟩,?_⟩
   have h1:=Ib hw e hg hn hm hc hs (jy l) (jy l) (List.length_mergeSort l) rfl rfl q
   refine h1.kept ⟨rfl,rfl,rfl,?_,fun k hk _=>?_⟩
   · show _≤(_++_:Array Obj).size
     rw [eX]; omega
   · show (_++_:Array Obj)[k]?=_
     rw [Array.getElem?_append_left hk]
def rm:Ent:=(51,fun
 | [.c (.own 0)],[.own 3 .int l]=>some (some (l.length≤1000000),.tup [],[.own 3 .int (jy l)])
 | _,_=>none)
theorem FK:EntOk Tryz.prog rm:=entOk fun vs ck=>by
 unfold rm; dsimp only; split
 · rename_i l; exact entS fun hp=>yM l hp
 · exact entN
theorem Gf {l:List Int} (h:l.Pairwise (·≤·)):jy l=l:=by
 unfold jy
 refine List.mergeSort_of_pairwise (h.imp fun {a b} hab=>?_)
 exact decide_eq_true hab
end Go.Proofs.YtcopfgbbjdefbaaGreatDoor
namespace Go.Proofs.YtcopfgbbjdefbaaGreatDoor
open Go Go.Ev
set_option maxRecDepth 100000
variable (c a:Chart) (k:Int) {l:List Ev.Stat}
theorem BY:ah Tryz.prog 39 [.i k] [] (.x (.b (a8 k))) []:=by
 refine dg aV Tryz.func39 (.ret (.p (.bool (k==(5:Int)||k==(6:Int)))) []) fun Γ=>?_
 exact ⟨rfl,rfl⟩
def n7:Ent:=(39,fun
 | [.c (.pd (.int .i64 k))],[]=>some (none,.x (.c (.pd (.bool (a8 k)))),[])
 | _,_=>none)
theorem tM:EntOk Tryz.prog n7:=entOk fun vs ck=>by
 unfold n7; dsimp only; split
 · rename_i k; exact entS fun hp=>BY k
 · exact entN
def FF:Cfg:=⟨aX,[rI]⟩
theorem D3:ag Tryz.prog FF.tab:=(ag.cons D6 ag.nil)
theorem yy (h:c.vars.length≤2199023255552∧c.states.length≤2199023255552):ah Tryz.prog 31 [.e .chart c] [] (.x (.b (bj c==0))) []:=by
 refine dg D3 Tryz.func31 (.need (c.vars.length≤2199023255552∧c.states.length≤2199023255552) (.ret (.p (.bool (bj c==(0:Int)))) [])) fun Γ=>?_
 exact ⟨h,rfl,rfl⟩
def me:Ent:=(31,fun
 | [.agg [.pd (.str a),.pd (.lst .str b),.pd (.lst .var c),.pd (.lst .stat d),.pd (.lst .tran e)]],[]=>some (some (c.length≤2199023255552∧d.length≤2199023255552),.x (.c (.pd (.bool (bj ⟨a,b,c,d,e⟩==0)))),[])
 | _,_=>none)
theorem qL:EntOk Tryz.prog me:=entOk fun vs ck=>by
 unfold me; dsimp only; split
 · rename_i a b c d e; exact entS fun hp=>yy ⟨a,b,c,d,e⟩ hp
 · exact entN
/-! ### down -/
def dwM (l:List Ev.Stat) (k:Nat):List Int:=dI l (l.length+1) k
def qb (out:List Int):Prop:=ah Tryz.prog 48 [.i k,.c (.loc 0 0),.c (.pd (.ref .chart c 0)),.c (.loc 1 0)] [.cells [.own 2] 29,Chunk.cells [SC.fn (Fn.func 48) [] [RC.loc 0 0,RC.pd (PD.ref ETy.chart c 0),RC.loc 1 0]] 76,.own 3 .int out] (.tup []) [.cells [.own 3] 29,Chunk.cells [SC.fn (Fn.func 48) [] [RC.loc 0 0,RC.pd (PD.ref ETy.chart c 0),RC.loc 1 0]] 76,.dead,.own 3 .int (out++dwM c.states k.toNat),.dead]
def eDn:Ent:=(48,fun
 | [.c (.pd (.int .i64 k)),.c (.loc 0 0),.c (.pd (.ref .chart c 0)),.c (.loc 1 0)],[.cells [.own 2] a,.cells [.fn (.func 48) [] [.loc 0 0,.pd (.ref .chart d 0),.loc 1 0]] b,.own 3 .int out]=>some (some (a=29∧b=76∧d=c∧qb c k out),.tup [],[.cells [.own 3] 29,.cells [.fn (.func 48) [] [.loc 0 0,.pd (.ref .chart c 0),.loc 1 0]] 76,.dead,.own 3 .int (out++dwM c.states k.toNat),.dead])
 | _,_=>none)
theorem FE:EntOk Tryz.prog eDn:=entOk fun vs ck=>by
 unfold eDn; dsimp only; split
 · rename_i k c a d b out; exact entS fun hp=>by obtain ⟨rfl,rfl,rfl,h⟩:=hp; exact h
 · exact entN
def xj:Cfg:=⟨aX,[ku,mo,eDn]⟩
theorem tT:ag Tryz.prog xj.tab:=(ag.cons lz (ag.cons oN (ag.cons FE ag.nil)))
theorem mD {α β:Type} {f g:α→List β}:∀ {l:List α},(∀ x∈l,f x=g x)→l.flatMap f=l.flatMap g
 | [],_=>rfl
 | a::r,h=>by rw [bp,bp,h a (az ..),mD fun x hx=>h x (aJ _ hx)]
theorem kY {l:List Ev.Stat} (t:Tre l):∀ (n m k:Nat),k<l.length→l.length - k<n→l.length - k<m→dI l n k=dI l m k
 | 0,_,_,_,h,_=>by omega
 | _+1,0,_,_,_,h=>by omega
 | n + 1,m+1,k,hk,hn,hm=>by
   rw [dI,dI]
   congr 1
   by_cases h2:((ETy.get .stat l k).kind==2)=true
   · rw [if_pos h2,if_pos h2]
     obtain ⟨q,e1,e2,e3,_,_⟩:=t.init hk (eq_of_beq h2)
     have h3:upM l q<(q:Int):=(iy l (dep l q) q).2
     rw [e1,ai]
     exact kY t n m q e2 (by omega) (by omega)
   · rw [if_neg h2,if_neg h2]
     by_cases h3:((ETy.get .stat l k).kind==3)=true
     · rw [if_pos h3,if_pos h3]
       refine mD fun y hy=>?_
       obtain ⟨q,rfl,e2,e3,_,_⟩:=cD t hk hy
       rw [ai]
       exact kY t n m q e2 (by omega) (by omega)
     · rw [if_neg h3,if_neg h3]
theorem MK (t:Tre l) {k:Nat} (hk:k<l.length):dwM l k=(k:Int)::(if ((ETy.get .stat l k).kind==2)=true then dwM l (aP l (ETy.get .stat l k).initial).toNat else if ((ETy.get .stat l k).kind==3)=true then (bg l k).flatMap (fun y=>dwM l y.toNat) else []):=by
 unfold dwM
 rw [dI]
 congr 1
 by_cases h2:((ETy.get .stat l k).kind==2)=true
 · rw [if_pos h2,if_pos h2]
   obtain ⟨q,e1,e2,e3,_,_⟩:=t.init hk (eq_of_beq h2)
   have h3:upM l q<(q:Int):=(iy l (dep l q) q).2
   rw [e1,ai]
   exact kY t _ _ q e2 (by omega) (by omega)
 · rw [if_neg h2,if_neg h2]
   by_cases h3:((ETy.get .stat l k).kind==3)=true
   · rw [if_pos h3,if_pos h3]
     refine mD fun y hy=>?_
     obtain ⟨q,rfl,e2,e3,_,_⟩:=cD t hk hy
     rw [ai]
     exact kY t _ _ q e2 (by omega) (by omega)
   · rw [if_neg h3,if_neg h3]
abbrev zCh1:Chunk:=.cells [.fn (.func 48) [] [.loc 0 0,.pd (.ref .chart a 0),.loc 1 0]] 76
abbrev zCh2:List PI:=[.code [1,1,0,1,1,1,0,1,0,0],.inLoop [1,1,0,1,1,1,0,1,0,0],.inBlock 1,.inBlock 0]
theorem Kx (k:Int) (ks:List Int) (hks:∀ y∈ks,∀ o:List Int,o.length+(dwM c.states y.toNat).length≤2000→qb c y o) (hl:ks.length≤maxLen) (fin:List Int) (Γ:Ctx):∀ (n i:Nat) (out:List Int),ks.length - i≤n→i≤ks.length →
 out.length+((ks.drop i).flatMap fun y=>dwM c.states y.toNat).length≤2000→out++((ks.drop i).flatMap fun y=>dwM c.states y.toNat)=fin →
 J Tryz.prog 48 (aw Tryz.f48) Γ (Eq2 (.tup []) [.cells [.own 3] 29,Chunk.cells [SC.fn (Fn.func 48) [] [RC.loc 0 0,RC.pd (PD.ref ETy.chart c 0),RC.loc 1 0]] 76,.dead,.own 3 .int fin]) zCh2 ({ n:=44,fr:=[(3,.x (.c (.loc 1 0))),(34,.x (.c (.own 4))),(35,.i ((ks.length:Int))),(36,.i ((i:Int)))],ck:=[.cells [.own 3] 29,zCh1 c,.dead,.own 3 .int out,.own 3 .int ks],m:=3 }):=by
 intro n
 induction n with
 | zero=>?_
 | succ n ih=>?_
 all_goals
  intro i out hn hi hb hf
  refine jg tT Tryz.func48 (.ite (decide ((i:Int)<(ks.length:Int))) (.need (inRg i ks.length) (.need (i<ks.length) (.need (29=(29:TypeId)∧76=(76:TypeId)∧c=c∧qb c (ETy.get .int ks i) out) (.stop zCh2 { n:=44,fr:=[(3,.x (.c (.loc 1 0))),(34,.x (.c (.own 3))),(35,.i ks.length),(36,.i (IntKind.wrap .i64 ((i:Int)+1)))],ck:=[.cells [.own 4] 29,zCh1 c,.dead,.own 3 .int ks,.own 3 .int (out++dwM c.states ((ETy.get .int ks i).toNat))],m:=3 })))) (.ret (.tup []) [.cells [.own 3] 29,zCh1 c,.dead,.own 3 .int out])) ?_
  refine ⟨fun hlt=>?_,fun hge=>?_⟩
  · have hi':i<ks.length:=by have:=of_decide_eq_true hlt; omega
    have ed:ks.drop i=ETy.get .int ks i::ks.drop (i+1):=bI (t:=.int) (l:=ks) hi'
    have hm:ETy.get .int ks i∈ks:=by rw [ETy.get_eq (t:=.int) (List.getElem?_eq_getElem hi')]; exact bf hi'
    rw [ed,bp] at hb hf
    rw [aq] at hb
    refine ⟨⟨by omega,by omega⟩,hi',⟨rfl,rfl,rfl,hks _ hm out (by omega)⟩,?_⟩
    rw [aZ (aC hi' hl)]
    first
    | (exfalso; omega)
    | exact J.perm [0,1,2,4,3] rfl (ih (i+1) _ (by omega) (by omega) (by rw [aq]; omega) (by rw [bz]; exact hf))
  · have hie:ks.drop i=[]:=bT (by have:=of_decide_eq_false hge; omega)
    rw [hie,List.flatMap_nil,aO] at hf
    subst hf; exact ⟨rfl,rfl⟩
theorem LB (t:Tre c.states):∀ (n k:Nat) (out:List Int),k<c.states.length→c.states.length - k≤n→out.length+(dwM c.states k).length≤2000→qb c (k:Int) out:=by
 have hfew:=t.shp.few
 intro n
 induction n with
 | zero=>intro k out hk hn; omega
 | succ n ih =>
   intro k out hk hn hb
   have e:=MK t hk
   have hroom:room (out++[(k:Int)]).length 8:=by
    rw [e,aE] at hb
    rw [aq]
    exact ⟨by show (_+1) * 8≤_; omega,by show _+1≤_; unfold maxLen; omega⟩
   have hkl:=lH c.states k
   have key:∀ kk:Int,kk=(k:Int)→ah Tryz.prog 48 [.i kk,.c (.loc 0 0),.c (.pd (.ref .chart c 0)),.c (.loc 1 0)] [.cells [.own 2] 29,Chunk.cells [SC.fn (Fn.func 48) [] [RC.loc 0 0,RC.pd (PD.ref ETy.chart c 0),RC.loc 1 0]] 76,.own 3 .int out] (.tup []) [.cells [.own 3] 29,Chunk.cells [SC.fn (Fn.func 48) [] [RC.loc 0 0,RC.pd (PD.ref ETy.chart c 0),RC.loc 1 0]] 76,.dead,.own 3 .int (out++dwM c.states k)]:=by
    intro kk hkk
    refine dg tT Tryz.func48 (let x1:=(ETy.get .stat c.states (Int.toNat kk)); let x2:=((0:Int)≤kk∧kk<(c.states.length:Int)); let x3:=(aP c.states (Stat.initial x1)); .need (room ((out++[kk]).length) 8) (.need x2 (.ite (Stat.kind x1==(2:Int)) (.need x2 (.need (29=(29:TypeId)∧76=(76:TypeId)∧c=c∧qb c x3 (out++[kk])) (.ret (.tup []) [.cells [.own 3] 29,zCh1 c,.dead,.own 3 .int (out++[kk]++dwM c.states (x3.toNat))]))) (.ite (Stat.kind x1==(3:Int)) (.need (cj c.states kk=true) (.stop zCh2 { n:=44,fr:=[(3,.x (.c (.loc 1 0))),(34,.x (.c (.own 4))),(35,.i (↑((bg c.states (Int.toNat kk)).length):Int)),(36,.i 0)],ck:=[.cells [.own 3] 29,zCh1 c,.dead,.own 3 .int (out++[kk]),.own 3 .int (bg c.states (Int.toNat kk))],m:=3 })) (.ret (.tup []) [.cells [.own 3] 29,zCh1 c,.dead,.own 3 .int (out++[kk])]))))) fun Γ=>?_
    conv=>zeta
    subst hkk
    rw [ai]
    refine ⟨hroom,⟨by omega,by omega⟩,fun h2=>?_,fun h2=>⟨fun h3=>⟨gD t.right hk,?_⟩,fun h3=>?_⟩⟩
    · rw [if_pos h2] at e
      obtain ⟨q,e1,e2,e3,_,_⟩:=t.init hk (eq_of_beq h2)
      have h3:upM c.states q<(q:Int):=(iy c.states (dep c.states q) q).2
      rw [e1,ai] at e
      rw [e1,ai]
      refine ⟨⟨by omega,by omega⟩,⟨rfl,rfl,rfl,ih q _ e2 (by omega) ?_⟩,rfl,?_⟩
      · rw [e,aE] at hb
        rw [aq]; show _+1+_≤_; omega
      · rw [e,bz]; rfl
    · rw [if_neg (by rw [h2]; decide),if_pos h3] at e
      refine Kx c k (bg c.states k) (fun y hy o ho=>?_) (by unfold maxLen; omega) _ Γ (bg c.states k).length 0 _ (by omega) (by omega) ?_ ?_
      · obtain ⟨q,rfl,e2,e3,_,_⟩:=cD t hk hy
        rw [ai] at ho
        exact ih q o e2 (by omega) ho
      · rw [e,aE] at hb
        rw [cK,aq]; show _+1+_≤_; omega
      · rw [cK,e,bz]; rfl
    · rw [if_neg (by rw [h2]; decide),if_neg (by rw [h3]; decide)] at e
      rw [e]; exact ⟨rfl,rfl⟩
   unfold qb
   rw [ai]
   exact ah.mark (key _ rfl)
def vG:Cfg:=⟨aX,[eDn,rm]⟩
theorem tP:ag Tryz.prog vG.tab:=(ag.cons FE (ag.cons FK ag.nil))
theorem pa:∀ (l:List Int) (a b:Int),l.Pairwise (· < ·)→(∀ y∈l,a≤y∧y<b)→(l.length:Int)≤(if a≤b then b - a else 0)
 | [],a,b,_,_=>by split <;> simp <;> omega
 | x::r,a,b,hp,hm=>by
   rw [cO] at hp
   have h1:=hm x (az ..)
   have ih:=pa r (x+1) b hp.2 (fun y hy=>⟨by have:=hp.1 y hy; omega,(hm y (aJ _ hy)).2⟩)
   rw [aE]
   rw [if_pos (by omega)] at ih ⊢
   omega
theorem Lw (t:Tre l) {k:Nat} (hk:k<l.length):(dwM l k).length≤40:=by
 have h1:=gd t (l.length+1) k hk
 have h2:=pa (dwM l k) 0 40 h1.1 (fun y hy=>by
  have h3:=h1.2 y hy
  have h4:endM l k≤l.length:=(dY l hk).2
  have h5:=t.shp.few
  omega)
 rw [if_pos (by omega)] at h2
 omega
abbrev zCh3 (b:Nat):List (Nat×SV):=[(4,.p (.v (Value.slice none 0 0))),(5,.x (.c (.loc 1 0))),(8,.x (.c (.fn (.func 48) [] [.loc 1 0,.pd (.ref .chart a 0),.loc 2 0]))),(9,.i b)]
theorem Bj (k:Nat) (t:Tre c.states) (hk:k<c.states.length):ah Tryz.prog 32 [.e .chart c,.i (k:Int)] [] (.x (.c (.own 0))) [.own 3 .int (dV c.states k)]:=by
 refine dg tP Tryz.func32 (.stop [.ops [1,1,1,1,0] 2,.code [1,1,1,1,1]] { n:=14,fr:=[(4,.p (.v (Value.slice none 0 0))),(5,.x (.c (.loc 1 0))),(8,.x (.c (.fn (.func 48) [] [.loc 1 0,.loc 0 0,.loc 2 0]))),(9,.i k)],ck:=[.cells [.pd (.str c.name),.pd (.lst .str c.events),.pd (.lst .var c.vars),.pd (.lst .stat c.states),.pd (.lst .tran c.trans)] 27,.cells [.pd (.v (Value.slice none 0 0))] 29,.cells [.fn (.func 48) [] [.loc 1 0,.loc 0 0,.loc 2 0]] 76] }) fun Γ=>?_
 have hl:=Lw t hk
 have hs:jy (dwM c.states k)=dV c.states k:=Gf ((gd t (c.states.length+1) k hk).1.imp fun h=>Int.le_of_lt h)
 have rest:J Tryz.prog 32 (aw Tryz.f32) Γ (Eq2 (.x (.c (.own 0))) [.own 3 .int (dV c.states k)]) [.ops [1,1,1,1,0] 2,.code [1,1,1,1,1]] ({ n:=14,fr:=(zCh3 c k),ck:=[.dead,.cells [.own 3] 29,.cells [.fn (.func 48) [] [.loc 1 0,.pd (.ref .chart c 0),.loc 2 0]] 76,.own 3 .int []] }):=by
  refine jg tP Tryz.func32 (.need (29=(29:TypeId)∧76=(76:TypeId)∧c=c∧qb c (k:Int) []) (.need (([]++dwM c.states k).length≤1000000) (.ret (.x (.c (.own 0))) [.own 3 .int (jy ([]++dwM c.states k))]))) ?_
  refine ⟨⟨rfl,rfl,rfl,LB c t _ k [] hk (ar _) (by show 0+_≤_; omega)⟩,by show ([]++dwM c.states k).length≤_; rw [bR]; omega,rfl,?_⟩
  rw [bR,hs]
 have rest2:J Tryz.prog 32 (aw Tryz.f32) Γ (Eq2 (.x (.c (.own 0))) [.own 3 .int (dV c.states k)]) [.ops [1,1,1,1,0] 2,.code [1,1,1,1,1]] ({ n:=14,fr:=(zCh3 c k),ck:=[.dead,.cells [.pd (.v (.slice none 0 0))] 29,.cells [.fn (.func 48) [] [.loc 1 0,.pd (.ref .chart c 0),.loc 2 0]] 76] }):=J.nilCk 1 0 3 .int rfl rfl (by kernel_rfl) rest
 exact J.freeze aX [0] (by kernel_rfl) rest2
theorem yL (h:Tre c.states∧0≤k∧k<(c.states.length:Int)):ah Tryz.prog 32 [.e .chart c,.i k] [] (.x (.c (.own 0))) [.own 3 .int (dV c.states k.toNat)]:=by
 obtain ⟨q,rfl⟩:=aD h.2.1
 rw [ai]
 exact Bj c q h.1 (by omega)
def rQ:Ent:=(32,fun
 | [.agg [.pd (.str a),.pd (.lst .str b),.pd (.lst .var c),.pd (.lst .stat d),.pd (.lst .tran e)],.c (.pd (.int .i64 k))],[]=>some (some (Tre d∧0≤k∧k<(d.length:Int)),.x (.c (.own 0)),[.own 3 .int (dV d k.toNat)])
 | _,_=>none)
theorem Ee:EntOk Tryz.prog rQ:=entOk fun vs ck=>by
 unfold rQ; dsimp only; split
 · rename_i a b c d e k; exact entS fun hp=>yL ⟨a,b,c,d,e⟩ k hp
 · exact entN
end Go.Proofs.YtcopfgbbjdefbaaGreatDoor
