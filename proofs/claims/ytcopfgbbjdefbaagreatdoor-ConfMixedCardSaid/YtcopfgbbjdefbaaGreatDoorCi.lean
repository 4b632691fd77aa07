/- What a state begins with: the program's walk down and the document's words are alike (plain). Conditions: a valid chart. The library's contracts of the shelf, laid at this dump by the kit's tools. Conditions: each one's own. Contracts: slices.Sort on whole numbers. Conditions: sizes. -/
import Derived.Test.YtcopfgbbjdefbaaGreatDoorSg
import Derived.Test.YtcopfgbbjdefbaaGreatDoorVk
import Derived.Shelf.Lay
import Derived.Shelf.LaySoft
import Derived.Shelf.Strings.Trim
import Derived.Shelf.Small.Utf8
import Derived.Shelf.Small.Bits
import Derived.Shelf.Small.Strs
import Derived.Shelf.Utf8.RuneCount
import Derived.Shelf.Strconv.Itoa0
import Derived.Shelf.Strconv.Itoa1
import Derived.Shelf.LaysM
import Derived.Shelf.Strconv.Itoa2
import Derived.Shelf.Strconv.Itoa3
import Derived.Shelf.Strconv.Itoa4
import Derived.Shelf.Strconv.ParseIntEmpty
import Derived.Shelf.Strconv.Clone
import Derived.Shelf.Strconv.SyntaxError
import Derived.Shelf.LaysC
import Derived.Shelf.Strconv.ToError
import Derived.Shelf.Strconv.Lower
import Derived.Shelf.Strconv.ParseUint10
import Derived.Shelf.Strconv.ParseUint10Empty
import Derived.Shelf.Strconv.ParseUint10Any
import Derived.Shelf.Strconv.ParseInt10
import Derived.Shelf.Strconv.RangeError
import Derived.Shelf.Strconv.ToErrorRange
import Derived.Shelf.Strconv.ParseUintEmpty
import Derived.Shelf.Strconv.ParseUint10b64
import Derived.Shelf.Strconv.ParseUint10b32
import Derived.Shelf.Strconv.ParseUint10b16
import Derived.Shelf.Strconv.ParseUint10b8
import Derived.Shelf.Strconv.ParseUint10At
import Derived.Shelf.Strconv.ParseInt10At64
import Derived.Shelf.Strconv.ParseInt10At32
import Derived.Shelf.Strconv.ParseInt10At16
import Derived.Shelf.Strconv.ParseInt10At8
import Derived.Shelf.Strconv.ParseInt10All
import Derived.Shelf.Strconv.ParseIntPublic10
import Derived.Shelf.Strconv.ErrVarParseInt
import Derived.Shelf.Strings.Search1
import Derived.Shelf.Strings.Search2
import Derived.Shelf.Strings.Search3
import Derived.Shelf.Strings.Cut
import Derived.Shelf.Strings.Count
import Derived.Shelf.Strings.Shaped
import Derived.Shelf.Sort.Plain
import Derived.Shelf.Strings.Prefix
import Derived.Shelf.Strings.Split
import Derived.Shelf.Strings.SplitShaped
import Derived.Shelf.Unicode.Decode
import Derived.Shelf.Strings.Runes
import Derived.Shelf.Strings.RuneCount
import Derived.Shelf.Strings.IndexAny
import Derived.Shelf.Strings.AsciiSet
import Derived.Shelf.Strings.Explode
import Derived.Shelf.Unicode.DecodeSlow
import Derived.Shelf.Unicode.DecodeAny
import Derived.Shelf.Unicode.DecodeLast
import Derived.Shelf.Slices.Clone
import Derived.Shelf.Slices.CompactS
import Derived.Shelf.Slices.SearchI
import Derived.Shelf.Slices.Cells
import Derived.Shelf.Slices.In.SortNone
import Derived.Shelf.SlicesE.Clone
import Derived.Test.YtcopfgbbjdefbaaGreatDoorProg
import Derived.Test.YtcopfgbbjdefbaaGreatDoorTj
namespace Go.Proofs.YtcopfgbbjdefbaaGreatDoor
open Go Go.Ev
set_option maxRecDepth 100000
abbrev knd (l:List Ev.Stat) (k:Nat):Int:=(ETy.get .stat l k).kind
def dD (l:List Ev.Stat):Nat→Nat→List Int
 | 0,_=>[]
 | n+1,k=>(k:Int)::(if ((ETy.get .stat l k).kind==2)=true then dD l n (aK l (ETy.get .stat l k).initial).toNat else if ((ETy.get .stat l k).kind==3)=true then (br l k).flatMap (fun y=>dD l n y.toNat) else [])
def dK (l:List Ev.Stat) (i:Nat):List Int:=dD l (l.length+1) i
def s5 (l:List Ev.Stat) (p j:Nat):Prop:=upM l j=(p:Int)∧(knd l p=3∨(knd l p=2∧(ETy.get .stat l p).initial=(ETy.get .stat l j).name))
structure Tre (l:List Ev.Stat):Prop where
 right:bT l=true
 names:(l.map fun s:Ev.Stat=>s.name).Nodup
 inits:∀ k,k<l.length→c6 l k=0
theorem Valid.tre {c:Chart} (v:Valid c):Tre c.states:=⟨v.tree,v.states,v.inits⟩
variable {l:List Ev.Stat}
theorem Tre.shp (t:Tre l):Shp l:=hZ t.right
theorem Tre.init (t:Tre l) {k:Nat} (hk:k<l.length) (h2:knd l k=2):∃ q:Nat,aK l (ETy.get .stat l k).initial=(q:Int)∧q<l.length∧upM l q=(k:Int)∧(ETy.get .stat l q).name=(ETy.get .stat l k).initial∧aY (knd l q)=false:=by
 have h0:=t.inits k hk
 unfold c6 at h0
 have h2':(ETy.get .stat l k).kind=2:=h2
 rw [h2',if_neg (by decide)] at h0
 rcases lU l (ETy.get .stat l k).initial with ⟨e,_⟩ | ⟨q,e,hq,hn⟩
 · rw [e] at h0
   rw [show decide ((-1:Int)<0)=true by decide,bV,if_pos rfl] at h0
   exact absurd h0 (by decide)
 · rw [e,aj] at h0
   rw [decide_eq_false (by omega),aX] at h0
   cases hp:aY (ETy.get .stat l q).kind
   · rw [hp,if_neg (by decide),if_pos (by decide),jk (by decide),jI t.right hq,gJ t.shp hq] at h0
     exact ⟨q,e,hq,eq_of_beq h0,hn,hp⟩
   · rw [hp,if_pos rfl] at h0
     exact absurd h0 (by decide)
theorem xi (h:bT l=true) {k:Nat} (hk:k<l.length):o9 l k=true:=by
 unfold bT at h
 rw [af] at h
 exact (o4 l l.length 0 (by omega)).1 h.2 k (aP _) hk
theorem Tre.both (t:Tre l) {k m:Nat} (hm:m<l.length) (hu:upM l m=(k:Int)):knd l k=2∨(knd l k=3∧knd l m≤3):=by
 have hk:k<m:=((eY t.shp hm).1 hu).1
 exact ((ka t.shp (by omega)).1 (xi t.right (by omega))).1 m hm hu
theorem tF (l:List Ev.Stat) {k q:Nat} (hk:k<l.length) (h1:k<q) (h2:q<endM l k):endM l q≤endM l k:=by
 have h3:=dN l hk
 have h4:=dN l (i:=q) (by omega)
 by_cases h:endM l q≤endM l k
 · exact h
 · have h5:=fK l q (endM l k) h2 (by omega)
   have h6:=fK l k q h1 h2
   have h7:=vJ l k (by omega)
   omega
theorem dS (t:Tre l) {k:Nat} (hk:k<l.length) {y:Int} (hy:y∈br l k):∃ m:Nat,y=(m:Int)∧m<l.length∧k<m∧m<endM l k∧upM l m=(k:Int):=by
 obtain ⟨m,e,hm,hu⟩:=(iH t.shp hk y).1 hy
 have:=(eY t.shp hm).1 hu
 exact ⟨m,e,hm,this.1,this.2.1,hu⟩
theorem kU (l:List Ev.Stat) (e:Nat):∀ n k,e≤l.length→(dp l e n k).Pairwise (fun x y=>((endM l x.toNat:Nat):Int)≤y)∧∀ y∈dp l e n k,(k:Int)≤y
 | 0,_,_=>by rw [dp]; exact ⟨.nil,fun y h=>(by cases h)⟩
 | n + 1,k,he=>by
   rw [dp]
   by_cases hk:k<e
   · rw [if_pos hk]
     have ih:=kU l e n (endM l k) he
     have h1:=dN l (i:=k) (by omega)
     refine ⟨dr.2 ⟨fun y hy=>by rw [aj]; exact ih.2 y hy,ih.1⟩,fun y hy=>?_⟩
     rcases aH.1 hy with rfl | hy
     · omega
     · have:=ih.2 y hy; omega
   · rw [if_neg hk]; exact ⟨.nil,fun y h=>(by cases h)⟩
theorem fP {l:List Ev.Stat} (t:Tre l):∀ (n k:Nat),k<l.length→(dD l n k).Pairwise (· < ·)∧∀ y∈dD l n k,(k:Int)≤y∧y<((endM l k:Nat):Int)
 | 0,k,_=>by rw [dD]; exact ⟨.nil,fun y h=>(by cases h)⟩
 | n + 1,k,hk=>by
   have he:=dN l hk
   rw [dD]
   have key:∀ r:List Int,r.Pairwise (· < ·)→(∀ y∈r,(k:Int)<y∧y<((endM l k:Nat):Int))→((k:Int)::r).Pairwise (· < ·)∧∀ y∈(k:Int)::r,(k:Int)≤y∧y<((endM l k:Nat):Int):=fun r h1 h2 =>
    ⟨dr.2 ⟨fun y hy=>(h2 y hy).1,h1⟩,fun y hy=>by
     rcases aH.1 hy with rfl | hy
     · omega
     · have:=h2 y hy; omega⟩
   by_cases h2:knd l k=2
   · rw [if_pos (by simpa using h2)]
     obtain ⟨q,e,hq,hu,_,_⟩:=t.init hk h2
     rw [e,aj]
     have ih:=fP t n q hq
     have hb:=(eY t.shp hq).1 hu
     have hm:=tF l hk hb.1 hb.2.1
     refine key _ ih.1 fun y hy=>?_
     have:=ih.2 y hy
     omega
   · rw [if_neg (by simpa using h2)]
     by_cases h3:knd l k=3
     · rw [if_pos (by simpa using h3)]
       refine key _ ?_ fun y hy=>?_
       · rw [List.pairwise_flatMap]
         refine ⟨fun a ha=>?_,?_⟩
         · obtain ⟨m,rfl,hm,_⟩:=dS t hk ha
           rw [aj]; exact (fP t n m hm).1
         · have hs:=(kU l (endM l k) l.length (k+1) he.2).1
           refine List.Pairwise.imp_of_mem (fun {a b} ha hb hab x hx y hy=>?_) hs
           obtain ⟨m,rfl,hm,_⟩:=dS t hk ha
           obtain ⟨m2,rfl,hm2,_⟩:=dS t hk hb
           rw [aj] at hx hy hab
           have h5:=(fP t n m hm).2 x hx
           have h6:=(fP t n m2 hm2).2 y hy
           omega
       · obtain ⟨a,ha,hy⟩:=aG.1 hy
         obtain ⟨m,rfl,hm,h5,h6,_⟩:=dS t hk ha
         rw [aj] at hy
         have h7:=(fP t n m hm).2 y hy
         have h8:=tF l hk h5 h6
         omega
     · rw [if_neg (by simpa using h3)]
       exact key [] .nil fun y h=>(by cases h)
inductive Begun (l:List Ev.Stat) (i:Nat):Nat→Prop where
 | self:Begun l i i
 | step {p j:Nat}:Begun l i p→j<l.length→s5 l p j→Begun l i j
theorem Begun.lt (t:Tre l) {i j:Nat} (hi:i<l.length) (h:Begun l i j):j<l.length∧i≤j:=by
 induction h with
 | self=>exact ⟨hi,ar _⟩
 | step h1 h2 h3 ih=>exact ⟨h2,by have:=((eY t.shp h2).1 h3.1).1; omega⟩
theorem Begun.head {i q j:Nat} (hq:q<l.length) (h:s5 l i q) (hb:Begun l q j):Begun l i j:=by
 induction hb with
 | self=>exact .step .self hq h
 | step _ h2 h3 ih=>exact .step ih h2 h3
theorem lZ {l:List Ev.Stat} (t:Tre l):∀ (n k:Nat) (y:Int),k<l.length→y∈dD l n k→∃ j:Nat,y=(j:Int)∧Begun l k j
 | 0,_,_,_,h=>by rw [dD] at h; cases h
 | n + 1,k,y,hk,h=>by
   rw [dD] at h
   rcases aH.1 h with rfl | h
   · exact ⟨k,rfl,.self⟩
   · by_cases h2:knd l k=2
     · rw [if_pos (by simpa using h2)] at h
       obtain ⟨q,e,hq,hu,hn,_⟩:=t.init hk h2
       rw [e,aj] at h
       obtain ⟨j,e2,hb⟩:=lZ t n q y hq h
       exact ⟨j,e2,hb.head hq ⟨hu,.inr ⟨h2,hn.symm⟩⟩⟩
     · rw [if_neg (by simpa using h2)] at h
       by_cases h3:knd l k=3
       · rw [if_pos (by simpa using h3)] at h
         obtain ⟨a,ha,hy⟩:=aG.1 h
         obtain ⟨m,rfl,hm,_,_,hu⟩:=dS t hk ha
         rw [aj] at hy
         obtain ⟨j,e2,hb⟩:=lZ t n m y hm hy
         exact ⟨j,e2,hb.head hm ⟨hu,.inl h3⟩⟩
       · rw [if_neg (by simpa using h3)] at h
         cases h
theorem qq {l:List Ev.Stat} (t:Tre l):∀ (n k:Nat),k<l.length→l.length - k<n→∀ {p j:Nat},(p:Int)∈dD l n k→j<l.length→s5 l p j→(j:Int)∈dD l n k
 | 0,_,_,h,_,_,_,_,_=>by omega
 | n + 1,k,hk,hn,p,j,hp,hj,hl=>by
   rw [dD] at hp ⊢
   have hpj:=((eY t.shp hj).1 hl.1).1
   refine aH.2 (.inr ?_)
   have step:∀ q,q<l.length→s5 l k q→(j=q∨((p:Int)∈dD l n q))→(j:Int)∈dD l n q:=fun q hq hlq h=>by
    have hkq:=((eY t.shp hq).1 hlq.1).1
    rcases h with rfl | h
    · obtain ⟨n',rfl⟩:∃ n',n=n'+1:=⟨n - 1,by omega⟩
      rw [dD]; exact aB
    · exact qq t n q hq (by omega) h hj hl
   by_cases h2:knd l k=2
   · rw [if_pos (by simpa using h2)] at hp ⊢
     obtain ⟨q,e,hq,hu,hnm,_⟩:=t.init hk h2
     rw [e,aj] at hp ⊢
     refine step q hq ⟨hu,.inr ⟨h2,hnm.symm⟩⟩ ?_
     rcases aH.1 hp with hpk | hp
     · have:p=k:=by omega
       subst this
       rcases hl.2 with h3 | ⟨_,h4⟩
       · rw [h2] at h3; exact absurd h3 (by decide)
       · exact .inl (vW t.names hj hq (by rw [hnm]; exact h4.symm))
     · exact .inr hp
   · rw [if_neg (by simpa using h2)] at hp ⊢
     by_cases h3:knd l k=3
     · rw [if_pos (by simpa using h3)] at hp ⊢
       rcases aH.1 hp with hpk | hp
       · have:p=k:=by omega
         subst this
         refine aG.2 ⟨(j:Int),(iH t.shp hk _).2 ⟨j,rfl,hj,hl.1⟩,?_⟩
         rw [aj]
         exact step j hj hl (.inl rfl)
       · obtain ⟨a,ha,hy⟩:=aG.1 hp
         obtain ⟨m,rfl,hm,_,_,hu⟩:=dS t hk ha
         rw [aj] at hy
         refine aG.2 ⟨(m:Int),ha,?_⟩
         rw [aj]
         exact step m hm ⟨hu,.inl h3⟩ (.inr hy)
     · rw [if_neg (by simpa using h3)] at hp
       rcases aH.1 hp with hpk | hp
       · have:p=k:=by omega
         subst this
         rcases hl.2 with h | h
         · exact absurd h h3
         · exact absurd h.1 h2
       · cases hp
theorem uq (t:Tre l) {i:Nat} (hi:i<l.length) (y:Int):y∈dK l i↔∃ j:Nat,y=(j:Int)∧Begun l i j:=by
 refine ⟨lZ t _ i y hi,?_⟩
 rintro ⟨j,rfl,h⟩
 unfold dK
 induction h with
 | self=>rw [dD]; exact aB
 | step h1 h2 h3 ih=>exact qq t _ i hi (by omega) ih h2 h3
theorem nI (n:Nat) (p:Nat→Bool):(((List.range n).filter p).map fun j:Nat=>(j:Int)).Pairwise (· < ·):=by
 rw [List.pairwise_map]
 exact (List.pairwise_lt_range.filter p).imp fun h=>by omega
end Go.Proofs.YtcopfgbbjdefbaaGreatDoor
namespace Go.Proofs
open Go.Shelf
def Tryz.lays189_ren:Go.Shelf.Ren:=⟨fun | 189=>51 | 125=>109 | 257=>108 | 128=>160 | 129=>161 | 294=>151 | 295=>152 | 296=>153 | 297=>154 | 298=>155 | 299=>156 | 216=>157 | 300=>158 | 301=>159 | 328=>189 | 329=>190 | 330=>191 | 331=>192 | 332=>193 | 215=>194 | 343=>242 | n=>n,fun | 28=>29 | 3=>3 | 46=>112 | 0=>0 | 51=>168 | 53=>170 | 4=>4 | 183=>160 | 182=>159 | 131=>165 | 5=>5 | 9=>9 | 218=>202 | 222=>206 | 228=>239 | 229=>58 | n=>n,fun | n=>n⟩
theorem Tryz.lays189:Go.Proofs.Lays.n189 Tryz.prog Tryz.lays189_ren:={
 mixed:=by kernel_rfl
 f125:=Tryz.func109.trans (congrArg some (by kernel_rfl))
 f128:=Tryz.func160.trans (congrArg some (by kernel_rfl))
 f129:=Tryz.func161.trans (congrArg some (by kernel_rfl))
 f189:=Tryz.func51.trans (congrArg some (by kernel_rfl))
 f215:=Tryz.func194.trans (congrArg some (by kernel_rfl))
 f216:=Tryz.func157.trans (congrArg some (by kernel_rfl))
 f257:=Tryz.func108.trans (congrArg some (by kernel_rfl))
 f294:=Tryz.func151.trans (congrArg some (by kernel_rfl))
 f295:=Tryz.func152.trans (congrArg some (by kernel_rfl))
 f296:=Tryz.func153.trans (congrArg some (by kernel_rfl))
 f297:=Tryz.func154.trans (congrArg some (by kernel_rfl))
 f298:=Tryz.func155.trans (congrArg some (by kernel_rfl))
 f299:=Tryz.func156.trans (congrArg some (by kernel_rfl))
 f300:=Tryz.func158.trans (congrArg some (by kernel_rfl))
 f301:=Tryz.func159.trans (congrArg some (by kernel_rfl))
 f328:=Tryz.func189.trans (congrArg some (by kernel_rfl))
 f329:=Tryz.func190.trans (congrArg some (by kernel_rfl))
 f330:=Tryz.func191.trans (congrArg some (by kernel_rfl))
 f331:=Tryz.func192.trans (congrArg some (by kernel_rfl))
 f332:=Tryz.func193.trans (congrArg some (by kernel_rfl))
 f343:=Tryz.func242.trans (congrArg some (by kernel_rfl))
 t0:=Tryz.underlying0
 a0:=Tryz.isAgg0
 z0:=Tryz.sizeOf0
 v0:=Tryz.zeroValue0
 t3:=Tryz.underlying3
 a3:=Tryz.isAgg3
 z3:=Tryz.sizeOf3
 v3:=Tryz.zeroValue3
 t4:=Tryz.underlying4
 a4:=Tryz.isAgg4
 z4:=Tryz.sizeOf4
 v4:=Tryz.zeroValue4
 t5:=Tryz.underlying5
 a5:=Tryz.isAgg5
 z5:=Tryz.sizeOf5
 v5:=Tryz.zeroValue5
 t9:=Tryz.underlying9
 a9:=Tryz.isAgg9
 z9:=Tryz.sizeOf9
 v9:=Tryz.zeroValue9
 t28:=Tryz.underlying29
 a28:=Tryz.isAgg29
 z28:=Tryz.sizeOf29
 v28:=Tryz.zeroValue29
 t46:=Tryz.underlying112
 a46:=Tryz.isAgg112
 z46:=Tryz.sizeOf112
 v46:=Tryz.zeroValue112
 t51:=Tryz.underlying168
 a51:=Tryz.isAgg168
 z51:=Tryz.sizeOf168
 v51:=Tryz.zeroValue168
 t53:=Tryz.underlying170
 a53:=Tryz.isAgg170
 z53:=Tryz.sizeOf170
 v53:=Tryz.zeroValue170
 t131:=Tryz.underlying165
 a131:=Tryz.isAgg165
 z131:=Tryz.sizeOf165
 v131:=Tryz.zeroValue165
 t182:=Tryz.underlying159
 a182:=Tryz.isAgg159
 z182:=Tryz.sizeOf159
 v182:=Tryz.zeroValue159
 t183:=Tryz.underlying160
 a183:=Tryz.isAgg160
 z183:=Tryz.sizeOf160
 v183:=Tryz.zeroValue160
 t218:=Tryz.underlying202
 a218:=Tryz.isAgg202
 z218:=Tryz.sizeOf202
 v218:=Tryz.zeroValue202
 t222:=Tryz.underlying206
 a222:=Tryz.isAgg206
 z222:=Tryz.sizeOf206
 v222:=Tryz.zeroValue206
 t228:=Tryz.underlying239
 a228:=Tryz.isAgg239
 z228:=Tryz.sizeOf239
 v228:=Tryz.zeroValue239
 t229:=Tryz.underlying58
 a229:=Tryz.isAgg58
 z229:=Tryz.sizeOf58
 v229:=Tryz.zeroValue58 }
open Go.Sort Go.RowKit in
theorem Tryz.slices_Sort_int (blk off cap:Nat) (zs:List Int) (w:World) (hH:Holds (Value.int .i64) w blk off zs.toArray) (hblk:blk<w.heap.size) (hsz:zs.length<4611686018427387904) :
 Calls Tryz.prog 51 #[.slice (some ⟨blk,off,none⟩) zs.length cap] w fun e w' =>
  e = .returned (.tuple #[])∧∃ n os,w'=grow (putRow (Value.int .i64) (Sort.ahead w n) blk off (zs.mergeSort fun x y=>decide (x≤y)).toArray) os:=Any.slices_Sort_int Tryz.lays189 blk off cap zs w hH hblk hsz
open Go.RowKit Go.Sort in
theorem Tryz.slices_Sort_int_none (p:Option Addr) (cap:Nat) (w:World) :
 Calls Tryz.prog 51 #[.slice p 0 cap] w fun e w'=>e = .returned (.tuple #[])∧w'=w:=Any.slices_Sort_int_none Tryz.lays189 p cap w
end Go.Proofs
namespace Go.Proofs.YtcopfgbbjdefbaaGreatDoor
open Go Go.Ev
set_option maxRecDepth 100000
variable (l:List Int)
theorem rF:l.flatMap (ETy.enc .int)=l.map (PD.int .i64):=by
 induction l with
 | nil=>rfl
 | cons a l ih=>rw [bf,av,ih]; rfl
theorem GM (H:Mem) (l:List Int):All2 (PR H) (l.map (PD.int .i64)) (l.map (Value.int .i64)):=by
 induction l with
 | nil=>exact .nil
 | cons a l ih=>exact .cons (PR.int .i64 a) ih
theorem vk {H:Mem}:∀ {l:List Int} {xs:List Value},All2 (PR H) (l.map (PD.int .i64)) xs→xs=l.map (Value.int .i64)
 | [],_,h=>by cases h; rfl
 | a :: l,_,h=>by
   cases h with
   | cons a1 h =>
     rw [vk h,av]
     cases a1; rfl
theorem CC (d:List Int) (cur:Array Value) (h:d.length≤cur.size):(Sort.putCells (Value.int .i64) 0 d.toArray cur).toList.take d.length=d.map (Value.int .i64):=by
 refine List.ext_getElem? fun k=>?_
 rw [List.getElem?_take,List.getElem?_map]
 by_cases hk:k<d.length
 · rw [if_pos hk]
   simp only [Sort.putCells,Array.toList_mapIdx,List.getElem?_mapIdx,Array.getElem?_toList]
   rw [Array.getElem?_eq_getElem (by omega),bu,if_pos ⟨aP _,by simpa using hk⟩,List.getElem?_eq_getElem hk]
   simp [hk]
 · rw [if_neg hk,List.getElem?_eq_none (by omega)]; rfl
def iT:List Int:=l.mergeSort fun x y=>decide (x≤y)
theorem Di {V:Vn} {vs:List Value} {i:Nat} (hv:All2 (SX.R V) [.c (.own i)] vs):vs=[V.ov i]:=by
 cases hv with
 | cons a1 hv =>
   cases hv
   have h:_=V.ov i:=a1
   rw [h]
theorem Es {Γ:Ctx} {T:TypeId} {l:List Int} {V:Vn} {w:World} (r:WOk Γ [.own T .int l] V w) {g n cap:Nat} {cur:Array Value} (ho:V.ov 0 = .slice (some ⟨g,0,none⟩) n cap)
 (hg:w.heap[g]?=some (.cells cur T (0,0))) (hn:n≤cap) (hm:cap≤maxLen) (hc:cur.size=cap * 1) (hs:V.σ 0=g) (d l':List Int) (hd:d.length=n) (hl:d=l') (hln:l.length=n) (q:Nat) :
 WOk Γ [.own T .int l'] V (Sort.putRow (Value.int .i64) (Sort.ahead w q) g 0 d.toArray):=by
 subst hl
 have hblk:(Chunk.own T .int l).blk V 0=some g:=by show (V.ov 0).ownBlock=_; rw [ho]; rfl
 refine WOk.rewrite r (i:=0) (c:=.own T .int l) rfl (.own T .int d) ⟨rfl,rfl,rfl,by simp [Sort.putRow,Sort.mapBlock,Sort.ahead]⟩ (fun b hb=>?_) rfl ?_
 · rw [hblk] at hb
   have:g≠b:=fun e=>hb (by rw [e])
   simp [Sort.putRow,Sort.mapBlock,Sort.ahead,Array.getElem?_modify,this]
 · refine ⟨d.map (Value.int .i64),⟨by simp [ETy.size],.inr ⟨g,cap,Sort.putCells (Value.int .i64) 0 d.toArray cur,by rw [ho,hd],aP _,?_,by omega,hm,?_,?_⟩⟩,?_,fun b hb=>?_⟩
   · simp [Sort.putRow,Sort.mapBlock,Sort.ahead,Array.getElem?_modify,hg,Sort.onCells]
   · simp [Sort.putCells,hc,ETy.size]
   · have:=CC d cur (by omega)
     simpa [ETy.size] using this
   · rw [rF]; exact GM _ _
   · rw [ho] at hb
     rw [hs]; simpa [Value.ownBlock] using hb
theorem DG {T:TypeId} {l:List Int} {V:Vn} {w:World} (h:(Chunk.own T .int l).holds V w 0):(V.ov 0 = .slice none 0 0∧l=[]) ∨
 ∃ g cap cur,V.ov 0 = .slice (some ⟨g,0,none⟩) l.length cap∧w.heap[g]?=some (.cells cur T (0,0))∧l.length≤cap∧cap≤maxLen∧cur.size=cap * 1∧V.σ 0=g∧Sort.Holds (Value.int .i64) w g 0 l.toArray:=by
 obtain ⟨xs,⟨h1,h2⟩,h3,h4⟩:=h
 rw [rF] at h3
 have hx:=vk h3
 rcases h2 with ⟨e,e0⟩ | ⟨g,cap,cur,e,_,hg,hn,hm,hc,ht⟩
 · exact .inl ⟨e,eC.1 e0⟩
 · refine .inr ⟨g,cap,cur,e,hg,hn,hm,hc,h4 g (by rw [e]; rfl),fun j hj=>?_⟩
   have hj':j<l.length:=by simpa using hj
   have hsz:(ETy.size .int)=1:=rfl
   have hk:cur.toList[j]?=some ((Value.int .i64) l[j]):=by
    have:(cur.toList.take (l.length * ETy.size .int))[j]?=(l.map (Value.int .i64))[j]?:=by rw [ht,hx]
    rw [List.getElem?_take,if_pos (by rw [hsz]; omega),List.getElem?_map,List.getElem?_eq_getElem hj'] at this
    exact this
   refine ⟨?_,?_⟩
   · simp only [World.cell?,hg,aS]
     rw [← Array.getElem?_toList,hk]
     simp [hj']
   · simp [World.frozen?,hg]
theorem wb (h:l.length≤1000000):ag Tryz.prog 51 [.c (.own 0)] [.own 3 .int l] (.tup []) [.own 3 .int (iT l)]:=by
 intro w V vs hw hT hv
 rw [Di hv]
 have hh:=hw.own 0 _ rfl
 rcases DG hh with ⟨e,e0⟩ | ⟨g,cap,cur,e,hg,hn,hm,hc,hs,hH⟩
 · rw [e]
   refine (Tryz.slices_Sort_int_none none 0 w).mono fun e w' ⟨he,hw'⟩=>?_
   subst he; subst hw'
   subst e0
   exact ⟨_,V,rfl,⟨[],rfl,.nil⟩,by rw [show iT []=[] from List.mergeSort_nil]; exact hw⟩
 · rw [e]
   have hb:=(Array.getElem?_eq_some_iff.1 hg).1
   refine (Tryz.slices_Sort_int g 0 cap l w hH hb (by omega)).mono fun e1 w' ⟨he,q,os,hw'⟩=>?_
   rw [show (l.mergeSort fun x y=>decide (x≤y))=iT l from rfl] at hw'
   subst he; subst hw'
   refine ⟨_,V,rfl,⟨[],rfl,.nil⟩,?_⟩
   have h1:=Es hw e hg hn hm hc hs (iT l) (iT l) (List.length_mergeSort l) rfl rfl q
   refine h1.kept ⟨rfl,rfl,rfl,?_,fun k hk _=>?_⟩
   · show _≤(_++_:Array Obj).size
     rw [eH]; omega
   · show (_++_:Array Obj)[k]?=_
     rw [Array.getElem?_append_left hk]
def p7:Ent:=(51,fun
 | [.c (.own 0)],[.own 3 .int l]=>some (some (l.length≤1000000),.tup [],[.own 3 .int (iT l)])
 | _,_=>none)
theorem C8:EntOk Tryz.prog p7:=entOk fun vs ck=>by
 unfold p7; dsimp only; split
 · rename_i l; exact entS fun hp=>wb l hp
 · exact entN
theorem DF {l:List Int} (h:l.Pairwise (·≤·)):iT l=l:=by
 unfold iT
 refine List.mergeSort_of_pairwise (h.imp fun {a b} hab=>?_)
 exact decide_eq_true hab
end Go.Proofs.YtcopfgbbjdefbaaGreatDoor
