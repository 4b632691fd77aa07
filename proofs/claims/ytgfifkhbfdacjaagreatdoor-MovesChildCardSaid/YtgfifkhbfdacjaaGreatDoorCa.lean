/- Contracts: tree.Kids. Conditions: sizes. No text twice: the program's word and the document's are alike (plain). Conditions: none. Events of transitions: the program's word and the document's are alike (plain). Conditions: states' names differ. A valid chart: its questions one by one; without one of its transitions; its names are found (plain). Conditions: none. What a state begins with: the program's walk down and the document's words are alike (plain). Conditions: a valid chart. -/
import Derived.Test.YtgfifkhbfdacjaaGreatDoorVk
import Derived.Test.YtgfifkhbfdacjaaGreatDoorUz
import Derived.Test.YtgfifkhbfdacjaaGreatDoorTm
import Derived.Test.YtgfifkhbfdacjaaGreatDoorTj
import Derived.Test.YtgfifkhbfdacjaaGreatDoorTq
namespace Go.Proofs.YtgfifkhbfdacjaaGreatDoor
open Go Go.Ev
set_option maxRecDepth 100000
def sK:Cfg:=⟨aX,[pG,rD]⟩
theorem oX:ag Tryz.prog sK.tab:=(ag.cons qu (ag.cons xm ag.nil))
abbrev zCg2 (a:List Int):List Chunk:=[.cells [.own 3] 36,.dead,.dead,.own 3 .int a]
variable (l:List Ev.Stat) (i:Nat)
theorem Ia (lp:Nat) (pre:List Int) (y:Int) (Γ:Ctx) (hds:Γ.ds=[]) (hlen:pre.length<100) :
 J Tryz.prog ⟨102,some lp⟩ (au Tryz.f102) Γ (fun v ck=>(v = .x (.b true)∧True∧ck=(fun pre=>(zCg2 pre)) (pre++[y]))∨(v = .x (.b false)∧False∧ck=(fun pre=>(zCg2 pre)) (pre++[y]))) [.code ([1,1,1,0,1,0]++[1])]
  { n:=20,fr:=bu 6 (.x (.i y)) (bu 14 (.x (.i y)) [(4,.x (.c (.pd (.v (.slice none 0 0))))),(5,.x (.c (.loc 0 0))),(13,.x (.c (.fn (.func 174) [] [.pd (.ref .int (i:Int) 0),.pd (.ref .stats l 0)])))]),ck:=(zCg2 pre),m:=3 }:=by
 show J Tryz.prog ⟨102,some lp⟩ (au Tryz.f102) Γ _ [.code [1,1,1,0,1,0,1]] { n:=20,fr:=[(4,.x (.c (.pd (.v (.slice none 0 0))))),(5,.x (.c (.loc 0 0))),(13,.x (.c (.fn (.func 174) [] [.pd (.ref .int (i:Int) 0),.pd (.ref .stats l 0)]))),(14,.x (.i (y:Int))),(6,.x (.i (y:Int)))],ck:=(zCg2 pre),m:=3 }
 refine J.goR (cfg:=sK) oX (fn:=H3 Tryz.f102) (by kernel_rfl) 1000 (t:=(.need (room ((pre++[y]).length) 8) (.stop [] { n:=20,fr:=[(4,.p (.v (Value.slice none 0 0)))],ck:=[.cells [.own 3] 36,.dead,.dead,.own 3 .int (pre++[y])],m:=3 }))) (by kernel_rfl) ?_
 refine ⟨⟨by rw [an]; show (_+1) * 8≤_; omega,by rw [an]; show _+1≤_; unfold maxLen; omega⟩,?_⟩
 exact J.roundEnd hds (.inl ⟨rfl,trivial,rfl⟩)
theorem xi {l:List Ev.Stat} {i:Int} (h:bU l i=true):b5 l=true∧0≤i∧i<(l.length:Int):=by
 unfold bU at h
 simp only [af,decide_eq_true_eq] at h
 obtain ⟨⟨a,b⟩,c⟩:=h
 exact ⟨by assumption,by assumption,by assumption⟩
abbrev zCg1 (a:Nat) (b:List Ev.Stat):List (Nat×SV):=[(4,.x (.c (.pd (.v (.slice none 0 0))))),(5,.x (.c (.loc 0 0))),(13,.x (.c (.fn (.func 174) [] [.pd (.ref .int (a:Int) 0),.pd (.ref .stats b 0)])))]
abbrev zCg3:List PI:=[.code [1,1,1,0,1,0],.inBlock 0,.code [1,1,1,1]]
theorem EC (hh:bU l (i:Int)=true):ah Tryz.prog 102 [.l .stat l,.i (i:Int)] [] (.x (.c (.own 0))) [.own 3 .int (ba l i)]:=by
 have h1:=xi hh
 have S:=iT h1.1
 have hf:=S.few
 have hl:l.length≤maxLen:=by unfold maxLen; omega
 have hi:i<l.length:=by omega
 have hkm:=ki l i
 refine dg oX Tryz.func102 (.need (l.length≤maxLen) (.ite (!bU l (i:Int)) (.ret (.p (.v (Value.slice none 0 0))) []) (.stop zCg3 { n:=20,fr:=[(4,.p (.v (Value.slice none 0 0))),(5,.x (.c (.loc 0 0))),(13,.x (.c (.fn (.func 174) [] [.loc 2 0,.loc 1 0])))],ck:=[.cells [.pd (.v (Value.slice none 0 0))] 36,.cells [.pd (.lst .stat l)] 24,.cells [.i i] 3] }))) fun Γ=>?_
 refine ⟨hl,fun h=>?_,fun _=>?_⟩
 · rw [hh] at h; cases h
 have rest:J Tryz.prog 102 (au Tryz.f102) Γ (Eq2 (.x (.c (.own 0))) [.own 3 .int (ba l i)]) zCg3 { n:=20,fr:=(zCg1 i l),ck:=[.cells [.own 3] 36,.dead,.dead,.own 3 .int []] }:=by
  refine J.rangeQ 3 (ok:=fun x=>0≤x∧x<(l.length:Int)) (xs:=ba l i) (g:=13) (s:=14) (d:=6) Tryz.func102 (by kernel_rfl) (by kernel_rfl) (by kernel_rfl) (by kernel_rfl) rfl (Go.Proofs.enters_of Tryz.func174 (by kernel_rfl) rfl) (by kernel_rfl) (by kernel_rfl) (by kernel_rfl) (by kernel_rfl) (uN l i hi hl)
   (fun _=>True) (fun _=>False) trivial (fun pre=>[.cells [.own 3] 36,.dead,.dead,.own 3 .int pre]) (fun pre=>[.cells [.own 3] 36,.dead,.dead,.own 3 .int pre]) rfl (fun _=>rfl) (fun _=>rfl) (fun _=>rfl) (fun _=>rfl)
   (fun lp pre x Γ hds _ _ _ hlen=>Ia l i lp pre x Γ hds (by omega)) (fun _ Γ'=>?_) (fun _ _ hb=>hb.elim)
  generalize ba l i=pre
  show J Tryz.prog 102 (au Tryz.f102) Γ' _ _ { n:=20,fr:=(zCg1 i l),ck:=[.cells [.own 3] 36,.dead,.dead,.own 3 .int pre] }
  refine jg oX Tryz.func102 (.ret (.x (.c (.own 0))) [.own 3 .int pre]) ?_
  exact ⟨rfl,rfl⟩
 have rest2:J Tryz.prog 102 (au Tryz.f102) Γ (Eq2 (.x (.c (.own 0))) [.own 3 .int (ba l i)]) zCg3 { n:=20,fr:=(zCg1 i l),ck:=[.cells [.pd (.v (.slice none 0 0))] 36,.dead,.dead] }:=J.nilCk 0 0 3 .int rfl rfl (by kernel_rfl) rest
 exact J.freeze aX [1,2] (by kernel_rfl) rest2
theorem DJ (i:Int) (h:bU l i=true):ah Tryz.prog 102 [.l .stat l,.i i] [] (.x (.c (.own 0))) [.own 3 .int (ba l i.toNat)]:=by
 obtain ⟨k,rfl⟩:=aA (xi h).2.1
 rw [ai]
 exact EC l k h
def ko:Ent:=(102,fun
 | [.c (.pd (.lst .stat l)),.c (.pd (.int .i64 i))],[]=>some (some (bU l i=true),.x (.c (.own 0)),[.own 3 .int (ba l i.toNat)])
 | _,_=>none)
theorem jZ:EntOk Tryz.prog ko:=entOk fun vs ck=>by
 unfold ko; dsimp only; split
 · rename_i l i; exact entS fun hp=>DJ l i hp
 · exact entN
end Go.Proofs.YtgfifkhbfdacjaaGreatDoor
namespace Go.Proofs.YtgfifkhbfdacjaaGreatDoor
open Go Go.Ev
set_option maxRecDepth 100000
variable (l:List Str)
def tw1 (i:Nat):Bool:=(l.take i).any fun y=>ETy.get .str l i==y
def nJ (l:List Str):Nat→Nat→Bool
 | 0,_=>false
 | n+1,i=>tw1 l i||nJ l n (i+1)
def dC:Bool:=nJ l l.length 0
theorem Kh (l:List Str):∀ (n i:Nat),l.length - i=n→(nJ l n i=true↔∃ k,i≤k∧k<l.length∧tw1 l k=true)
 | 0,i,h=>by rw [nJ]; exact ⟨fun h=>(by cases h),fun ⟨k,h1,h2,_⟩=>by omega⟩
 | n + 1,i,h=>by
   rw [nJ,aO,Kh l n (i+1) (by omega)]
   constructor
   · rintro (h1 | ⟨k,h1,h2,h3⟩)
     · exact ⟨i,ar _,by omega,h1⟩
     · exact ⟨k,by omega,h2,h3⟩
   · rintro ⟨k,h1,h2,h3⟩
     by_cases hk:k=i
     · subst hk; exact .inl h3
     · exact .inr ⟨k,by omega,h2,h3⟩
theorem uO:dC l=false↔l.Nodup:=by
 unfold dC
 rw [← b3,Kh l l.length 0 (by omega),dV,dj]
 constructor
 · intro h i j hi hj hij e
   refine h ⟨j,aS _,hj,?_⟩
   unfold tw1
   rw [br]
   refine ⟨l[i],?_,?_⟩
   · rw [eo]; exact ⟨i,by omega,rfl⟩
   · rw [ETy.get_eq (t:=.str) (List.getElem?_eq_getElem hj),e]; exact beq_self_eq_true _
 · rintro h ⟨k,_,h2,h3⟩
   unfold tw1 at h3
   rw [br] at h3
   obtain ⟨y,hy,he⟩:=h3
   obtain ⟨i,hi,rfl⟩:=eo.1 hy
   rw [ETy.get_eq (t:=.str) (List.getElem?_eq_getElem h2)] at he
   exact h i k (by omega) h2 (by omega) (eq_of_beq he).symm
theorem HA:(fw l).Pairwise fun x y=>x≤y:=by
 have h:=List.pairwise_mergeSort (le:=fun x y:Str=>decide (x≤y)) (fun a b c h1 h2=>decide_eq_true (List.le_trans (of_decide_eq_true h1) (of_decide_eq_true h2))) (fun a b=>by
  rcases List.le_total a b with h | h
  · rw [decide_eq_true h]; rfl
  · rw [decide_eq_true h,Bool.or_true]) l
 exact h.imp fun h=>of_decide_eq_true h
theorem HV (s:List Str):(c7 s).length=s.length↔∀ j,j<s.length→Lib.keeps s.toArray j=true:=by
 unfold c7 Lib.compact Lib.compactUpTo
 rw [aP]
 constructor
 · intro h j hj
   have h2:((List.range s.length).filter (Lib.keeps s.toArray)).length=(List.range s.length).length:=by rw [h,fg]
   exact (List.length_filter_eq_length_iff.1 h2) j (bB.2 hj)
 · intro h
   rw [eC.2 fun j hj=>h j (bB.1 hj),fg]
theorem EY {s:List Str} (hs:s.Pairwise fun x y=>x≤y):(∀ j,j<s.length→Lib.keeps s.toArray j=true)↔s.Nodup:=by
 rw [dV,dj]
 rw [dj] at hs
 constructor
 · intro h i j hi hj hij e
   have h1:=h j hj
   unfold Lib.keeps at h1
   have h2:=of_decide_eq_true h1
   rcases h2 with h2 | h2
   · omega
   · refine h2 ?_
     rw [getElem!_pos s.toArray j (by simpa using hj),getElem!_pos s.toArray (j - 1) (by simp; omega)]
     simp only [List.getElem_toArray]
     have h3:s[j - 1]≤s[j]:=hs (j - 1) j (by omega) hj (by omega)
     have h4:s[i]≤s[j - 1]:=by
      by_cases h5:i=j - 1
      · subst h5; exact List.le_refl _
      · exact hs i (j - 1) hi (by omega) (by omega)
     exact List.le_antisymm (e ▸ h4) h3
 · intro h j hj
   unfold Lib.keeps
   refine decide_eq_true ?_
   by_cases h0:j=0
   · exact .inl h0
   · refine .inr ?_
     rw [getElem!_pos s.toArray j (by simpa using hj),getElem!_pos s.toArray (j - 1) (by simp; omega)]
     simp only [List.getElem_toArray]
     exact fun e=>h (j - 1) j (by omega) hj (by omega) e.symm
theorem mX:gG l=true↔l.Nodup:=by
 unfold gG
 have h:(((c7 (fw l)).length:Int)==((fw l).length:Int))=true↔(c7 (fw l)).length=(fw l).length:=by rw [beq_iff_eq]; omega
 rw [h,HV,EY (HA l)]
 exact (List.mergeSort_perm l _).nodup_iff
theorem s9:gG l = !dC l:=by
 rw [bn,mX,← uO]; simp
end Go.Proofs.YtgfifkhbfdacjaaGreatDoor
namespace Go.Proofs.YtgfifkhbfdacjaaGreatDoor
open Go Go.Ev
set_option maxRecDepth 100000
variable (l:List Ev.Stat) (s n:Str)
theorem wB:(s==ff++n)=true↔dQ s ff=true∧dE s ff=n:=by
 have e5:aD ff=5:=rfl
 have el:aD s=(s.length:Int):=rfl
 rw [beq_iff_eq]
 constructor
 · rintro rfl
   have h:dQ (ff++n) ff=true:=by
    unfold dQ
    rw [af]
    refine ⟨decide_eq_true ?_,?_⟩
    · rw [el,e5,an]; show _≥(5:Int); have:ff.length=5:=rfl
      omega
    · rw [e5]; exact beq_iff_eq.2 (List.take_left' rfl)
   refine ⟨h,?_⟩
   unfold dE
   rw [h,cond_true,e5]; exact List.drop_left' rfl
 · rintro ⟨h,hn⟩
   unfold dE at hn
   rw [h,cond_true,e5] at hn
   unfold dQ at h
   rw [af,e5] at h
   have h2:s.take 5=ff:=eq_of_beq h.2
   rw [← hn]
   calc s=s.take 5++s.drop 5:=(cz 5 s).symm
    _=_:=by rw [h2]; rfl
def hO:Bool:=l.any fun x:Ev.Stat=>(x.kind==2||x.kind==3)&&s==ff++x.name
def lP (c:Chart) (s:Str):Bool:=s==[]||s==n6||c.events.any fun x=>s==x
theorem gb:(ay l n = -1∧∀ x∈l,x.name≠n)∨∃ k:Nat,ay l n=(k:Int)∧k<l.length∧(ETy.get .stat l k).name=n:=by
 unfold ay
 rcases js (fun s:Ev.Stat=>s.name==n) l 0 with ⟨h1,h2⟩ | ⟨k,x,h1,h2,h3⟩
 · refine .inl ⟨h1,fun x hx e=>?_⟩
   have:=List.find?_eq_none.1 h2 x hx
   simp [e] at this
 · refine .inr ⟨k,by rw [bb] at h1; exact h1,(List.getElem?_eq_some_iff.1 h2).1,?_⟩
   rw [ETy.get_eq (t:=.stat) h2]
   have:=List.find?_some h3
   exact eq_of_beq this
theorem mT {l:List Ev.Stat} (hn:(l.map fun s:Ev.Stat=>s.name).Nodup) {i j:Nat} (hi:i<l.length) (hj:j<l.length) (h:(ETy.get .stat l i).name=(ETy.get .stat l j).name):i=j:=by
 rw [ETy.get_eq (t:=.stat) (List.getElem?_eq_getElem hi),ETy.get_eq (t:=.stat) (List.getElem?_eq_getElem hj)] at h
 rw [dV,dj] at hn
 rcases Nat.lt_trichotomy i j with h1 | h1 | h1
 · exact absurd (by rw [List.getElem_map,List.getElem_map]; exact h) (hn i j (by simpa using hi) (by simpa using hj) h1)
 · exact h1
 · exact absurd (by rw [List.getElem_map,List.getElem_map]; exact h.symm) (hn j i (by simpa using hj) (by simpa using hi) h1)
theorem Ht {c:Chart} (hn:(c.states.map fun s:Ev.Stat=>s.name).Nodup) (s:Str):gS c s=(lP c s||hO c.states s):=by
 unfold gS
 show (if lP c s=true then true else _)=_
 cases lP c s
 · rw [if_neg (by decide),bf]
   unfold hO
   rw [bn,br]
   constructor
   · intro h
     simp only [af,decide_eq_true_eq] at h
     obtain ⟨⟨h1,h2⟩,h3⟩:=h
     rcases gb c.states (dE s ff) with ⟨e,_⟩ | ⟨k,e,hk,hx⟩
     · rw [e] at h2; exact absurd h2 (by decide)
     · rw [e,ai] at h3
       refine ⟨ETy.get .stat c.states k,?_,?_⟩
       · rw [ETy.get_eq (t:=.stat) (List.getElem?_eq_getElem hk)]; exact a8 hk
       · rw [af]
         exact ⟨h3,(wB s _).2 ⟨h1,hx.symm⟩⟩
   · rintro ⟨x,hx,h⟩
     rw [af] at h
     obtain ⟨h1,h2⟩:=(wB s _).1 h.2
     obtain ⟨j,hj,rfl⟩:=List.mem_iff_getElem.1 hx
     rcases gb c.states (dE s ff) with ⟨e,hno⟩ | ⟨k,e,hk,hy⟩
     · exact absurd h2.symm (hno _ (a8 hj))
     · have ej:ETy.get .stat c.states j=c.states[j]:=ETy.get_eq (t:=.stat) (List.getElem?_eq_getElem hj)
       have:k=j:=mT hn hk hj (by rw [hy,ej]; exact h2)
       subst this
       rw [e,ai,h1,decide_eq_true (show (k:Int)≥0 by omega),ej]
       exact h.1
 · rfl
end Go.Proofs.YtgfifkhbfdacjaaGreatDoor
namespace Go.Proofs.YtgfifkhbfdacjaaGreatDoor
open Go Go.Ev
set_option maxRecDepth 100000
theorem kj {b:Bool} {e:Int} (he:e≠0):bV b e=0↔b=true:=by
 unfold bV
 cases b
 · rw [if_neg (by decide)]; exact ⟨fun h=>absurd h he,fun h=>(by cases h)⟩
 · rw [if_pos rfl]; exact ⟨fun _=>rfl,fun _=>rfl⟩
theorem and_zero {e r:Int}:gk e r=0↔e=0∧r=0:=by
 unfold gk
 by_cases h:e=0
 · subst h
   rw [if_neg (by decide)]; exact ⟨fun h=>⟨rfl,h⟩,fun h=>h.2⟩
 · rw [if_pos (by simpa using h)]; exact ⟨fun h2=>absurd h2 h,fun h2=>absurd h2.1 h⟩
theorem rX (f:Nat→Int):∀ (m k:Nat),bT f k m=0↔∀ j,k≤j→j<k+m→f j=0
 | 0,k=>by rw [bT]; exact ⟨fun _ j h1 h2=>by omega,fun _=>rfl⟩
 | m + 1,k=>by
   rw [bT]
   by_cases h:f k=0
   · rw [h,if_neg (by decide),rX f m (k+1)]
     refine ⟨fun h2 j h3 h4=>?_,fun h2 j h3 h4=>h2 j (by omega) (by omega)⟩
     by_cases hj:j=k
     · subst hj; exact h
     · exact h2 j (by omega) (by omega)
   · rw [if_pos (by simpa using h)]
     exact ⟨fun h2=>absurd h2 h,fun h2=>absurd (h2 k (ar _) (by omega)) h⟩
structure Valid (c:Chart):Prop where
 few:gY c=true
 names:∀ s∈c.name::c.events++(c.vars.map fun v:Var=>v.name)++c.states.map fun s:Ev.Stat=>s.name,a7 s=true
 events:c.events.Nodup
 vars:(c.vars.map fun v:Var=>v.name).Nodup
 states:(c.states.map fun s:Ev.Stat=>s.name).Nodup
 tree:b5 c.states=true
 inits:∀ k,k<c.states.length→df c.states k=0
 kinds:∀ k,k<c.vars.length→ee (ETy.get .var c.vars k)=0
 blocks:∀ k,k<c.states.length→cR c (ETy.get .stat c.states k)=0
 trans:∀ k,k<c.trans.length→cL c k (c8 c.states) (ETy.get .tran c.trans k)=0
theorem iX (c:Chart):bD c=0↔Valid c:=by
 unfold bD q0E q1E q2E q3E q4E q5E q6E q7E
 simp only [and_zero,kj (show (4:Int)≠0 by decide),kj (show (2:Int)≠0 by decide),kj (show (3:Int)≠0 by decide),kj (show (9:Int)≠0 by decide),rX]
 have hn:(!(fO c (c.vars.map fun v:Var=>v.name) (c.states.map fun s:Ev.Stat=>s.name)).any fun s:Str=>!a7 s)=true↔∀ s∈c.name::c.events++(c.vars.map fun v:Var=>v.name)++c.states.map fun s:Ev.Stat=>s.name,a7 s=true:=by
  unfold fO
  rw [mY,aK,← b3,br]
  simp only [List.flatten_cons,List.flatten_nil,aH,List.singleton_append,bQ,bA]
  constructor
  · intro h s hs
    cases hb:a7 s
    · exact absurd ⟨s,hs,by rw [hb]; rfl⟩ h
    · rfl
  · rintro h ⟨s,hs,hb⟩
    rw [h s hs] at hb; cases hb
 have ht:jc c (c.vars.map fun v:Var=>v.name) (c.states.map fun s:Ev.Stat=>s.name)=true↔c.events.Nodup∧(c.vars.map fun v:Var=>v.name).Nodup∧(c.states.map fun s:Ev.Stat=>s.name).Nodup:=by
  unfold jc
  rw [af,af,mX,mX,mX,and_assoc]
 rw [hn,ht]
 constructor
 · rintro ⟨h0,h1,⟨h2,h3,h4⟩,h5,h6,h7,h8,h9,_⟩
   exact ⟨h0,h1,h2,h3,h4,h5,fun k hk=>h6 k (by omega) (by omega),fun k hk=>h7 k (by omega) (by omega),fun k hk=>h8 k (by omega) (by omega),fun k hk=>h9 k (by omega) (by omega)⟩
 · intro v
   exact ⟨v.few,v.names,⟨v.events,v.vars,v.states⟩,v.tree,fun k _ hk=>v.inits k (by omega),fun k _ hk=>v.kinds k (by omega),fun k _ hk=>v.blocks k (by omega),fun k _ hk=>v.trans k (by omega),trivial⟩
/-! ### without one of its transitions -/
theorem rQ (c:Chart) (i:Nat) (real:List Str) (t:Tran):cL c i real t=0↔fR c i t=false∧gS c t.event=true∧(t.guard=[]∨((b4 t.guard c.vars real).2=0∧(b4 t.guard c.vars real).1=2))∧eH c t=0:=by
 unfold cL
 cases hb:fR c i t
 · rw [if_neg (by decide)]
   cases he:gS c t.event
   · rw [if_pos (by decide)]; exact ⟨fun h=>absurd h (by decide),fun h=>(by cases h.2.1)⟩
   · rw [if_neg (by decide)]
     by_cases hg:t.guard=[]
     · rw [hg,if_neg (by decide)]
       exact ⟨fun h=>⟨rfl,rfl,.inl rfl,h⟩,fun h=>h.2.2.2⟩
     · have hp:0<t.guard.length:=List.length_pos_iff.2 hg
       rw [if_pos (decide_eq_true (by omega))]
       by_cases h2:(b4 t.guard c.vars real).2=0
       · rw [if_neg (by rw [h2]; decide)]
         by_cases h1:(b4 t.guard c.vars real).1=2
         · rw [if_neg (by rw [h1]; decide)]
           exact ⟨fun h=>⟨rfl,rfl,.inr ⟨h2,h1⟩,h⟩,fun h=>h.2.2.2⟩
         · rw [if_pos (by simpa using h1)]
           exact ⟨fun h=>absurd h (by decide),fun h=>(h.2.2.1.elim hg fun h=>h1 h.2).elim⟩
       · rw [if_pos (by simpa using h2)]
         exact ⟨fun h=>absurd h h2,fun h=>(h.2.2.1.elim hg fun h=>h2 h.1).elim⟩
 · rw [if_pos rfl]; exact ⟨fun h=>absurd h (by decide),fun h=>(by cases h.1)⟩
theorem nd (c:Chart):gY c=true↔c.events.length≤12∧c.vars.length≤8∧c.states.length≤40∧c.trans.length≤48:=by
 unfold gY
 simp only [af,decide_eq_true_eq]
 omega
/-! ### its names are found -/
theorem Jy {c:Chart} (v:Valid c) {i:Nat} (hi:i<c.trans.length) (h:(ETy.get .tran c.trans i).dst≠[]):0≤ay c.states (ETy.get .tran c.trans i).dst:=by
 have h0:=((rQ c i _ _).1 (v.trans i hi)).2.2.2
 unfold eH at h0
 rw [if_pos (by simpa using h)] at h0
 split at h0
 · exact absurd h0 (by decide)
 · rename_i h2
   have:=of_decide_eq_false (b3 _ ▸ h2)
   omega
end Go.Proofs.YtgfifkhbfdacjaaGreatDoor
namespace Go.Proofs.YtgfifkhbfdacjaaGreatDoor
open Go Go.Ev
set_option maxRecDepth 100000
abbrev knd (l:List Ev.Stat) (k:Nat):Int:=(ETy.get .stat l k).kind
def fE (l:List Ev.Stat):Nat→Nat→List Int
 | 0,_=>[]
 | n+1,k=>(k:Int)::(if ((ETy.get .stat l k).kind==2)=true then fE l n (ay l (ETy.get .stat l k).initial).toNat else if ((ETy.get .stat l k).kind==3)=true then (ba l k).flatMap (fun y=>fE l n y.toNat) else [])
def rL (l:List Ev.Stat) (i:Nat):List Int:=fE l (l.length+1) i
def il (l:List Ev.Stat) (i:Int):Nat→Int→Bool
 | 0,_=>false
 | n+1,j=>if (i==j)=true then true else if (decide (aN l j.toNat<0) || !il l i n (aN l j.toNat))=true then false
   else if ((ETy.get .stat l (aN l j.toNat).toNat).kind==3)=true then true else (ETy.get .stat l (aN l j.toNat).toNat).kind==2&&(ETy.get .stat l (aN l j.toNat).toNat).initial==(ETy.get .stat l j.toNat).name
def ic (l:List Ev.Stat) (i:Int):List Int:=((List.range l.length).filter fun j:Nat=>il l i (l.length+1) (j:Int)).map fun j:Nat=>(j:Int)
def wh (l:List Ev.Stat) (p j:Nat):Prop:=upM l j=(p:Int)∧(knd l p=3∨(knd l p=2∧(ETy.get .stat l p).initial=(ETy.get .stat l j).name))
structure Tre (l:List Ev.Stat):Prop where
 right:b5 l=true
 names:(l.map fun s:Ev.Stat=>s.name).Nodup
 inits:∀ k,k<l.length→df l k=0
theorem Valid.tre {c:Chart} (v:Valid c):Tre c.states:=⟨v.tree,v.states,v.inits⟩
variable {l:List Ev.Stat}
theorem Tre.shp (t:Tre l):Shp l:=iT t.right
theorem Tre.init (t:Tre l) {k:Nat} (hk:k<l.length) (h2:knd l k=2):∃ q:Nat,ay l (ETy.get .stat l k).initial=(q:Int)∧q<l.length∧upM l q=(k:Int)∧(ETy.get .stat l q).name=(ETy.get .stat l k).initial∧aM (knd l q)=false:=by
 have h0:=t.inits k hk
 unfold df at h0
 have h2':(ETy.get .stat l k).kind=2:=h2
 rw [h2',if_neg (by decide)] at h0
 rcases gb l (ETy.get .stat l k).initial with ⟨e,_⟩ | ⟨q,e,hq,hn⟩
 · rw [e] at h0
   rw [show decide ((-1:Int)<0)=true by decide,bI,if_pos rfl] at h0
   exact absurd h0 (by decide)
 · rw [e,ai] at h0
   rw [decide_eq_false (by omega),bf] at h0
   cases hp:aM (ETy.get .stat l q).kind
   · rw [hp,if_neg (by decide),if_pos (by decide),kj (by decide),jd t.right hq,dZ t.shp hq] at h0
     exact ⟨q,e,hq,eq_of_beq h0,hn,hp⟩
   · rw [hp,if_pos rfl] at h0
     exact absurd h0 (by decide)
theorem th (h:b5 l=true) {k:Nat} (hk:k<l.length):qE l k=true:=by
 unfold b5 at h
 rw [af] at h
 exact (qz l l.length 0 (by omega)).1 h.2 k (aS _) hk
theorem Tre.both (t:Tre l) {k m:Nat} (hm:m<l.length) (hu:upM l m=(k:Int)):knd l k=2∨(knd l k=3∧knd l m≤3):=by
 have hk:k<m:=((cv t.shp hm).1 hu).1
 exact ((jE t.shp (by omega)).1 (th t.right (by omega))).1 m hm hu
theorem gK (l:List Ev.Stat) {k q:Nat} (hk:k<l.length) (h1:k<q) (h2:q<endM l k):endM l q≤endM l k:=by
 have h3:=cN l hk
 have h4:=cN l (i:=q) (by omega)
 by_cases h:endM l q≤endM l k
 · exact h
 · have h5:=gn l q (endM l k) h2 (by omega)
   have h6:=gn l k q h1 h2
   have h7:=xh l k (by omega)
   omega
theorem fF (t:Tre l) {k:Nat} (hk:k<l.length) {y:Int} (hy:y∈ba l k):∃ m:Nat,y=(m:Int)∧m<l.length∧k<m∧m<endM l k∧upM l m=(k:Int):=by
 obtain ⟨m,e,hm,hu⟩:=(dA t.shp hk y).1 hy
 have:=(cv t.shp hm).1 hu
 exact ⟨m,e,hm,this.1,this.2.1,hu⟩
theorem jT (l:List Ev.Stat) (e:Nat):∀ n k,e≤l.length→(dD l e n k).Pairwise (fun x y=>((endM l x.toNat:Nat):Int)≤y)∧∀ y∈dD l e n k,(k:Int)≤y
 | 0,_,_=>by rw [dD]; exact ⟨.nil,fun y h=>(by cases h)⟩
 | n + 1,k,he=>by
   rw [dD]
   by_cases hk:k<e
   · rw [if_pos hk]
     have ih:=jT l e n (endM l k) he
     have h1:=cN l (i:=k) (by omega)
     refine ⟨cf.2 ⟨fun y hy=>by rw [ai]; exact ih.2 y hy,ih.1⟩,fun y hy=>?_⟩
     rcases aF.1 hy with rfl | hy
     · omega
     · have:=ih.2 y hy; omega
   · rw [if_neg hk]; exact ⟨.nil,fun y h=>(by cases h)⟩
theorem jx {l:List Ev.Stat} (t:Tre l):∀ (n k:Nat),k<l.length→(fE l n k).Pairwise (· < ·)∧∀ y∈fE l n k,(k:Int)≤y∧y<((endM l k:Nat):Int)
 | 0,k,_=>by rw [fE]; exact ⟨.nil,fun y h=>(by cases h)⟩
 | n + 1,k,hk=>by
   have he:=cN l hk
   rw [fE]
   have key:∀ r:List Int,r.Pairwise (· < ·)→(∀ y∈r,(k:Int)<y∧y<((endM l k:Nat):Int))→((k:Int)::r).Pairwise (· < ·)∧∀ y∈(k:Int)::r,(k:Int)≤y∧y<((endM l k:Nat):Int):=fun r h1 h2 =>
    ⟨cf.2 ⟨fun y hy=>(h2 y hy).1,h1⟩,fun y hy=>by
     rcases aF.1 hy with rfl | hy
     · omega
     · have:=h2 y hy; omega⟩
   by_cases h2:knd l k=2
   · rw [if_pos (by simpa using h2)]
     obtain ⟨q,e,hq,hu,_,_⟩:=t.init hk h2
     rw [e,ai]
     have ih:=jx t n q hq
     have hb:=(cv t.shp hq).1 hu
     have hm:=gK l hk hb.1 hb.2.1
     refine key _ ih.1 fun y hy=>?_
     have:=ih.2 y hy
     omega
   · rw [if_neg (by simpa using h2)]
     by_cases h3:knd l k=3
     · rw [if_pos (by simpa using h3)]
       refine key _ ?_ fun y hy=>?_
       · rw [List.pairwise_flatMap]
         refine ⟨fun a ha=>?_,?_⟩
         · obtain ⟨m,rfl,hm,_⟩:=fF t hk ha
           rw [ai]; exact (jx t n m hm).1
         · have hs:=(jT l (endM l k) l.length (k+1) he.2).1
           refine List.Pairwise.imp_of_mem (fun {a b} ha hb hab x hx y hy=>?_) hs
           obtain ⟨m,rfl,hm,_⟩:=fF t hk ha
           obtain ⟨m2,rfl,hm2,_⟩:=fF t hk hb
           rw [ai] at hx hy hab
           have h5:=(jx t n m hm).2 x hx
           have h6:=(jx t n m2 hm2).2 y hy
           omega
       · obtain ⟨a,ha,hy⟩:=aJ.1 hy
         obtain ⟨m,rfl,hm,h5,h6,_⟩:=fF t hk ha
         rw [ai] at hy
         have h7:=(jx t n m hm).2 y hy
         have h8:=gK l hk h5 h6
         omega
     · rw [if_neg (by simpa using h3)]
       exact key [] .nil fun y h=>(by cases h)
inductive Begun (l:List Ev.Stat) (i:Nat):Nat→Prop where
 | self:Begun l i i
 | step {p j:Nat}:Begun l i p→j<l.length→wh l p j→Begun l i j
theorem Begun.lt (t:Tre l) {i j:Nat} (hi:i<l.length) (h:Begun l i j):j<l.length∧i≤j:=by
 induction h with
 | self=>exact ⟨hi,ar _⟩
 | step h1 h2 h3 ih=>exact ⟨h2,by have:=((cv t.shp h2).1 h3.1).1; omega⟩
theorem Begun.head {i q j:Nat} (hq:q<l.length) (h:wh l i q) (hb:Begun l q j):Begun l i j:=by
 induction hb with
 | self=>exact .step .self hq h
 | step _ h2 h3 ih=>exact .step ih h2 h3
theorem mM {l:List Ev.Stat} (t:Tre l):∀ (n k:Nat) (y:Int),k<l.length→y∈fE l n k→∃ j:Nat,y=(j:Int)∧Begun l k j
 | 0,_,_,_,h=>by rw [fE] at h; cases h
 | n + 1,k,y,hk,h=>by
   rw [fE] at h
   rcases aF.1 h with rfl | h
   · exact ⟨k,rfl,.self⟩
   · by_cases h2:knd l k=2
     · rw [if_pos (by simpa using h2)] at h
       obtain ⟨q,e,hq,hu,hn,_⟩:=t.init hk h2
       rw [e,ai] at h
       obtain ⟨j,e2,hb⟩:=mM t n q y hq h
       exact ⟨j,e2,hb.head hq ⟨hu,.inr ⟨h2,hn.symm⟩⟩⟩
     · rw [if_neg (by simpa using h2)] at h
       by_cases h3:knd l k=3
       · rw [if_pos (by simpa using h3)] at h
         obtain ⟨a,ha,hy⟩:=aJ.1 h
         obtain ⟨m,rfl,hm,_,_,hu⟩:=fF t hk ha
         rw [ai] at hy
         obtain ⟨j,e2,hb⟩:=mM t n m y hm hy
         exact ⟨j,e2,hb.head hm ⟨hu,.inl h3⟩⟩
       · rw [if_neg (by simpa using h3)] at h
         cases h
theorem ru {l:List Ev.Stat} (t:Tre l):∀ (n k:Nat),k<l.length→l.length - k<n→∀ {p j:Nat},(p:Int)∈fE l n k→j<l.length→wh l p j→(j:Int)∈fE l n k
 | 0,_,_,h,_,_,_,_,_=>by omega
 | n + 1,k,hk,hn,p,j,hp,hj,hl=>by
   rw [fE] at hp ⊢
   have hpj:=((cv t.shp hj).1 hl.1).1
   refine aF.2 (.inr ?_)
   have step:∀ q,q<l.length→wh l k q→(j=q∨((p:Int)∈fE l n q))→(j:Int)∈fE l n q:=fun q hq hlq h=>by
    have hkq:=((cv t.shp hq).1 hlq.1).1
    rcases h with rfl | h
    · obtain ⟨n',rfl⟩:∃ n',n=n'+1:=⟨n - 1,by omega⟩
      rw [fE]; exact az
    · exact ru t n q hq (by omega) h hj hl
   by_cases h2:knd l k=2
   · rw [if_pos (by simpa using h2)] at hp ⊢
     obtain ⟨q,e,hq,hu,hnm,_⟩:=t.init hk h2
     rw [e,ai] at hp ⊢
     refine step q hq ⟨hu,.inr ⟨h2,hnm.symm⟩⟩ ?_
     rcases aF.1 hp with hpk | hp
     · have:p=k:=by omega
       subst this
       rcases hl.2 with h3 | ⟨_,h4⟩
       · rw [h2] at h3; exact absurd h3 (by decide)
       · exact .inl (mT t.names hj hq (by rw [hnm]; exact h4.symm))
     · exact .inr hp
   · rw [if_neg (by simpa using h2)] at hp ⊢
     by_cases h3:knd l k=3
     · rw [if_pos (by simpa using h3)] at hp ⊢
       rcases aF.1 hp with hpk | hp
       · have:p=k:=by omega
         subst this
         refine aJ.2 ⟨(j:Int),(dA t.shp hk _).2 ⟨j,rfl,hj,hl.1⟩,?_⟩
         rw [ai]
         exact step j hj hl (.inl rfl)
       · obtain ⟨a,ha,hy⟩:=aJ.1 hp
         obtain ⟨m,rfl,hm,_,_,hu⟩:=fF t hk ha
         rw [ai] at hy
         refine aJ.2 ⟨(m:Int),ha,?_⟩
         rw [ai]
         exact step m hm ⟨hu,.inl h3⟩ (.inr hy)
     · rw [if_neg (by simpa using h3)] at hp
       rcases aF.1 hp with hpk | hp
       · have:p=k:=by omega
         subst this
         rcases hl.2 with h | h
         · exact absurd h h3
         · exact absurd h.1 h2
       · cases hp
theorem xn (t:Tre l) {i:Nat} (hi:i<l.length) (y:Int):y∈rL l i↔∃ j:Nat,y=(j:Int)∧Begun l i j:=by
 refine ⟨mM t _ i y hi,?_⟩
 rintro ⟨j,rfl,h⟩
 unfold rL
 induction h with
 | self=>rw [fE]; exact az
 | step h1 h2 h3 ih=>exact ru t _ i hi (by omega) ih h2 h3
theorem tD {l:List Ev.Stat} (t:Tre l) {i:Nat} (hi:i<l.length):∀ (n j:Nat),j<l.length→j<n→(il l (i:Int) n (j:Int)=true↔Begun l i j)
 | 0,j,_,h=>by omega
 | n + 1, j, hj,hn=>by
   rw [il]
   by_cases hij:i=j
   · subst hij
     rw [if_pos (beq_self_eq_true _)]
     exact ⟨fun _=>.self,fun _=>rfl⟩
   · rw [if_neg (by simpa using (show ¬(i:Int)=(j:Int) by omega)),ai,dZ t.shp hj]
     rcases jv l j with ⟨e,h1⟩ | ⟨p,e,h1,h2,h3⟩
     · rw [e,show decide ((-1:Int)<0)=true by decide,bI,if_pos rfl]
       refine ⟨fun h=>(by cases h),fun h=>?_⟩
       cases h with
       | self=>exact absurd rfl hij
       | step _ _ h4=>rw [h4.1] at e; omega
     · have ih:=tD t hi n p (by omega) (by omega)
       rw [e,ai,decide_eq_false (by omega),bf]
       cases hb:il l (i:Int) n (p:Int)
       · rw [cm,if_pos rfl]
         refine ⟨fun h=>(by cases h),fun h=>?_⟩
         cases h with
         | self=>exact absurd rfl hij
         | @step p' _ h5 _ h4 =>
           have:p'=p:=by have:=h4.1; rw [e] at this; omega
           subst this
           rw [ih.2 h5] at hb; cases hb
       · have hp:=ih.1 hb
         rw [b6,if_neg (by decide)]
         by_cases h3:(ETy.get .stat l p).kind=3
         · rw [if_pos (by simpa using h3)]
           exact ⟨fun _=>.step hp hj ⟨e,.inl h3⟩,fun _=>rfl⟩
         · rw [if_neg (by simpa using h3),af,beq_iff_eq,beq_iff_eq]
           refine ⟨fun h=>.step hp hj ⟨e,.inr h⟩,fun h=>?_⟩
           cases h with
           | self=>exact absurd rfl hij
           | @step p' _ h5 _ h4 =>
             have:p'=p:=by have:=h4.1; rw [e] at this; omega
             subst this
             exact h4.2.elim (fun h=>absurd h h3) id
theorem iV:∀ {a b:List Int},a.Pairwise (· < ·)→b.Pairwise (· < ·)→(∀ y,y∈a↔y∈b)→a=b
 | [],[],_,_,_=>rfl
 | [],y::b,_,_,h=>by have:=(h y).2 az; cases this
 | x::a,[],_,_,h=>by have:=(h x).1 az; cases this
 | x :: a,y::b,ha,hb,h=>by
   rw [cf] at ha hb
   have e:x=y:=by
    rcases aF.1 ((h x).1 az) with h1 | h1
    · exact h1
    · rcases aF.1 ((h y).2 az) with h2 | h2
      · exact h2.symm
      · have:=hb.1 x h1; have:=ha.1 y h2; omega
   subst e
   rw [iV ha.2 hb.2 fun z=>⟨fun hz=>?_,fun hz=>?_⟩]
   · rcases aF.1 ((h z).1 (aL _ hz)) with rfl | h2
     · have:=ha.1 z hz; omega
     · exact h2
   · rcases aF.1 ((h z).2 (aL _ hz)) with rfl | h2
     · have:=hb.1 z hz; omega
     · exact h2
theorem k8 (n:Nat) (p:Nat→Bool):(((List.range n).filter p).map fun j:Nat=>(j:Int)).Pairwise (· < ·):=by
 rw [List.pairwise_map]
 exact (List.pairwise_lt_range.filter p).imp fun h=>by omega
theorem H7 (t:Tre l) {i:Nat} (hi:i<l.length):rL l i=ic l (i:Int):=by
 refine iV (jx t _ i hi).1 (k8 _ _) fun y=>?_
 rw [xn t hi]
 unfold ic
 rw [aU]
 constructor
 · rintro ⟨j,rfl,h⟩
   have hj:=h.lt t hi
   exact ⟨j,aB.2 ⟨bB.2 hj.1,(tD t hi _ j hj.1 (by omega)).2 h⟩,rfl⟩
 · rintro ⟨j,hj,rfl⟩
   rw [aB,bB] at hj
   exact ⟨j,rfl,(tD t hi _ j hj.1 (by omega)).1 hj.2⟩
end Go.Proofs.YtgfifkhbfdacjaaGreatDoor
