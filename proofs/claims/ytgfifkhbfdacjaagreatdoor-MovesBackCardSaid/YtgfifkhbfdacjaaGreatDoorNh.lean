/- Contracts: tree.Kids. Conditions: sizes. No text twice: the program's word and the document's are alike (plain). Conditions: none. Events of transitions: the program's word and the document's are alike (plain). Conditions: states' names differ. A valid chart: its questions one by one; without one of its transitions; its names are found (plain). Conditions: none. What a state begins with: the program's walk down and the document's words are alike (plain). Conditions: a valid chart. Contracts: conf: small functions, what a state begins with. Conditions: sizes. -/
import Derived.Test.YtgfifkhbfdacjaaGreatDoorVk
import Derived.Test.YtgfifkhbfdacjaaGreatDoorUr
import Derived.Test.YtgfifkhbfdacjaaGreatDoorTm
import Derived.Test.YtgfifkhbfdacjaaGreatDoorTj
import Derived.Test.YtgfifkhbfdacjaaGreatDoorTq
import Derived.Test.YtgfifkhbfdacjaaGreatDoorEq
namespace Go.Proofs.YtgfifkhbfdacjaaGreatDoor
open Go Go.Ev
set_option maxRecDepth 100000
def qw:Cfg:=⟨aY,[o8,qQ]⟩
theorem nR:ag Tryz.prog qw.tab:=(ag.cons p9 (ag.cons wH ag.nil))
abbrev zCg2 (a:List Int):List Chunk:=[.cells [.own 3] 36,.dead,.dead,.own 3 .int a]
variable (l:List Ev.Stat) (i:Nat)
theorem HN (lp:Nat) (pre:List Int) (y:Int) (Γ:Ctx) (hds:Γ.ds=[]) (hlen:pre.length<100) :
 J Tryz.prog ⟨102,some lp⟩ (au Tryz.f102) Γ (fun v ck=>(v = .x (.b true)∧True∧ck=(fun pre=>(zCg2 pre)) (pre++[y]))∨(v = .x (.b false)∧False∧ck=(fun pre=>(zCg2 pre)) (pre++[y]))) [.code ([1,1,1,0,1,0]++[1])]
  { n:=20,fr:=bu 6 (.x (.i y)) (bu 14 (.x (.i y)) [(4,.x (.c (.pd (.v (.slice none 0 0))))),(5,.x (.c (.loc 0 0))),(13,.x (.c (.fn (.func 174) [] [.pd (.ref .int (i:Int) 0),.pd (.ref .stats l 0)])))]),ck:=(zCg2 pre),m:=3 }:=by
 show J Tryz.prog ⟨102,some lp⟩ (au Tryz.f102) Γ _ [.code [1,1,1,0,1,0,1]] { n:=20,fr:=[(4,.x (.c (.pd (.v (.slice none 0 0))))),(5,.x (.c (.loc 0 0))),(13,.x (.c (.fn (.func 174) [] [.pd (.ref .int (i:Int) 0),.pd (.ref .stats l 0)]))),(14,.x (.i (y:Int))),(6,.x (.i (y:Int)))],ck:=(zCg2 pre),m:=3 }
 refine J.goR (cfg:=qw) nR (fn:=GS Tryz.f102) (by kernel_rfl) 1000 (t:=(.need (room ((pre++[y]).length) 8) (.stop [] { n:=20,fr:=[(4,.p (.v (Value.slice none 0 0)))],ck:=[.cells [.own 3] 36,.dead,.dead,.own 3 .int (pre++[y])],m:=3 }))) (by kernel_rfl) ?_
 refine ⟨⟨by rw [ar]; show (_+1) * 8≤_; omega,by rw [ar]; show _+1≤_; unfold maxLen; omega⟩,?_⟩
 exact J.roundEnd hds (.inl ⟨rfl,trivial,rfl⟩)
theorem vZ {l:List Ev.Stat} {i:Int} (h:bR l i=true):bZ l=true∧0≤i∧i<(l.length:Int):=by
 unfold bR at h
 simp only [af,decide_eq_true_eq] at h
 obtain ⟨⟨a,b⟩,c⟩:=h
 exact ⟨by assumption,by assumption,by assumption⟩
abbrev zCg1 (a:Nat) (b:List Ev.Stat):List (Nat×SV):=[(4,.x (.c (.pd (.v (.slice none 0 0))))),(5,.x (.c (.loc 0 0))),(13,.x (.c (.fn (.func 174) [] [.pd (.ref .int (a:Int) 0),.pd (.ref .stats b 0)])))]
abbrev zCg3:List PI:=[.code [1,1,1,0,1,0],.inBlock 0,.code [1,1,1,1]]
theorem Fu (hh:bR l (i:Int)=true):ah Tryz.prog 102 [.l .stat l,.i (i:Int)] [] (.x (.c (.own 0))) [.own 3 .int (bb l i)]:=by
 have h1:=vZ hh
 have S:=iC h1.1
 have hf:=S.few
 have hl:l.length≤maxLen:=by unfold maxLen; omega
 have hi:i<l.length:=by omega
 have hkm:=jW l i
 refine dg nR Tryz.func102 (.need (l.length≤maxLen) (.ite (!bR l (i:Int)) (.ret (.p (.v (Value.slice none 0 0))) []) (.stop zCg3 { n:=20,fr:=[(4,.p (.v (Value.slice none 0 0))),(5,.x (.c (.loc 0 0))),(13,.x (.c (.fn (.func 174) [] [.loc 2 0,.loc 1 0])))],ck:=[.cells [.pd (.v (Value.slice none 0 0))] 36,.cells [.pd (.lst .stat l)] 24,.cells [.i i] 3] }))) fun Γ=>?_
 refine ⟨hl,fun h=>?_,fun _=>?_⟩
 · rw [hh] at h; cases h
 have rest:J Tryz.prog 102 (au Tryz.f102) Γ (Eq2 (.x (.c (.own 0))) [.own 3 .int (bb l i)]) zCg3 { n:=20,fr:=(zCg1 i l),ck:=[.cells [.own 3] 36,.dead,.dead,.own 3 .int []] }:=by
  refine J.rangeQ 3 (ok:=fun x=>0≤x∧x<(l.length:Int)) (xs:=bb l i) (g:=13) (s:=14) (d:=6) Tryz.func102 (by kernel_rfl) (by kernel_rfl) (by kernel_rfl) (by kernel_rfl) rfl (Go.Proofs.enters_of Tryz.func174 (by kernel_rfl) rfl) (by kernel_rfl) (by kernel_rfl) (by kernel_rfl) (by kernel_rfl) (tI l i hi hl)
   (fun _=>True) (fun _=>False) trivial (fun pre=>[.cells [.own 3] 36,.dead,.dead,.own 3 .int pre]) (fun pre=>[.cells [.own 3] 36,.dead,.dead,.own 3 .int pre]) rfl (fun _=>rfl) (fun _=>rfl) (fun _=>rfl) (fun _=>rfl)
   (fun lp pre x Γ hds _ _ _ hlen=>HN l i lp pre x Γ hds (by omega)) (fun _ Γ'=>?_) (fun _ _ hb=>hb.elim)
  generalize bb l i=pre
  show J Tryz.prog 102 (au Tryz.f102) Γ' _ _ { n:=20,fr:=(zCg1 i l),ck:=[.cells [.own 3] 36,.dead,.dead,.own 3 .int pre] }
  refine jg nR Tryz.func102 (.ret (.x (.c (.own 0))) [.own 3 .int pre]) ?_
  exact ⟨rfl,rfl⟩
 have rest2:J Tryz.prog 102 (au Tryz.f102) Γ (Eq2 (.x (.c (.own 0))) [.own 3 .int (bb l i)]) zCg3 { n:=20,fr:=(zCg1 i l),ck:=[.cells [.pd (.v (.slice none 0 0))] 36,.dead,.dead] }:=J.nilCk 0 0 3 .int rfl rfl (by kernel_rfl) rest
 exact J.freeze aY [1,2] (by kernel_rfl) rest2
theorem Co (i:Int) (h:bR l i=true):ah Tryz.prog 102 [.l .stat l,.i i] [] (.x (.c (.own 0))) [.own 3 .int (bb l i.toNat)]:=by
 obtain ⟨k,rfl⟩:=aD (vZ h).2.1
 rw [ai]
 exact Fu l k h
def jD:Ent:=(102,fun
 | [.c (.pd (.lst .stat l)),.c (.pd (.int .i64 i))],[]=>some (some (bR l i=true),.x (.c (.own 0)),[.own 3 .int (bb l i.toNat)])
 | _,_=>none)
theorem jR:EntOk Tryz.prog jD:=entOk fun vs ck=>by
 unfold jD; dsimp only; split
 · rename_i l i; exact entS fun hp=>Co l i hp
 · exact entN
end Go.Proofs.YtgfifkhbfdacjaaGreatDoor
namespace Go.Proofs.YtgfifkhbfdacjaaGreatDoor
open Go Go.Ev
set_option maxRecDepth 100000
variable (l:List Str)
def tw1 (i:Nat):Bool:=(l.take i).any fun y=>ETy.get .str l i==y
def nw (l:List Str):Nat→Nat→Bool
 | 0,_=>false
 | n+1,i=>tw1 l i||nw l n (i+1)
def dx:Bool:=nw l l.length 0
theorem I3 (l:List Str):∀ (n i:Nat),l.length - i=n→(nw l n i=true↔∃ k,i≤k∧k<l.length∧tw1 l k=true)
 | 0,i,h=>by rw [nw]; exact ⟨fun h=>(by cases h),fun ⟨k,h1,h2,_⟩=>by omega⟩
 | n + 1,i,h=>by
   rw [nw,aM,I3 l n (i+1) (by omega)]
   constructor
   · rintro (h1 | ⟨k,h1,h2,h3⟩)
     · exact ⟨i,aq _,by omega,h1⟩
     · exact ⟨k,by omega,h2,h3⟩
   · rintro ⟨k,h1,h2,h3⟩
     by_cases hk:k=i
     · subst hk; exact .inl h3
     · exact .inr ⟨k,by omega,h2,h3⟩
theorem td:dx l=false↔l.Nodup:=by
 unfold dx
 rw [← bX,I3 l l.length 0 (by omega),dS,di]
 constructor
 · intro h i j hi hj hij e
   refine h ⟨j,aQ _,hj,?_⟩
   unfold tw1
   rw [bn]
   refine ⟨l[i],?_,?_⟩
   · rw [dV]; exact ⟨i,by omega,rfl⟩
   · rw [ETy.get_eq (t:=.str) (List.getElem?_eq_getElem hj),e]; exact beq_self_eq_true _
 · rintro h ⟨k,_,h2,h3⟩
   unfold tw1 at h3
   rw [bn] at h3
   obtain ⟨y,hy,he⟩:=h3
   obtain ⟨i,hi,rfl⟩:=dV.1 hy
   rw [ETy.get_eq (t:=.str) (List.getElem?_eq_getElem h2)] at he
   exact h i k (by omega) h2 (by omega) (eq_of_beq he).symm
theorem HB:(fk l).Pairwise fun x y=>x≤y:=by
 have h:=List.pairwise_mergeSort (le:=fun x y:Str=>decide (x≤y)) (fun a b c h1 h2=>decide_eq_true (List.le_trans (of_decide_eq_true h1) (of_decide_eq_true h2))) (fun a b=>by
  rcases List.le_total a b with h | h
  · rw [decide_eq_true h]; rfl
  · rw [decide_eq_true h,Bool.or_true]) l
 exact h.imp fun h=>of_decide_eq_true h
theorem FS (s:List Str):(c5 s).length=s.length↔∀ j,j<s.length→Lib.keeps s.toArray j=true:=by
 unfold c5 Lib.compact Lib.compactUpTo
 rw [aN]
 constructor
 · intro h j hj
   have h2:((List.range s.length).filter (Lib.keeps s.toArray)).length=(List.range s.length).length:=by rw [h,dE]
   exact (List.length_filter_eq_length_iff.1 h2) j (bz.2 hj)
 · intro h
   rw [ei.2 fun j hj=>h j (bz.1 hj),dE]
theorem EG {s:List Str} (hs:s.Pairwise fun x y=>x≤y):(∀ j,j<s.length→Lib.keeps s.toArray j=true)↔s.Nodup:=by
 rw [dS,di]
 rw [di] at hs
 constructor
 · intro h i j hi hj hij e
   have h1:=h j hj
   unfold Lib.keeps at h1
   have h2:=of_decide_eq_true h1
   rcases h2 with h2 | h2
   · omega
   · refine h2 ?_
     rw [getElem!_pos s.toArray j (by simpa using hj),getElem!_pos s.toArray (j - 1) (by simp; omega)]
     simp only [List.getElem_toArray]
     have h3:s[j - 1]≤s[j]:=hs (j - 1) j (by omega) hj (by omega)
     have h4:s[i]≤s[j - 1]:=by
      by_cases h5:i=j - 1
      · subst h5; exact List.le_refl _
      · exact hs i (j - 1) hi (by omega) (by omega)
     exact List.le_antisymm (e ▸ h4) h3
 · intro h j hj
   unfold Lib.keeps
   refine decide_eq_true ?_
   by_cases h0:j=0
   · exact .inl h0
   · refine .inr ?_
     rw [getElem!_pos s.toArray j (by simpa using hj),getElem!_pos s.toArray (j - 1) (by simp; omega)]
     simp only [List.getElem_toArray]
     exact fun e=>h (j - 1) j (by omega) hj (by omega) e.symm
theorem mG:gu l=true↔l.Nodup:=by
 unfold gu
 have h:(((c5 (fk l)).length:Int)==((fk l).length:Int))=true↔(c5 (fk l)).length=(fk l).length:=by rw [beq_iff_eq]; omega
 rw [h,FS,EG (HB l)]
 exact (List.mergeSort_perm l _).nodup_iff
theorem r3:gu l = !dx l:=by
 rw [bp,mG,← td]; simp
end Go.Proofs.YtgfifkhbfdacjaaGreatDoor
namespace Go.Proofs.YtgfifkhbfdacjaaGreatDoor
open Go Go.Ev
set_option maxRecDepth 100000
variable (l:List Ev.Stat) (s n:Str)
theorem vq:(s==eX++n)=true↔dC s eX=true∧dA s eX=n:=by
 have e5:aB eX=5:=rfl
 have el:aB s=(s.length:Int):=rfl
 rw [beq_iff_eq]
 constructor
 · rintro rfl
   have h:dC (eX++n) eX=true:=by
    unfold dC
    rw [af]
    refine ⟨decide_eq_true ?_,?_⟩
    · rw [el,e5,ar]; show _≥(5:Int); have:eX.length=5:=rfl
      omega
    · rw [e5]; exact beq_iff_eq.2 (List.take_left' rfl)
   refine ⟨h,?_⟩
   unfold dA
   rw [h,cond_true,e5]; exact List.drop_left' rfl
 · rintro ⟨h,hn⟩
   unfold dA at hn
   rw [h,cond_true,e5] at hn
   unfold dC at h
   rw [af,e5] at h
   have h2:s.take 5=eX:=eq_of_beq h.2
   rw [← hn]
   calc s=s.take 5++s.drop 5:=(cq 5 s).symm
    _=_:=by rw [h2]; rfl
def gT:Bool:=l.any fun x:Ev.Stat=>(x.kind==2||x.kind==3)&&s==eX++x.name
def lg (c:Chart) (s:Str):Bool:=s==[]||s==nP||c.events.any fun x=>s==x
theorem iH:(az l n = -1∧∀ x∈l,x.name≠n)∨∃ k:Nat,az l n=(k:Int)∧k<l.length∧(ETy.get .stat l k).name=n:=by
 unfold az
 rcases iK (fun s:Ev.Stat=>s.name==n) l 0 with ⟨h1,h2⟩ | ⟨k,x,h1,h2,h3⟩
 · refine .inl ⟨h1,fun x hx e=>?_⟩
   have:=List.find?_eq_none.1 h2 x hx
   simp [e] at this
 · refine .inr ⟨k,by rw [a8] at h1; exact h1,(List.getElem?_eq_some_iff.1 h2).1,?_⟩
   rw [ETy.get_eq (t:=.stat) h2]
   have:=List.find?_some h3
   exact eq_of_beq this
theorem vF {l:List Ev.Stat} (hn:(l.map fun s:Ev.Stat=>s.name).Nodup) {i j:Nat} (hi:i<l.length) (hj:j<l.length) (h:(ETy.get .stat l i).name=(ETy.get .stat l j).name):i=j:=by
 rw [ETy.get_eq (t:=.stat) (List.getElem?_eq_getElem hi),ETy.get_eq (t:=.stat) (List.getElem?_eq_getElem hj)] at h
 rw [dS,di] at hn
 rcases Nat.lt_trichotomy i j with h1 | h1 | h1
 · exact absurd (by rw [List.getElem_map,List.getElem_map]; exact h) (hn i j (by simpa using hi) (by simpa using hj) h1)
 · exact h1
 · exact absurd (by rw [List.getElem_map,List.getElem_map]; exact h.symm) (hn j i (by simpa using hj) (by simpa using hi) h1)
theorem HP {c:Chart} (hn:(c.states.map fun s:Ev.Stat=>s.name).Nodup) (s:Str):gE c s=(lg c s||gT c.states s):=by
 unfold gE
 show (if lg c s=true then true else _)=_
 cases lg c s
 · rw [if_neg (by decide),bf]
   unfold gT
   rw [bp,bn]
   constructor
   · intro h
     simp only [af,decide_eq_true_eq] at h
     obtain ⟨⟨h1,h2⟩,h3⟩:=h
     rcases iH c.states (dA s eX) with ⟨e,_⟩ | ⟨k,e,hk,hx⟩
     · rw [e] at h2; exact absurd h2 (by decide)
     · rw [e,ai] at h3
       refine ⟨ETy.get .stat c.states k,?_,?_⟩
       · rw [ETy.get_eq (t:=.stat) (List.getElem?_eq_getElem hk)]; exact bo hk
       · rw [af]
         exact ⟨h3,(vq s _).2 ⟨h1,hx.symm⟩⟩
   · rintro ⟨x,hx,h⟩
     rw [af] at h
     obtain ⟨h1,h2⟩:=(vq s _).1 h.2
     obtain ⟨j,hj,rfl⟩:=List.mem_iff_getElem.1 hx
     rcases iH c.states (dA s eX) with ⟨e,hno⟩ | ⟨k,e,hk,hy⟩
     · exact absurd h2.symm (hno _ (bo hj))
     · have ej:ETy.get .stat c.states j=c.states[j]:=ETy.get_eq (t:=.stat) (List.getElem?_eq_getElem hj)
       have:k=j:=vF hn hk hj (by rw [hy,ej]; exact h2)
       subst this
       rw [e,ai,h1,decide_eq_true (show (k:Int)≥0 by omega),ej]
       exact h.1
 · rfl
end Go.Proofs.YtgfifkhbfdacjaaGreatDoor
namespace Go.Proofs.YtgfifkhbfdacjaaGreatDoor
open Go Go.Ev
set_option maxRecDepth 100000
theorem jH {b:Bool} {e:Int} (he:e≠0):bT b e=0↔b=true:=by
 unfold bT
 cases b
 · rw [if_neg (by decide)]; exact ⟨fun h=>absurd h he,fun h=>(by cases h)⟩
 · rw [if_pos rfl]; exact ⟨fun _=>rfl,fun _=>rfl⟩
theorem and_zero {e r:Int}:fU e r=0↔e=0∧r=0:=by
 unfold fU
 by_cases h:e=0
 · subst h
   rw [if_neg (by decide)]; exact ⟨fun h=>⟨rfl,h⟩,fun h=>h.2⟩
 · rw [if_pos (by simpa using h)]; exact ⟨fun h2=>absurd h2 h,fun h2=>absurd h2.1 h⟩
theorem rT (f:Nat→Int):∀ (m k:Nat),bQ f k m=0↔∀ j,k≤j→j<k+m→f j=0
 | 0,k=>by rw [bQ]; exact ⟨fun _ j h1 h2=>by omega,fun _=>rfl⟩
 | m + 1,k=>by
   rw [bQ]
   by_cases h:f k=0
   · rw [h,if_neg (by decide),rT f m (k+1)]
     refine ⟨fun h2 j h3 h4=>?_,fun h2 j h3 h4=>h2 j (by omega) (by omega)⟩
     by_cases hj:j=k
     · subst hj; exact h
     · exact h2 j (by omega) (by omega)
   · rw [if_pos (by simpa using h)]
     exact ⟨fun h2=>absurd h2 h,fun h2=>absurd (h2 k (aq _) (by omega)) h⟩
structure Valid (c:Chart):Prop where
 few:gW c=true
 names:∀ s∈c.name::c.events++(c.vars.map fun v:Var=>v.name)++c.states.map fun s:Ev.Stat=>s.name,aZ s=true
 events:c.events.Nodup
 vars:(c.vars.map fun v:Var=>v.name).Nodup
 states:(c.states.map fun s:Ev.Stat=>s.name).Nodup
 tree:bZ c.states=true
 inits:∀ k,k<c.states.length→dd c.states k=0
 kinds:∀ k,k<c.vars.length→dY (ETy.get .var c.vars k)=0
 blocks:∀ k,k<c.states.length→cQ c (ETy.get .stat c.states k)=0
 trans:∀ k,k<c.trans.length→cK c k (c6 c.states) (ETy.get .tran c.trans k)=0
theorem iB (c:Chart):bC c=0↔Valid c:=by
 unfold bC q0E q1E q2E q3E q4E q5E q6E q7E
 simp only [and_zero,jH (show (4:Int)≠0 by decide),jH (show (2:Int)≠0 by decide),jH (show (3:Int)≠0 by decide),jH (show (9:Int)≠0 by decide),rT]
 have hn:(!(fF c (c.vars.map fun v:Var=>v.name) (c.states.map fun s:Ev.Stat=>s.name)).any fun s:Str=>!aZ s)=true↔∀ s∈c.name::c.events++(c.vars.map fun v:Var=>v.name)++c.states.map fun s:Ev.Stat=>s.name,aZ s=true:=by
  unfold fF
  rw [mR,aH,← bX,bn]
  simp only [List.flatten_cons,List.flatten_nil,aL,List.singleton_append,bL,bA]
  constructor
  · intro h s hs
    cases hb:aZ s
    · exact absurd ⟨s,hs,by rw [hb]; rfl⟩ h
    · rfl
  · rintro h ⟨s,hs,hb⟩
    rw [h s hs] at hb; cases hb
 have ht:iV c (c.vars.map fun v:Var=>v.name) (c.states.map fun s:Ev.Stat=>s.name)=true↔c.events.Nodup∧(c.vars.map fun v:Var=>v.name).Nodup∧(c.states.map fun s:Ev.Stat=>s.name).Nodup:=by
  unfold iV
  rw [af,af,mG,mG,mG,and_assoc]
 rw [hn,ht]
 constructor
 · rintro ⟨h0,h1,⟨h2,h3,h4⟩,h5,h6,h7,h8,h9,_⟩
   exact ⟨h0,h1,h2,h3,h4,h5,fun k hk=>h6 k (by omega) (by omega),fun k hk=>h7 k (by omega) (by omega),fun k hk=>h8 k (by omega) (by omega),fun k hk=>h9 k (by omega) (by omega)⟩
 · intro v
   exact ⟨v.few,v.names,⟨v.events,v.vars,v.states⟩,v.tree,fun k _ hk=>v.inits k (by omega),fun k _ hk=>v.kinds k (by omega),fun k _ hk=>v.blocks k (by omega),fun k _ hk=>v.trans k (by omega),trivial⟩
/-! ### without one of its transitions -/
theorem qn (c:Chart) (i:Nat) (real:List Str) (t:Tran):cK c i real t=0↔fQ c i t=false∧gE c t.event=true∧(t.guard=[]∨((bY t.guard c.vars real).2=0∧(bY t.guard c.vars real).1=2))∧eu c t=0:=by
 unfold cK
 cases hb:fQ c i t
 · rw [if_neg (by decide)]
   cases he:gE c t.event
   · rw [if_pos (by decide)]; exact ⟨fun h=>absurd h (by decide),fun h=>(by cases h.2.1)⟩
   · rw [if_neg (by decide)]
     by_cases hg:t.guard=[]
     · rw [hg,if_neg (by decide)]
       exact ⟨fun h=>⟨rfl,rfl,.inl rfl,h⟩,fun h=>h.2.2.2⟩
     · have hp:0<t.guard.length:=List.length_pos_iff.2 hg
       rw [if_pos (decide_eq_true (by omega))]
       by_cases h2:(bY t.guard c.vars real).2=0
       · rw [if_neg (by rw [h2]; decide)]
         by_cases h1:(bY t.guard c.vars real).1=2
         · rw [if_neg (by rw [h1]; decide)]
           exact ⟨fun h=>⟨rfl,rfl,.inr ⟨h2,h1⟩,h⟩,fun h=>h.2.2.2⟩
         · rw [if_pos (by simpa using h1)]
           exact ⟨fun h=>absurd h (by decide),fun h=>(h.2.2.1.elim hg fun h=>h1 h.2).elim⟩
       · rw [if_pos (by simpa using h2)]
         exact ⟨fun h=>absurd h h2,fun h=>(h.2.2.1.elim hg fun h=>h2 h.1).elim⟩
 · rw [if_pos rfl]; exact ⟨fun h=>absurd h (by decide),fun h=>(by cases h.1)⟩
theorem mV (c:Chart):gW c=true↔c.events.length≤12∧c.vars.length≤8∧c.states.length≤40∧c.trans.length≤48:=by
 unfold gW
 simp only [af,decide_eq_true_eq]
 omega
/-! ### its names are found -/
theorem Gi {c:Chart} (v:Valid c) {i:Nat} (hi:i<c.trans.length) (h:(ETy.get .tran c.trans i).dst≠[]):0≤az c.states (ETy.get .tran c.trans i).dst:=by
 have h0:=((qn c i _ _).1 (v.trans i hi)).2.2.2
 unfold eu at h0
 rw [if_pos (by simpa using h)] at h0
 split at h0
 · exact absurd h0 (by decide)
 · rename_i h2
   have:=of_decide_eq_false (bX _ ▸ h2)
   omega
end Go.Proofs.YtgfifkhbfdacjaaGreatDoor
namespace Go.Proofs.YtgfifkhbfdacjaaGreatDoor
open Go Go.Ev
set_option maxRecDepth 100000
abbrev knd (l:List Ev.Stat) (k:Nat):Int:=(ETy.get .stat l k).kind
def IW (l:List Ev.Stat) (p j:Nat):Prop:=upM l j=(p:Int)∧(knd l p=3∨(knd l p=2∧(ETy.get .stat l p).initial=(ETy.get .stat l j).name))
structure Tre (l:List Ev.Stat):Prop where
 right:bZ l=true
 names:(l.map fun s:Ev.Stat=>s.name).Nodup
 inits:∀ k,k<l.length→dd l k=0
theorem Valid.tre {c:Chart} (v:Valid c):Tre c.states:=⟨v.tree,v.states,v.inits⟩
variable {l:List Ev.Stat}
theorem Tre.shp (t:Tre l):Shp l:=iC t.right
theorem Tre.init (t:Tre l) {k:Nat} (hk:k<l.length) (h2:knd l k=2):∃ q:Nat,az l (ETy.get .stat l k).initial=(q:Int)∧q<l.length∧upM l q=(k:Int)∧(ETy.get .stat l q).name=(ETy.get .stat l k).initial∧aO (knd l q)=false:=by
 have h0:=t.inits k hk
 unfold dd at h0
 have h2':(ETy.get .stat l k).kind=2:=h2
 rw [h2',if_neg (by decide)] at h0
 rcases iH l (ETy.get .stat l k).initial with ⟨e,_⟩ | ⟨q,e,hq,hn⟩
 · rw [e] at h0
   rw [show decide ((-1:Int)<0)=true by decide,b6,if_pos rfl] at h0
   exact absurd h0 (by decide)
 · rw [e,ai] at h0
   rw [decide_eq_false (by omega),bf] at h0
   cases hp:aO (ETy.get .stat l q).kind
   · rw [hp,if_neg (by decide),if_pos (by decide),jH (by decide),fY t.right hq,dK t.shp hq] at h0
     exact ⟨q,e,hq,eq_of_beq h0,hn,hp⟩
   · rw [hp,if_pos rfl] at h0
     exact absurd h0 (by decide)
theorem rX (h:bZ l=true) {k:Nat} (hk:k<l.length):pG l k=true:=by
 unfold bZ at h
 rw [af] at h
 exact (pS l l.length 0 (by omega)).1 h.2 k (aQ _) hk
theorem Tre.both (t:Tre l) {k m:Nat} (hm:m<l.length) (hu:upM l m=(k:Int)):knd l k=2∨(knd l k=3∧knd l m≤3):=by
 have hk:k<m:=((cB t.shp hm).1 hu).1
 exact ((jb t.shp (by omega)).1 (rX t.right (by omega))).1 m hm hu
theorem gB (l:List Ev.Stat) {k q:Nat} (hk:k<l.length) (h1:k<q) (h2:q<endM l k):endM l q≤endM l k:=by
 have h3:=c7 l hk
 have h4:=c7 l (i:=q) (by omega)
 by_cases h:endM l q≤endM l k
 · exact h
 · have h5:=fL l q (endM l k) h2 (by omega)
   have h6:=fL l k q h1 h2
   have h7:=xw l k (by omega)
   omega
theorem qz (t:Tre l) {k:Nat} (hk:k<l.length) {y:Int} (hy:y∈bb l k):∃ m:Nat,y=(m:Int)∧m<l.length∧k<m∧m<endM l k∧upM l m=(k:Int):=by
 obtain ⟨m,e,hm,hu⟩:=(dW t.shp hk y).1 hy
 have:=(cB t.shp hm).1 hu
 exact ⟨m,e,hm,this.1,this.2.1,hu⟩
theorem lS (l:List Ev.Stat) (e:Nat):∀ n k,e≤l.length→(dz l e n k).Pairwise (fun x y=>((endM l x.toNat:Nat):Int)≤y)∧∀ y∈dz l e n k,(k:Int)≤y
 | 0,_,_=>by rw [dz]; exact ⟨.nil,fun y h=>(by cases h)⟩
 | n + 1,k,he=>by
   rw [dz]
   by_cases hk:k<e
   · rw [if_pos hk]
     have ih:=lS l e n (endM l k) he
     have h1:=c7 l (i:=k) (by omega)
     refine ⟨cy.2 ⟨fun y hy=>by rw [ai]; exact ih.2 y hy,ih.1⟩,fun y hy=>?_⟩
     rcases aJ.1 hy with rfl | hy
     · omega
     · have:=ih.2 y hy; omega
   · rw [if_neg hk]; exact ⟨.nil,fun y h=>(by cases h)⟩
inductive Begun (l:List Ev.Stat) (i:Nat):Nat→Prop where
 | self:Begun l i i
 | step {p j:Nat}:Begun l i p→j<l.length→IW l p j→Begun l i j
theorem Begun.lt (t:Tre l) {i j:Nat} (hi:i<l.length) (h:Begun l i j):j<l.length∧i≤j:=by
 induction h with
 | self=>exact ⟨hi,aq _⟩
 | step h1 h2 h3 ih=>exact ⟨h2,by have:=((cB t.shp h2).1 h3.1).1; omega⟩
theorem Begun.head {i q j:Nat} (hq:q<l.length) (h:IW l i q) (hb:Begun l q j):Begun l i j:=by
 induction hb with
 | self=>exact .step .self hq h
 | step _ h2 h3 ih=>exact .step ih h2 h3
theorem k6:∀ {a b:List Int},a.Pairwise (· < ·)→b.Pairwise (· < ·)→(∀ y,y∈a↔y∈b)→a=b
 | [],[],_,_,_=>rfl
 | [],y::b,_,_,h=>by have:=(h y).2 ax; cases this
 | x::a,[],_,_,h=>by have:=(h x).1 ax; cases this
 | x :: a,y::b,ha,hb,h=>by
   rw [cy] at ha hb
   have e:x=y:=by
    rcases aJ.1 ((h x).1 ax) with h1 | h1
    · exact h1
    · rcases aJ.1 ((h y).2 ax) with h2 | h2
      · exact h2.symm
      · have:=hb.1 x h1; have:=ha.1 y h2; omega
   subst e
   rw [k6 ha.2 hb.2 fun z=>⟨fun hz=>?_,fun hz=>?_⟩]
   · rcases aJ.1 ((h z).1 (aI _ hz)) with rfl | h2
     · have:=ha.1 z hz; omega
     · exact h2
   · rcases aJ.1 ((h z).2 (aI _ hz)) with rfl | h2
     · have:=hb.1 z hz; omega
     · exact h2
theorem oh (n:Nat) (p:Nat→Bool):(((List.range n).filter p).map fun j:Nat=>(j:Int)).Pairwise (· < ·):=by
 rw [List.pairwise_map]
 exact (List.pairwise_lt_range.filter p).imp fun h=>by omega
end Go.Proofs.YtgfifkhbfdacjaaGreatDoor
namespace Go.Proofs.YtgfifkhbfdacjaaGreatDoor
open Go Go.Ev
set_option maxRecDepth 100000
theorem AF (k:Int):ah Tryz.prog 151 [.i k] [] (.x (.b (aO k))) []:=by
 refine dg aR Tryz.func151 (.ret (.p (.bool (k==(5:Int)||k==(6:Int)))) []) fun Γ=>?_
 exact ⟨rfl,rfl⟩
def qD:Ent:=(151,fun
 | [.c (.pd (.int .i64 k))],[]=>some (none,.x (.c (.pd (.bool (aO k)))),[])
 | _,_=>none)
theorem C5:EntOk Tryz.prog qD:=entOk fun vs ck=>by
 unfold qD; dsimp only; split
 · rename_i k; exact entS fun hp=>AF k
 · exact entN
def Eh:Cfg:=⟨aY,[n7]⟩
theorem EP:ag Tryz.prog Eh.tab:=(ag.cons tA ag.nil)
theorem yC (c:Chart) (h:c.vars.length≤2199023255552∧c.states.length≤2199023255552):ah Tryz.prog 105 [.e .chart c] [] (.x (.b (bC c==0))) []:=by
 refine dg EP Tryz.func105 (.need (c.vars.length≤2199023255552∧c.states.length≤2199023255552) (.ret (.p (.bool (bC c==(0:Int)))) [])) fun Γ=>?_
 exact ⟨h,rfl,rfl⟩
def oR:Ent:=(105,fun
 | [.agg [.pd (.str a),.pd (.lst .str b),.pd (.lst .var c),.pd (.lst .stat d),.pd (.lst .tran e)]],[]=>some (some (c.length≤2199023255552∧d.length≤2199023255552),.x (.c (.pd (.bool (bC ⟨a,b,c,d,e⟩==0)))),[])
 | _,_=>none)
theorem BG:EntOk Tryz.prog oR:=entOk fun vs ck=>by
 unfold oR; dsimp only; split
 · rename_i a b c d e; exact entS fun hp=>yC ⟨a,b,c,d,e⟩ hp
 · exact entN
/-! ### down -/
end Go.Proofs.YtgfifkhbfdacjaaGreatDoor
