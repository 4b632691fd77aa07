/- Contracts: the document's Some. Conditions: sizes. Contracts: the document's Some, whole. Conditions: a valid chart, bytes. Contracts: arguments that read as others; a mark. Conditions: none. Contracts: conf: Names; the document's Leaves, Names. Conditions: sizes. -/
import Derived.Test.YtgfifkhbfdacjaaGreatDoorCq
import Derived.Test.YtgfifkhbfdacjaaGreatDoorVk
import Derived.Test.YtgfifkhbfdacjaaGreatDoorTq
import Derived.Test.YtgfifkhbfdacjaaGreatDoorKb
namespace Go.Proofs.YtgfifkhbfdacjaaGreatDoor
open Go Go.Ev
set_option maxRecDepth 100000
abbrev zJ19Cr:=J Tryz.prog 19 (au Tryz.f19)
abbrev zCr1 (a:Chart):Chunk:=.cells [.pd (.str a.name),.pd (.lst .str a.events),.pd (.lst .var a.vars),.pd (.lst .stat a.states),.pd (.lst .tran a.trans)] 27
abbrev zCr2:List PI:=[.code [1,1,1,0,1,0,0],.inLoop [1,1,1,0,1,0,0],.inBlock 0,.code [1,1,1,1]]
theorem Hs (c:Chart) (p:List Int) (m:Int) (k:Nat) (rl:List Int) (hl:rl.length≤1000) (N:Nat) (hrl:∀ y∈rl,0≤y∧y<(N:Int)) (Γ:Ctx) (Q:Out) (fin:List Bool)
 (hcont:zJ19Cr Γ Q zCr2 ({ n:=132,fr:=[(1,.p (.lst .byte p)),(2,.x (.c (.loc 0 0))),(4,.p (.v (Value.slice none 0 0))),(5,.x (.c (.own 1))),(6,.i m),(7,.i ((IntKind.wrap .i64 ((k:Int)+1))))],ck:=[zCr1 c,.own 4 .bool fin] })) (h2:((ETy.get .stat c.states k).kind==2)=false) (hk:k<c.states.length):∀ (n j:Nat) (a:List Bool),rl.length - j≤n→j≤rl.length→a.length=N→gC a (rl.drop j)=fin →
 zJ19Cr Γ Q [.code [1,1,1,0,1,0,0,1,0,0,1,1,1,1,1,0,1,0,1,0,0],.inLoop [1,1,1,0,1,0,0,1,0,0,1,1,1,1,1,0,1,0,1,0,0],.inBlock 4,.code [1,1,1,0,1,0,0,1,0,0,1,1,1,1,1,1],.inBlock 1,.code [1,1,1,0,1,0,0,1,1],.inLoop [1,1,1,0,1,0,0],.inBlock 0,.code [1,1,1,1]] ({ n:=132,fr:=[(1,.p (.lst .byte p)),(2,.x (.c (.loc 0 0))),(4,.p (.v (Value.slice none 0 0))),(5,.x (.c (.own 1))),(6,.i m),(7,.i k),(9,.x (.c (.own 2))),(11,.i ((j:Int)))],ck:=[zCr1 c,.own 4 .bool a,.own 3 .int rl] }):=by
 have hm:rl.length≤maxLen:=by unfold maxLen; omega
 intro n
 induction n with
 | zero=>?_
 | succ n ih=>?_
 all_goals
  intro j a hn hj ha hf
  refine jg gH Tryz.func19 (let x1:=(IntKind.wrap .i64 (ETy.get .byte p ((Int.tmod m (p.length:Int)).toNat))); let x8:Nat×SV:=(2,.x (.c (.loc 0 0))); let x5:Nat×SV:=(4,.p (.v (Value.slice none 0 0))); let x7:=(IntKind.wrap .i64 ((k:Int)+1)); let x2:List (Nat×SV):=[(1,.p (.lst .byte p)),x8,x5,(5,.x (.c (.own 1))),(6,.i (IntKind.wrap .i64 (m+(1:Int)))),(7,.i x7)]; let x3:List PI:=zCr2; let x4:=(Int.tmod x1 (rl.length:Int)); let x6:List Nat:=[1,1,1,0,1,0,0,1,0,0,1,1,1,1,1,0,1,0,1,0,0]; .ite (decide ((j:Int)<(rl.length:Int))) (.need (inRg j rl.length) (.need (j<rl.length) (.need ((0:Int)≤ETy.get .int rl j∧ETy.get .int rl j<(a.length:Int)) (.need ((ETy.get .int rl j).toNat<a.length) (.stop [.code x6,.inLoop x6,.inBlock 4,.code [1,1,1,0,1,0,0,1,0,0,1,1,1,1,1,1],.inBlock 1,.code [1,1,1,0,1,0,0,1,1],.inLoop [1,1,1,0,1,0,0],.inBlock 0,.code [1,1,1,1]] { n:=132,fr:=[(1,.p (.lst .byte p)),x8,x5,(5,.x (.c (.own 1))),(6,.i m),(7,.i k),(9,.x (.c (.own 2))),(11,.i (IntKind.wrap .i64 ((j:Int)+1)))],ck:=[zCr1 c,.own 4 .bool (List.set a ((ETy.get .int rl j).toNat) true),.own 3 .int rl] }))))) (.need (inRg k c.states.length) (.ite (Stat.kind (ETy.get .stat c.states k)==(2:Int)) (.ite (decide ((p.length:Int)>0)) (.need ((p.length:Int)≠(0:Int)) (.need ((0:Int)≤Int.tmod m (p.length:Int)∧Int.tmod m (p.length:Int)<(p.length:Int)) (.need ((rl.length:Int)≠(0:Int)) (.need ((0:Int)≤Int.tmod x1 (rl.length:Int)∧Int.tmod x1 (rl.length:Int)<(rl.length:Int)) (.need (x4.toNat<rl.length) (.need ((0:Int)≤ETy.get .int rl (x4.toNat)∧ETy.get .int rl (x4.toNat)<(a.length:Int)) (.need ((ETy.get .int rl (x4.toNat)).toNat<a.length) (.stop x3 { n:=132,fr:=x2,ck:=[zCr1 c,.own 4 .bool (List.set a ((ETy.get .int rl (x4.toNat)).toNat) true)] })))))))) (.need ((rl.length:Int)≠(0:Int)) (.need ((0:Int)≤Int.tmod (0:Int) (rl.length:Int)∧Int.tmod (0:Int) (rl.length:Int)<(rl.length:Int)) (.need (0<rl.length) (.need ((0:Int)≤ETy.get .int rl 0∧ETy.get .int rl 0<(a.length:Int)) (.need ((ETy.get .int rl 0).toNat<a.length) (.stop x3 { n:=132,fr:=x2,ck:=[zCr1 c,.own 4 .bool (List.set a ((ETy.get .int rl 0).toNat) true)] }))))))) (.stop x3 { n:=132,fr:=[(1,.p (.lst .byte p)),x8,x5,(5,.x (.c (.own 1))),(6,.i m),(7,.i x7)],ck:=[zCr1 c,.own 4 .bool a] })))) ?_
  conv=>zeta
  refine ⟨fun hlt=>?_,fun hge=>?_⟩
  · have hj':j<rl.length:=by have:=of_decide_eq_true hlt; omega
    have hy:=hrl (ETy.get .int rl j) (by rw [ETy.get_eq (t:=.int) (List.getElem?_eq_getElem hj')]; exact bo hj')
    have ed:rl.drop j=ETy.get .int rl j::rl.drop (j+1):=bD (t:=.int) (l:=rl) hj'
    rw [ed,gC] at hf
    have hy2:0≤ETy.get .int rl j∧ETy.get .int rl j<(a.length:Int):=by rw [ha]; exact hy
    refine ⟨⟨by omega,by omega⟩,hj',hy2,iE hy2,?_⟩
    rw [aX (aE hj' hm)]
    first
    | (exfalso; omega)
    | exact ih (j+1) _ (by omega) (by omega) (by rw [bt]; exact ha) hf
  · have hje:rl.drop j=[]:=bO (by have:=of_decide_eq_false hge; omega)
    rw [hje,gC] at hf
    subst hf
    exact ⟨⟨by omega,by omega⟩,fun h=>absurd (h.symm.trans h2) (by decide),fun _=>hcont⟩
theorem oH {x:Int} {n:Nat} (hx:0≤x) (hn:0<n):0≤Int.tmod x (n:Int)∧Int.tmod x (n:Int)<(n:Int):=⟨Int.tmod_nonneg _ hx,Int.tmod_lt_of_pos x (by omega)⟩
theorem w9 {p:List Int} (hp:∀ b∈p,0≤b∧b≤255) (k:Nat):0≤IntKind.wrap .i64 (ETy.get .byte p k):=by
 by_cases hk:k<p.length
 · have h:=hp p[k] (bo hk)
   rw [ETy.get_eq (t:=.byte) (List.getElem?_eq_getElem hk),cg (n:=p[k]) (by omega) (by omega)]; exact h.1
 · have e:ETy.get .byte p k=(0:Int):=by
    unfold ETy.get
    rw [List.getD_eq_getElem?_getD,List.getElem?_eq_none (by omega)]; rfl
   rw [e]; decide
theorem Ag (l:List Ev.Stat) {p:List Int} (hp:∀ b∈p,0≤b∧b≤255) (i:Nat) (m:Int) (hr:0<(gQ l i).length):chM l p i m∈gQ l i:=by
 unfold chM
 split
 · have h:=oH (w9 hp (Int.tmod m (p.length:Int)).toNat) hr
   have h2:=iE h
   rw [ETy.get_eq (t:=.int) (List.getElem?_eq_getElem h2)]; exact bo h2
 · rw [ETy.get_eq (t:=.int) (List.getElem?_eq_getElem hr)]; exact bo hr
theorem qX {l:List Ev.Stat} (t:Tre l) {p:List Int} (hp:∀ b∈p,0≤b∧b≤255):se l (chM l p):=by
 intro i n hi hk
 have h:=Ag l hp i n (vp t hi (.inl hk))
 obtain ⟨q,e,h1,h2,h3⟩:=(mM t.shp hi _).1 h
 exact ⟨q,e,h1,h2,h3⟩
theorem L6 (c:Chart) (t:Tre c.states) (p:List Int) (hp:∀ b∈p,0≤b∧b≤255) (a:List Bool) (m:Int) (k:Nat) (ha:a.length=c.states.length) (hk:k<c.states.length) (hm0:0≤m) (Γ:Ctx) (Q:Out)
 (h3:((ETy.get .stat c.states k).kind==3)=true→zJ19Cr Γ Q zCr2 ({ n:=132,fr:=[(1,.p (.lst .byte p)),(2,.x (.c (.loc 0 0))),(4,.p (.v (Value.slice none 0 0))),(5,.x (.c (.own 1))),(6,.i m),(7,.i ((IntKind.wrap .i64 ((k:Int)+1))))],ck:=[zCr1 c,.own 4 .bool (gC a (gQ c.states k))] }))
 (h2:((ETy.get .stat c.states k).kind==2)=true→zJ19Cr Γ Q zCr2 ({ n:=132,fr:=[(1,.p (.lst .byte p)),(2,.x (.c (.loc 0 0))),(4,.p (.v (Value.slice none 0 0))),(5,.x (.c (.own 1))),(6,.i ((IntKind.wrap .i64 (m+1)))),(7,.i ((IntKind.wrap .i64 ((k:Int)+1))))],ck:=[zCr1 c,.own 4 .bool (a.set (chM c.states p k m).toNat true)] }))
 (h1:((ETy.get .stat c.states k).kind==3)=false→((ETy.get .stat c.states k).kind==2)=false→zJ19Cr Γ Q zCr2 ({ n:=132,fr:=[(1,.p (.lst .byte p)),(2,.x (.c (.loc 0 0))),(4,.p (.v (Value.slice none 0 0))),(5,.x (.c (.own 1))),(6,.i m),(7,.i ((IntKind.wrap .i64 ((k:Int)+1))))],ck:=[zCr1 c,.own 4 .bool a] }))
 (ks:List Int) (hks:ks=cN c.states (k:Int) c.states.length) :
 zJ19Cr Γ Q [.code [1,1,1,0,1,0,0,1,0,0,1,1,1,1,0,1,0,0],.inLoop [1,1,1,0,1,0,0,1,0,0,1,1,1,1,0,1,0,0],.inBlock 2,.code [1,1,1,0,1,0,0,1,0,0,1,1,1,1,1],.inBlock 1,.code [1,1,1,0,1,0,0,1,1],.inLoop [1,1,1,0,1,0,0],.inBlock 0,.code [1,1,1,1]] ({ n:=132,fr:=[(1,.p (.lst .byte p)),(2,.x (.c (.loc 0 0))),(4,.p (.v (Value.slice none 0 0))),(5,.x (.c (.own 1))),(6,.i m),(7,.i k),(8,.x (.c (.own 2))),(9,.p (.v (Value.slice none 0 0))),(10,.i (0))],ck:=[zCr1 c,.own 4 .bool a,.own 3 .int ks] }):=by
 have hfew:=t.shp.few
 have hkl:=pM c.states (k:Int) c.states.length
 rw [← hks] at hkl
 have hkin:∀ y∈ks,0≤y∧y<(c.states.length:Int):=fun y hy=>xr c.states (k:Int) (by rw [hks] at hy; exact hy)
 have hrl:rlK c.states ks=gQ c.states k:=by rw [hks]; rfl
 have hrin:∀ y∈gQ c.states k,0≤y∧y<(c.states.length:Int):=fun y hy=>hkin y ((aA.1 (by rw [← hrl] at hy; exact hy)).1)
 have hrlen:(gQ c.states k).length≤1000:=by
  rw [← hrl]
  have:=br (fun y:Int=>!aO (ETy.get .stat c.states y.toNat).kind) ks
  exact av this (by omega)
 refine J.nilOwn 9 3 .int rfl (by kernel_rfl) ?_
 refine Ij c p a m k ks (by omega) hkin Γ Q ?_ ks.length 0 (by omega) (by omega)
 rw [hrl]
 have hpk:=Ag c.states hp k m
 have hpos:=fun h=>vp t hk h
 generalize hrr:gQ c.states k=rl at hrin hrlen hpk hpos
 refine jg gH Tryz.func19 (let x1:=(IntKind.wrap .i64 (ETy.get .byte p ((Int.tmod m (p.length:Int)).toNat))); let x11:List Nat:=[1,1,1,0,1,0,0,1,0,0,1,1,1,1,0,1,0,0]; let x2:List PI:=[.code x11,.inLoop x11,.inBlock 2,.code [1,1,1,0,1,0,0,1,0,0,1,1,1,1,1],.inBlock 1,.code [1,1,1,0,1,0,0,1,1],.inLoop [1,1,1,0,1,0,0],.inBlock 0,.code [1,1,1,1]]; let x10:Nat×SV:=(1,.p (.lst .byte p)); let x9:Nat×SV:=(2,.x (.c (.loc 0 0))); let x7:Nat×SV:=(4,.p (.v (Value.slice none 0 0))); let x3:List (Nat×SV):=[x10,x9,x7,(5,.x (.c (.own 1))),(6,.i m),(7,.i k),(8,.x (.c (.own 2))),(9,.x (.c (.own 3))),(10,.i (IntKind.wrap .i64 ((ks.length:Int)+1)))]; let x13:=(IntKind.wrap .i64 ((k:Int)+1)); let x4:List (Nat×SV):=[x10,x9,x7,(5,.x (.c (.own 1))),(6,.i (IntKind.wrap .i64 (m+(1:Int)))),(7,.i x13)]; let x5:List PI:=zCr2; let x6:=(Int.tmod x1 (rl.length:Int)); let x8:List Nat:=[1,1,1,0,1,0,0,1,0,0,1,1,1,1,1,0,1,0,1,0,0]; let x12:=(rl++[ETy.get .int ks ks.length]); .ite (decide ((ks.length:Int)<(ks.length:Int))) (.need (inRg ks.length ks.length) (.need (ks.length<ks.length) (.need ((0:Int)≤ETy.get .int ks ks.length∧ETy.get .int ks ks.length<(c.states.length:Int)) (.ite (!aO (Stat.kind (ETy.get .stat c.states ((ETy.get .int ks ks.length).toNat)))) (.need (inRg ks.length ks.length) (.need (ks.length<ks.length) (.need (room (x12.length) 8) (.stop x2 { n:=132,fr:=x3,ck:=[zCr1 c,.own 4 .bool a,.own 3 .int ks,.own 3 .int x12] })))) (.stop x2 { n:=132,fr:=x3,ck:=[zCr1 c,.own 4 .bool a,.own 3 .int ks,.own 3 .int rl] }))))) (.need (inRg k c.states.length) (.ite (Stat.kind (ETy.get .stat c.states k)==(3:Int)) (.stop [.code x8,.inLoop x8,.inBlock 4,.code [1,1,1,0,1,0,0,1,0,0,1,1,1,1,1,1],.inBlock 1,.code [1,1,1,0,1,0,0,1,1],.inLoop [1,1,1,0,1,0,0],.inBlock 0,.code [1,1,1,1]] { n:=132,fr:=[x10,x9,x7,(5,.x (.c (.own 1))),(6,.i m),(7,.i k),(9,.x (.c (.own 2))),(11,.i 0)],ck:=[zCr1 c,.own 4 .bool a,.own 3 .int rl] }) (.need (inRg k c.states.length) (.ite (Stat.kind (ETy.get .stat c.states k)==(2:Int)) (.ite (decide ((p.length:Int)>0)) (.need ((p.length:Int)≠(0:Int)) (.need ((0:Int)≤Int.tmod m (p.length:Int)∧Int.tmod m (p.length:Int)<(p.length:Int)) (.need ((rl.length:Int)≠(0:Int)) (.need ((0:Int)≤Int.tmod x1 (rl.length:Int)∧Int.tmod x1 (rl.length:Int)<(rl.length:Int)) (.need (x6.toNat<rl.length) (.need ((0:Int)≤ETy.get .int rl (x6.toNat)∧ETy.get .int rl (x6.toNat)<(a.length:Int)) (.need ((ETy.get .int rl (x6.toNat)).toNat<a.length) (.stop x5 { n:=132,fr:=x4,ck:=[zCr1 c,.own 4 .bool (List.set a ((ETy.get .int rl (x6.toNat)).toNat) true)] })))))))) (.need ((rl.length:Int)≠(0:Int)) (.need ((0:Int)≤Int.tmod (0:Int) (rl.length:Int)∧Int.tmod (0:Int) (rl.length:Int)<(rl.length:Int)) (.need (0<rl.length) (.need ((0:Int)≤ETy.get .int rl 0∧ETy.get .int rl 0<(a.length:Int)) (.need ((ETy.get .int rl 0).toNat<a.length) (.stop x5 { n:=132,fr:=x4,ck:=[zCr1 c,.own 4 .bool (List.set a ((ETy.get .int rl 0).toNat) true)] }))))))) (.stop x5 { n:=132,fr:=[x10,x9,x7,(5,.x (.c (.own 1))),(6,.i m),(7,.i x13)],ck:=[zCr1 c,.own 4 .bool a] })))))) ?_
 conv=>zeta
 refine ⟨fun hlt=>?_,fun _=>⟨⟨by omega,by omega⟩,fun hk3=>?_,fun hk3=>⟨⟨by omega,by omega⟩,fun hk2=>⟨fun hpl=>?_,fun hpl=>?_⟩,fun hk2=>h1 hk3 hk2⟩⟩⟩
 · have:=of_decide_eq_true hlt; omega
 · have hk2:((ETy.get .stat c.states k).kind==2)=false:=by rw [eq_of_beq hk3]; rfl
   exact Hs c p m k rl hrlen c.states.length hrin Γ Q _ (by have:=h3 hk3; rw [hrr] at this; exact this) hk2 hk rl.length 0 a (by omega) (by omega) ha rfl
 · have hr0:=hpos (.inl (eq_of_beq hk2))
   have hp0:0<p.length:=by have:=of_decide_eq_true hpl; omega
   have hi1:=oH hm0 hp0
   have hi2:=oH (w9 hp (Int.tmod m (p.length:Int)).toNat) hr0
   have hmem:=hpk hr0
   have hce:chM c.states p k m=ETy.get .int rl (Int.tmod (IntKind.wrap .i64 (ETy.get .byte p (Int.tmod m (p.length:Int)).toNat)) (rl.length:Int)).toNat:=by unfold chM; rw [if_pos hpl,hrr]
   have h2':=h2 hk2
   rw [hce] at hmem h2'
   have hy:=hrin _ hmem
   have hy2:0≤ETy.get .int rl (Int.tmod (IntKind.wrap .i64 (ETy.get .byte p (Int.tmod m (p.length:Int)).toNat)) (rl.length:Int)).toNat∧ETy.get .int rl (Int.tmod (IntKind.wrap .i64 (ETy.get .byte p (Int.tmod m (p.length:Int)).toNat)) (rl.length:Int)).toNat<(a.length:Int):=by rw [ha]; exact hy
   exact ⟨by omega,hi1,by omega,hi2,iE hi2,hy2,iE hy2,h2'⟩
 · have hr0:=hpos (.inl (eq_of_beq hk2))
   have hi2:=oH (x:=0) (Int.le_refl 0) hr0
   have hmem:=hpk hr0
   have hce:chM c.states p k m=ETy.get .int rl 0:=by unfold chM; rw [if_neg (by rw [hpl]; decide),hrr]
   have h2':=h2 hk2
   rw [hce] at hmem h2'
   have hy:=hrin _ hmem
   have hy2:0≤ETy.get .int rl 0∧ETy.get .int rl 0<(a.length:Int):=by rw [ha]; exact hy
   exact ⟨by omega,hi2,hr0,hy2,iE hy2,h2'⟩
abbrev zJ19Ct:=J Tryz.prog 19 (au Tryz.f19)
theorem qN (r:List Int) (a:List Bool):(gC a r).length=a.length:=(kr r a 0).1
theorem kZ (l:List Ev.Stat) (a:List Bool) (i:Nat):(fR l a i).length=a.length:=by unfold fR; split <;> simp
abbrev zCt1 (a:Chart):Chunk:=.cells [.pd (.str a.name),.pd (.lst .str a.events),.pd (.lst .var a.vars),.pd (.lst .stat a.states),.pd (.lst .tran a.trans)] 27
abbrev zCt2:List PI:=[.code [1,1,1,0,1,0,0],.inLoop [1,1,1,0,1,0,0],.inBlock 0,.code [1,1,1,1]]
theorem Hq (c:Chart) (t:Tre c.states) (p:List Int) (hp:∀ b∈p,0≤b∧b≤255) (Γ:Ctx) (fin:List Bool):∀ (n k:Nat) (a:List Bool) (m:Int),c.states.length - k=n→k≤c.states.length→a.length=c.states.length→0≤m∧m≤k→ga c.states (chM c.states p) n k a m=fin →
 zJ19Ct Γ (Eq2 (.x (.c (.own 0))) [.own 3 .int (kP fin fin.length)]) zCt2 ({ n:=132,fr:=[(1,.p (.lst .byte p)),(2,.x (.c (.loc 0 0))),(4,.p (.v (Value.slice none 0 0))),(5,.x (.c (.own 1))),(6,.i m),(7,.i ((k:Int)))],ck:=[zCt1 c,.own 4 .bool a] }):=by
 have hfew:=t.shp.few
 have hm:c.states.length≤maxLen:=by unfold maxLen; omega
 have no:∀ {b:Bool},b=false→¬b=true:=fun h e=>by rw [h] at e; cases e
 intro n
 induction n with
 | zero=>?_
 | succ n ih=>?_
 all_goals
  intro k a m hn hk ha hm0 hf
  refine jg gH Tryz.func19 (let x7:List Nat:=[1,1,1,0,1,0,0,1,0,0,1,1,1,1,0,1,0,0]; let x1:List PI:=[.code x7,.inLoop x7,.inBlock 2,.code [1,1,1,0,1,0,0,1,0,0,1,1,1,1,1],.inBlock 1,.code [1,1,1,0,1,0,0,1,1],.inLoop [1,1,1,0,1,0,0],.inBlock 0,.code [1,1,1,1]]; let x5:=(Value.slice none 0 0); let x2:List (Nat×SV):=[(1,.p (.lst .byte p)),(2,.x (.c (.loc 0 0))),(4,.p (.v x5)),(5,.x (.c (.own 1))),(6,.i m),(7,.i k),(8,.x (.c (.own 2))),(9,.p (.v x5)),(10,.i 0)]; let x3:List (Nat×SV):=[(1,.p (.lst .byte p)),(2,.x (.c (.loc 0 0))),(4,.p (.v x5)),(5,.x (.c (.own 1))),(6,.i m),(7,.i (IntKind.wrap .i64 ((k:Int)+1)))]; let x4:List PI:=zCt2; let x6:=(cN c.states (k:Int) c.states.length); let x8:=(c.states.length≤1466015503701); .ite (decide ((k:Int)<(c.states.length:Int))) (.need (inRg k c.states.length) (.ite (Stat.depth (ETy.get .stat c.states k)==(0:Int)) (.need (inRg k a.length) (.need (k<a.length) (.need ((0:Int)≤(k:Int)∧(k:Int)<(↑((List.set a k true).length):Int)) (.need (k<(List.set a k true).length) (.ite (!ETy.get .bool (List.set a k true) k) (.stop x4 { n:=132,fr:=x3,ck:=[zCt1 c,.own 4 .bool (List.set a k true)] }) (.need x8 (.stop x1 { n:=132,fr:=x2,ck:=[zCt1 c,.own 4 .bool (List.set a k true),.own 3 .int x6] }))))))) (.need (inRg k a.length) (.need (k<a.length) (.ite (!ETy.get .bool a k) (.stop x4 { n:=132,fr:=x3,ck:=[zCt1 c,.own 4 .bool a] }) (.need x8 (.stop x1 { n:=132,fr:=x2,ck:=[zCt1 c,.own 4 .bool a,.own 3 .int x6] }))))))) (.stop [.code [1,1,1,1,1,0,1,0,0],.inLoop [1,1,1,1,1,0,1,0,0],.inBlock 6,.code [1,1,1,1,1,1]] { n:=132,fr:=[(4,.p (.v x5)),(5,.x (.c (.own 0))),(13,.p (.v x5)),(14,.i 0)],ck:=[.own 4 .bool a] })) ?_
  conv=>zeta
  refine ⟨fun hlt=>?_,fun hge=>?_⟩
 · have:=of_decide_eq_true hlt; omega
 · rw [ga] at hf
   subst hf
   refine J.nilOwn 13 3 .int rfl (by kernel_rfl) ?_
   exact IA c p a (by omega) Γ a.length 0 (by omega) (by omega)
 · have hk':k<c.states.length:=by omega
   have hn2:c.states.length - (k+1)=n:=by omega
   have hwk:IntKind.wrap .i64 ((k:Int)+1)=((k+1:Nat):Int):=aX (aE hk' hm)
   have hwm:IntKind.wrap .i64 (m+1)=m+1:=cg (by omega) (by omega)
   have step:∀ b:List Bool,fR c.states a k=b →
    ((!ETy.get .bool b k)=true→zJ19Ct Γ (Eq2 (.x (.c (.own 0))) [.own 3 .int (kP fin fin.length)]) zCt2 ({ n:=132,fr:=[(1,.p (.lst .byte p)),(2,.x (.c (.loc 0 0))),(4,.p (.v (Value.slice none 0 0))),(5,.x (.c (.own 1))),(6,.i m),(7,.i ((IntKind.wrap .i64 ((k:Int)+1))))],ck:=[zCt1 c,.own 4 .bool b] })) ∧
    ((!ETy.get .bool b k)=false→zJ19Ct Γ (Eq2 (.x (.c (.own 0))) [.own 3 .int (kP fin fin.length)]) [.code [1,1,1,0,1,0,0,1,0,0,1,1,1,1,0,1,0,0],.inLoop [1,1,1,0,1,0,0,1,0,0,1,1,1,1,0,1,0,0],.inBlock 2,.code [1,1,1,0,1,0,0,1,0,0,1,1,1,1,1],.inBlock 1,.code [1,1,1,0,1,0,0,1,1],.inLoop [1,1,1,0,1,0,0],.inBlock 0,.code [1,1,1,1]] ({ n:=132,fr:=[(1,.p (.lst .byte p)),(2,.x (.c (.loc 0 0))),(4,.p (.v (Value.slice none 0 0))),(5,.x (.c (.own 1))),(6,.i m),(7,.i k),(8,.x (.c (.own 2))),(9,.p (.v (Value.slice none 0 0))),(10,.i (0))],ck:=[zCt1 c,.own 4 .bool b,.own 3 .int (cN c.states (k:Int) c.states.length)] })):=by
    intro b hb
    have hbl:b.length=c.states.length:=by rw [← hb,kZ]; exact ha
    rw [ga,hb] at hf
    refine ⟨fun h=>?_,fun h=>L6 c t p hp b m k hbl hk' hm0.1 Γ _ (fun h3=>?_) (fun h2=>?_) (fun h3 h2=>?_) _ rfl⟩
    · rw [if_pos (by exact h)] at hf
      rw [hwk]; exact ih (k+1) b m hn2 (by omega) hbl (by omega) hf
    all_goals rw [if_neg (by exact no h)] at hf
    · rw [if_pos h3] at hf
      rw [hwk]; exact ih (k+1) _ m hn2 (by omega) (by rw [qN]; exact hbl) (by omega) hf
    · rw [if_neg (by rw [eq_of_beq h2]; decide),if_pos h2] at hf
      rw [hwk]; exact ih (k+1) _ _ hn2 (by omega) (by rw [bt]; exact hbl) (by rw [hwm]; omega) hf
    · rw [if_neg (no h3),if_neg (no h2)] at hf
      rw [hwk]; exact ih (k+1) b m hn2 (by omega) hbl (by omega) hf
   refine ⟨⟨by omega,by omega⟩,fun hd=>?_,fun hd=>?_⟩
   · have hs:=step (a.set k true) (by unfold fR; rw [if_pos (by exact hd)])
     refine ⟨⟨by omega,by omega⟩,by omega,⟨by omega,by rw [bt]; omega⟩,by rw [bt]; omega,fun hb=>hs.1 hb,fun hb=>⟨by omega,hs.2 hb⟩⟩
   · have hs:=step a (by unfold fR; rw [if_neg (by exact no hd)])
     exact ⟨⟨by omega,by omega⟩,by omega,fun hb=>hs.1 hb,fun hb=>⟨by omega,hs.2 hb⟩⟩
 · have:=of_decide_eq_false hge; omega
theorem jU (l:List Ev.Stat) (ch:Nat→Int→Int):∀ (f i:Nat) (a:List Bool) (n:Int),(ga l ch f i a n).length=a.length
 | 0,_,_,_=>rfl
 | f + 1,i,a,n=>by
   rw [ga]
   split
   · rw [jU l ch f,kZ]
   · split
     · rw [jU l ch f,qN,kZ]
     · split
       · rw [jU l ch f,bt,kZ]
       · rw [jU l ch f,kZ]
theorem D3 (c:Chart) (t:Tre c.states) (p:List Int) (hp:∀ b∈p,0≤b∧b≤255):ah Tryz.prog 19 [.e .chart c,.l .byte p] [] (.x (.c (.own 0))) [.own 3 .int (cW c.states (chM c.states p))]:=by
 have hfew:=t.shp.few
 refine dg gH Tryz.func19 (.stop [.ops [1,0] 3,.code [1,1]] { n:=132,fr:=[(1,.p (.lst .byte p)),(2,.x (.c (.loc 0 0))),(4,.p (.v (Value.slice none 0 0))),(17,.i c.states.length)],ck:=[zCt1 c] }) fun Γ=>?_
 refine J.make (d:=18) (e:=4) (by1:=1) .bool false c.states.length (by kernel_rfl) rfl rfl (fun H=>.cons (.bool false) .nil) rfl rfl ⟨by omega,by unfold maxLen; omega⟩ ?_
 have rest:∀ a:List Bool,a=List.replicate c.states.length false→zJ19Ct Γ (Eq2 (.x (.c (.own 0))) [.own 3 .int (cW c.states (chM c.states p))]) [.ops [1,0] 4,.code [1,1]] ({ n:=132,fr:=[(1,.p (.lst .byte p)),(2,.x (.c (.loc 0 0))),(4,.p (.v (Value.slice none 0 0))),(17,.i c.states.length),(18,.x (.c (.own 1)))],ck:=[zCt1 c,.own 4 .bool a] }):=fun a ha=>by
  refine jg gH Tryz.func19 (.stop zCt2 { n:=132,fr:=[(1,.p (.lst .byte p)),(2,.x (.c (.loc 0 0))),(4,.p (.v (Value.slice none 0 0))),(5,.x (.c (.own 1))),(6,.i 0),(7,.i 0)],ck:=[zCt1 c,.own 4 .bool a] }) ?_
  subst ha
  have h:=Hq c t p hp Γ _ c.states.length 0 (List.replicate c.states.length false) 0 (by omega) (by omega) (by rw [db]) (by omega) rfl
  rw [jU,db] at h
  exact h
 exact rest _ rfl
theorem ah.sub {P:Program} {f:FuncId} {args args':List SX} {ck ck':List Chunk} {ret:SV} (h:∀ (V:Vn) (vs:List Value),All2 (SX.R V) args vs→All2 (SX.R V) args' vs) (d:ah P f args' ck ret ck'):ah P f args ck ret ck' :=
 fun w V vs hw hT hv=>d w V vs hw hT (h V vs hv)
theorem nY {H:Mem} {t:ETy} {u:Value} (h:PR H (.v (.slice none 0 0)) u):PR H (.lst t []) u:=by
 cases h; exact .emp t none 0 (fun _=>rfl)
/-! ### a mark: guards that are literal count as none -/
def nQ:Ent:=(1000000007,fun _ _=>none)
variable (vs:List SX) (ck:List Chunk)
theorem ky (p:Option Prop) (ret:SV) (ck':List Chunk) (h:nQ.2 vs ck=some (p,ret,ck')) (_:Holds p):ah Tryz.prog nQ.1 vs ck ret ck':=by cases h
def nT:Ent:=(1000000009,fun _ _=>none)
theorem ku (p:Option Prop) (ret:SV) (ck':List Chunk) (h:nT.2 vs ck=some (p,ret,ck')) (_:Holds p):ah Tryz.prog nT.1 vs ck ret ck':=by cases h
end Go.Proofs.YtgfifkhbfdacjaaGreatDoor
namespace Go.Proofs.YtgfifkhbfdacjaaGreatDoor
open Go Go.Ev
set_option maxRecDepth 100000
theorem Bl (c:Chart) (p:List Int) (h:Tre c.states∧∀ b∈p,0≤b∧b≤255):ah Tryz.prog 19 [.e .chart c,.l .byte p] [] (.x (.c (.pd (.lst .int (cW c.states (chM c.states p)))))) []:=ah.chop (ck':=[]) (ah.frz aY [0] (D3 c h.1 p h.2) rfl rfl)
def ra:Ent:=(19,fun
 | [.agg [.pd (.str a),.pd (.lst .str b),.pd (.lst .var c),.pd (.lst .stat d),.pd (.lst .tran e)],.c (.pd (.lst .byte p))],[]=>some (some (Tre d∧∀ b∈p,0≤b∧b≤255),.x (.c (.pd (.lst .int (cW d (chM d p))))),[])
 | _,_=>none)
theorem DN:EntOk Tryz.prog ra:=entOk fun vs ck=>by
 unfold ra; dsimp only; split
 · rename_i a b c d e p; exact entS fun hp=>Bl ⟨a,b,c,d,e⟩ p hp
 · exact entN
theorem Hf {l:List Ev.Stat} (t:Tre l) {p:List Int} (hp:∀ b∈p,0≤b∧b≤255):(cW l (chM l p)).length≤40:=by
 have hg:=(tD t.shp _).2 (qZ t (qX t hp))
 have:=(xl hg).2
 have:=t.shp.few
 omega
end Go.Proofs.YtgfifkhbfdacjaaGreatDoor
