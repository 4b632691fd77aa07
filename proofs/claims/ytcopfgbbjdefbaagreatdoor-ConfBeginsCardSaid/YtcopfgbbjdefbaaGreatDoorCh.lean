/- Contracts: conf: small functions, what a state begins with. Conditions: sizes. -/
import Derived.Test.YtcopfgbbjdefbaaGreatDoorFa
import Derived.Test.YtcopfgbbjdefbaaGreatDoorTq
import Derived.Test.YtcopfgbbjdefbaaGreatDoorSg
import Derived.Test.YtcopfgbbjdefbaaGreatDoorCi
namespace Go.Proofs.YtcopfgbbjdefbaaGreatDoor
open Go Go.Ev
set_option maxRecDepth 100000
variable (c a:Chart) (k:Int) {l:List Ev.Stat}
theorem Au:ag Tryz.prog 39 [.i k] [] (.x (.b (aQ k))) []:=by
 refine dg aT Tryz.func39 (.ret (.p (.bool (k==(5:Int)||k==(6:Int)))) []) fun Γ=>?_
 exact ⟨rfl,rfl⟩
def mF:Ent:=(39,fun
 | [.c (.pd (.int .i64 k))],[]=>some (none,.x (.c (.pd (.bool (aQ k)))),[])
 | _,_=>none)
theorem sr:EntOk Tryz.prog mF:=entOk fun vs ck=>by
 unfold mF; dsimp only; split
 · rename_i k; exact entS fun hp=>Au k
 · exact entN
def C6:Cfg:=⟨bb,[pZ]⟩
theorem CS:af Tryz.prog C6.tab:=(af.cons Cn af.nil)
theorem wU (h:c.vars.length≤2199023255552∧c.states.length≤2199023255552):ag Tryz.prog 31 [.e .chart c] [] (.x (.b (bI c==0))) []:=by
 refine dg CS Tryz.func31 (.need (c.vars.length≤2199023255552∧c.states.length≤2199023255552) (.ret (.p (.bool (bI c==(0:Int)))) [])) fun Γ=>?_
 exact ⟨h,rfl,rfl⟩
def lg:Ent:=(31,fun
 | [.agg [.pd (.str a),.pd (.lst .str b),.pd (.lst .var c),.pd (.lst .stat d),.pd (.lst .tran e)]],[]=>some (some (c.length≤2199023255552∧d.length≤2199023255552),.x (.c (.pd (.bool (bI ⟨a,b,c,d,e⟩==0)))),[])
 | _,_=>none)
theorem qj:EntOk Tryz.prog lg:=entOk fun vs ck=>by
 unfold lg; dsimp only; split
 · rename_i a b c d e; exact entS fun hp=>wU ⟨a,b,c,d,e⟩ hp
 · exact entN
/-! ### down -/
def dwM (l:List Ev.Stat) (k:Nat):List Int:=dz l (l.length+1) k
def o7 (out:List Int):Prop:=ag Tryz.prog 48 [.i k,.c (.loc 0 0),.c (.pd (.ref .chart c 0)),.c (.loc 1 0)] [.cells [.own 2] 29,Chunk.cells [SC.fn (Fn.func 48) [] [RC.loc 0 0,RC.pd (PD.ref ETy.chart c 0),RC.loc 1 0]] 76,.own 3 .int out] (.tup []) [.cells [.own 3] 29,Chunk.cells [SC.fn (Fn.func 48) [] [RC.loc 0 0,RC.pd (PD.ref ETy.chart c 0),RC.loc 1 0]] 76,.dead,.own 3 .int (out++dwM c.states k.toNat),.dead]
def eDn:Ent:=(48,fun
 | [.c (.pd (.int .i64 k)),.c (.loc 0 0),.c (.pd (.ref .chart c 0)),.c (.loc 1 0)],[.cells [.own 2] a,.cells [.fn (.func 48) [] [.loc 0 0,.pd (.ref .chart d 0),.loc 1 0]] b,.own 3 .int out]=>some (some (a=29∧b=76∧d=c∧o7 c k out),.tup [],[.cells [.own 3] 29,.cells [.fn (.func 48) [] [.loc 0 0,.pd (.ref .chart c 0),.loc 1 0]] 76,.dead,.own 3 .int (out++dwM c.states k.toNat),.dead])
 | _,_=>none)
theorem C5:EntOk Tryz.prog eDn:=entOk fun vs ck=>by
 unfold eDn; dsimp only; split
 · rename_i k c a d b out; exact entS fun hp=>by obtain ⟨rfl,rfl,rfl,h⟩:=hp; exact h
 · exact entN
def uA:Cfg:=⟨bb,[jP,mV,eDn]⟩
theorem se:af Tryz.prog uA.tab:=(af.cons kB (af.cons sj (af.cons C5 af.nil)))
theorem lS {α β:Type} {f g:α→List β}:∀ {l:List α},(∀ x∈l,f x=g x)→l.flatMap f=l.flatMap g
 | [],_=>rfl
 | a::r,h=>by rw [bg,bg,h a (ax ..),lS fun x hx=>h x (aH _ hx)]
theorem kF {l:List Ev.Stat} (t:Tre l):∀ (n m k:Nat),k<l.length→l.length - k<n→l.length - k<m→dz l n k=dz l m k
 | 0,_,_,_,h,_=>by omega
 | _+1,0,_,_,_,h=>by omega
 | n + 1,m+1,k,hk,hn,hm=>by
   rw [dz,dz]
   congr 1
   by_cases h2:((ETy.get .stat l k).kind==2)=true
   · rw [if_pos h2,if_pos h2]
     obtain ⟨q,e1,e2,e3,_,_⟩:=t.init hk (eq_of_beq h2)
     have h3:upM l q<(q:Int):=(hX l (dep l q) q).2
     rw [e1,ai]
     exact kF t n m q e2 (by omega) (by omega)
   · rw [if_neg h2,if_neg h2]
     by_cases h3:((ETy.get .stat l k).kind==3)=true
     · rw [if_pos h3,if_pos h3]
       refine lS fun y hy=>?_
       obtain ⟨q,rfl,e2,e3,_,_⟩:=dR t hk hy
       rw [ai]
       exact kF t n m q e2 (by omega) (by omega)
     · rw [if_neg h3,if_neg h3]
theorem JP (t:Tre l) {k:Nat} (hk:k<l.length):dwM l k=(k:Int)::(if ((ETy.get .stat l k).kind==2)=true then dwM l (aJ l (ETy.get .stat l k).initial).toNat else if ((ETy.get .stat l k).kind==3)=true then (bk l k).flatMap (fun y=>dwM l y.toNat) else []):=by
 unfold dwM
 rw [dz]
 congr 1
 by_cases h2:((ETy.get .stat l k).kind==2)=true
 · rw [if_pos h2,if_pos h2]
   obtain ⟨q,e1,e2,e3,_,_⟩:=t.init hk (eq_of_beq h2)
   have h3:upM l q<(q:Int):=(hX l (dep l q) q).2
   rw [e1,ai]
   exact kF t _ _ q e2 (by omega) (by omega)
 · rw [if_neg h2,if_neg h2]
   by_cases h3:((ETy.get .stat l k).kind==3)=true
   · rw [if_pos h3,if_pos h3]
     refine lS fun y hy=>?_
     obtain ⟨q,rfl,e2,e3,_,_⟩:=dR t hk hy
     rw [ai]
     exact kF t _ _ q e2 (by omega) (by omega)
   · rw [if_neg h3,if_neg h3]
abbrev zCh1:Chunk:=.cells [.fn (.func 48) [] [.loc 0 0,.pd (.ref .chart a 0),.loc 1 0]] 76
abbrev zCh2:List PI:=[.code [1,1,0,1,1,1,0,1,0,0],.inLoop [1,1,0,1,1,1,0,1,0,0],.inBlock 1,.inBlock 0]
theorem Ht (k:Int) (ks:List Int) (hks:∀ y∈ks,∀ o:List Int,o.length+(dwM c.states y.toNat).length≤2000→o7 c y o) (hl:ks.length≤maxLen) (fin:List Int) (Γ:Ctx):∀ (n i:Nat) (out:List Int),ks.length - i≤n→i≤ks.length →
 out.length+((ks.drop i).flatMap fun y=>dwM c.states y.toNat).length≤2000→out++((ks.drop i).flatMap fun y=>dwM c.states y.toNat)=fin →
 J Tryz.prog 48 (aA Tryz.f48) Γ (Eq2 (.tup []) [.cells [.own 3] 29,Chunk.cells [SC.fn (Fn.func 48) [] [RC.loc 0 0,RC.pd (PD.ref ETy.chart c 0),RC.loc 1 0]] 76,.dead,.own 3 .int fin]) zCh2 ({ n:=44,fr:=[(3,.x (.c (.loc 1 0))),(34,.x (.c (.own 4))),(35,.i ((ks.length:Int))),(36,.i ((i:Int)))],ck:=[.cells [.own 3] 29,zCh1 c,.dead,.own 3 .int out,.own 3 .int ks],m:=3 }):=by
 intro n
 induction n with
 | zero=>?_
 | succ n ih=>?_
 all_goals
  intro i out hn hi hb hf
  refine jg se Tryz.func48 (.ite (decide ((i:Int)<(ks.length:Int))) (.need (inRg i ks.length) (.need (i<ks.length) (.need (29=(29:TypeId)∧76=(76:TypeId)∧c=c∧o7 c (ETy.get .int ks i) out) (.stop zCh2 { n:=44,fr:=[(3,.x (.c (.loc 1 0))),(34,.x (.c (.own 3))),(35,.i ks.length),(36,.i (IntKind.wrap .i64 ((i:Int)+1)))],ck:=[.cells [.own 4] 29,zCh1 c,.dead,.own 3 .int ks,.own 3 .int (out++dwM c.states ((ETy.get .int ks i).toNat))],m:=3 })))) (.ret (.tup []) [.cells [.own 3] 29,zCh1 c,.dead,.own 3 .int out])) ?_
  refine ⟨fun hlt=>?_,fun hge=>?_⟩
  · have hi':i<ks.length:=by have:=of_decide_eq_true hlt; omega
    have ed:ks.drop i=ETy.get .int ks i::ks.drop (i+1):=bO (t:=.int) (l:=ks) hi'
    have hm:ETy.get .int ks i∈ks:=by rw [ETy.get_eq (t:=.int) (List.getElem?_eq_getElem hi')]; exact b6 hi'
    rw [ed,bg] at hb hf
    rw [ar] at hb
    refine ⟨⟨by omega,by omega⟩,hi',⟨rfl,rfl,rfl,hks _ hm out (by omega)⟩,?_⟩
    rw [a6 (aE hi' hl)]
    first
    | (exfalso; omega)
    | exact J.perm [0,1,2,4,3] rfl (ih (i+1) _ (by omega) (by omega) (by rw [ar]; omega) (by rw [bn]; exact hf))
  · have hie:ks.drop i=[]:=bX (by have:=of_decide_eq_false hge; omega)
    rw [hie,List.flatMap_nil,aM] at hf
    subst hf; exact ⟨rfl,rfl⟩
theorem Je (t:Tre c.states):∀ (n k:Nat) (out:List Int),k<c.states.length→c.states.length - k≤n→out.length+(dwM c.states k).length≤2000→o7 c (k:Int) out:=by
 have hfew:=t.shp.few
 intro n
 induction n with
 | zero=>intro k out hk hn; omega
 | succ n ih =>
   intro k out hk hn hb
   have e:=JP t hk
   have hroom:room (out++[(k:Int)]).length 8:=by
    rw [e,az] at hb
    rw [ar]
    exact ⟨by show (_+1) * 8≤_; omega,by show _+1≤_; unfold maxLen; omega⟩
   have hkl:=j5 c.states k
   have key:∀ kk:Int,kk=(k:Int)→ag Tryz.prog 48 [.i kk,.c (.loc 0 0),.c (.pd (.ref .chart c 0)),.c (.loc 1 0)] [.cells [.own 2] 29,Chunk.cells [SC.fn (Fn.func 48) [] [RC.loc 0 0,RC.pd (PD.ref ETy.chart c 0),RC.loc 1 0]] 76,.own 3 .int out] (.tup []) [.cells [.own 3] 29,Chunk.cells [SC.fn (Fn.func 48) [] [RC.loc 0 0,RC.pd (PD.ref ETy.chart c 0),RC.loc 1 0]] 76,.dead,.own 3 .int (out++dwM c.states k)]:=by
    intro kk hkk
    refine dg se Tryz.func48 (let x1:=(ETy.get .stat c.states (Int.toNat kk)); let x2:=((0:Int)≤kk∧kk<(c.states.length:Int)); let x3:=(aJ c.states (Stat.initial x1)); .need (room ((out++[kk]).length) 8) (.need x2 (.ite (Stat.kind x1==(2:Int)) (.need x2 (.need (29=(29:TypeId)∧76=(76:TypeId)∧c=c∧o7 c x3 (out++[kk])) (.ret (.tup []) [.cells [.own 3] 29,zCh1 c,.dead,.own 3 .int (out++[kk]++dwM c.states (x3.toNat))]))) (.ite (Stat.kind x1==(3:Int)) (.need (b7 c.states kk=true) (.stop zCh2 { n:=44,fr:=[(3,.x (.c (.loc 1 0))),(34,.x (.c (.own 4))),(35,.i (↑((bk c.states (Int.toNat kk)).length):Int)),(36,.i 0)],ck:=[.cells [.own 3] 29,zCh1 c,.dead,.own 3 .int (out++[kk]),.own 3 .int (bk c.states (Int.toNat kk))],m:=3 })) (.ret (.tup []) [.cells [.own 3] 29,zCh1 c,.dead,.own 3 .int (out++[kk])]))))) fun Γ=>?_
    conv=>zeta
    subst hkk
    rw [ai]
    refine ⟨hroom,⟨by omega,by omega⟩,fun h2=>?_,fun h2=>⟨fun h3=>⟨gS t.right hk,?_⟩,fun h3=>?_⟩⟩
    · rw [if_pos h2] at e
      obtain ⟨q,e1,e2,e3,_,_⟩:=t.init hk (eq_of_beq h2)
      have h3:upM c.states q<(q:Int):=(hX c.states (dep c.states q) q).2
      rw [e1,ai] at e
      rw [e1,ai]
      refine ⟨⟨by omega,by omega⟩,⟨rfl,rfl,rfl,ih q _ e2 (by omega) ?_⟩,rfl,?_⟩
      · rw [e,az] at hb
        rw [ar]; show _+1+_≤_; omega
      · rw [e,bn]; rfl
    · rw [if_neg (by rw [h2]; decide),if_pos h3] at e
      refine Ht c k (bk c.states k) (fun y hy o ho=>?_) (by unfold maxLen; omega) _ Γ (bk c.states k).length 0 _ (by omega) (by omega) ?_ ?_
      · obtain ⟨q,rfl,e2,e3,_,_⟩:=dR t hk hy
        rw [ai] at ho
        exact ih q o e2 (by omega) ho
      · rw [e,az] at hb
        rw [di,ar]; show _+1+_≤_; omega
      · rw [di,e,bn]; rfl
    · rw [if_neg (by rw [h2]; decide),if_neg (by rw [h3]; decide)] at e
      rw [e]; exact ⟨rfl,rfl⟩
   unfold o7
   rw [ai]
   exact ag.mark (key _ rfl)
def uc:Cfg:=⟨bb,[eDn,qy]⟩
theorem sf:af Tryz.prog uc.tab:=(af.cons C5 (af.cons CQ af.nil))
theorem nK:∀ (l:List Int) (a b:Int),l.Pairwise (· < ·)→(∀ y∈l,a≤y∧y<b)→(l.length:Int)≤(if a≤b then b - a else 0)
 | [],a,b,_,_=>by split <;> simp <;> omega
 | x::r,a,b,hp,hm=>by
   rw [cW] at hp
   have h1:=hm x (ax ..)
   have ih:=nK r (x+1) b hp.2 (fun y hy=>⟨by have:=hp.1 y hy; omega,(hm y (aH _ hy)).2⟩)
   rw [az]
   rw [if_pos (by omega)] at ih ⊢
   omega
theorem JB (t:Tre l) {k:Nat} (hk:k<l.length):(dwM l k).length≤40:=by
 have h1:=fv t (l.length+1) k hk
 have h2:=nK (dwM l k) 0 40 h1.1 (fun y hy=>by
  have h3:=h1.2 y hy
  have h4:endM l k≤l.length:=(dP l hk).2
  have h5:=t.shp.few
  omega)
 rw [if_pos (by omega)] at h2
 omega
abbrev zCh3 (b:Nat):List (Nat×SV):=[(4,.p (.v (Value.slice none 0 0))),(5,.x (.c (.loc 1 0))),(8,.x (.c (.fn (.func 48) [] [.loc 1 0,.pd (.ref .chart a 0),.loc 2 0]))),(9,.i b)]
theorem AC (k:Nat) (t:Tre c.states) (hk:k<c.states.length):ag Tryz.prog 32 [.e .chart c,.i (k:Int)] [] (.x (.c (.own 0))) [.own 3 .int (cG c.states k)]:=by
 refine dg sf Tryz.func32 (.stop [.ops [1,1,1,1,0] 2,.code [1,1,1,1,1]] { n:=14,fr:=[(4,.p (.v (Value.slice none 0 0))),(5,.x (.c (.loc 1 0))),(8,.x (.c (.fn (.func 48) [] [.loc 1 0,.loc 0 0,.loc 2 0]))),(9,.i k)],ck:=[.cells [.pd (.str c.name),.pd (.lst .str c.events),.pd (.lst .var c.vars),.pd (.lst .stat c.states),.pd (.lst .tran c.trans)] 27,.cells [.pd (.v (Value.slice none 0 0))] 29,.cells [.fn (.func 48) [] [.loc 1 0,.loc 0 0,.loc 2 0]] 76] }) fun Γ=>?_
 have hl:=JB t hk
 have hs:iU (dwM c.states k)=cG c.states k:=FT ((fv t (c.states.length+1) k hk).1.imp fun h=>Int.le_of_lt h)
 have rest:J Tryz.prog 32 (aA Tryz.f32) Γ (Eq2 (.x (.c (.own 0))) [.own 3 .int (cG c.states k)]) [.ops [1,1,1,1,0] 2,.code [1,1,1,1,1]] ({ n:=14,fr:=(zCh3 c k),ck:=[.dead,.cells [.own 3] 29,.cells [.fn (.func 48) [] [.loc 1 0,.pd (.ref .chart c 0),.loc 2 0]] 76,.own 3 .int []] }):=by
  refine jg sf Tryz.func32 (.need (29=(29:TypeId)∧76=(76:TypeId)∧c=c∧o7 c (k:Int) []) (.need (([]++dwM c.states k).length≤1000000) (.ret (.x (.c (.own 0))) [.own 3 .int (iU ([]++dwM c.states k))]))) ?_
  refine ⟨⟨rfl,rfl,rfl,Je c t _ k [] hk (aq _) (by show 0+_≤_; omega)⟩,by show ([]++dwM c.states k).length≤_; rw [bE]; omega,rfl,?_⟩
  rw [bE,hs]
 have rest2:J Tryz.prog 32 (aA Tryz.f32) Γ (Eq2 (.x (.c (.own 0))) [.own 3 .int (cG c.states k)]) [.ops [1,1,1,1,0] 2,.code [1,1,1,1,1]] ({ n:=14,fr:=(zCh3 c k),ck:=[.dead,.cells [.pd (.v (.slice none 0 0))] 29,.cells [.fn (.func 48) [] [.loc 1 0,.pd (.ref .chart c 0),.loc 2 0]] 76] }):=J.nilCk 1 0 3 .int rfl rfl (by kernel_rfl) rest
 exact J.freeze bb [0] (by kernel_rfl) rest2
theorem wM (h:Tre c.states∧0≤k∧k<(c.states.length:Int)):ag Tryz.prog 32 [.e .chart c,.i k] [] (.x (.c (.own 0))) [.own 3 .int (cG c.states k.toNat)]:=by
 obtain ⟨q,rfl⟩:=ay h.2.1
 rw [ai]
 exact AC c q h.1 (by omega)
def qp:Ent:=(32,fun
 | [.agg [.pd (.str a),.pd (.lst .str b),.pd (.lst .var c),.pd (.lst .stat d),.pd (.lst .tran e)],.c (.pd (.int .i64 k))],[]=>some (some (Tre d∧0≤k∧k<(d.length:Int)),.x (.c (.own 0)),[.own 3 .int (cG d k.toNat)])
 | _,_=>none)
theorem B8:EntOk Tryz.prog qp:=entOk fun vs ck=>by
 unfold qp; dsimp only; split
 · rename_i a b c d e k; exact entS fun hp=>wM ⟨a,b,c,d,e⟩ k hp
 · exact entN
end Go.Proofs.YtcopfgbbjdefbaaGreatDoor
