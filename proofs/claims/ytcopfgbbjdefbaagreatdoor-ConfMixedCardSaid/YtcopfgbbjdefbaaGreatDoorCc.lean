/- Contracts: conf: small functions, what a state begins with. Conditions: sizes. Legal configurations: the program's word and the document's are alike; what is chosen state by state is legal (plain). Conditions: a valid chart. Configurations that are legal: the first one, one by choices, two mixed; leaves (plain). Conditions: a valid chart. -/
import Derived.Test.YtcopfgbbjdefbaaGreatDoorFa
import Derived.Test.YtcopfgbbjdefbaaGreatDoorTq
import Derived.Test.YtcopfgbbjdefbaaGreatDoorSg
import Derived.Test.YtcopfgbbjdefbaaGreatDoorCi
namespace Go.Proofs.YtcopfgbbjdefbaaGreatDoor
open Go Go.Ev
set_option maxRecDepth 100000
variable (c a:Chart) (k:Int) {l:List Ev.Stat}
theorem Ao:ag Tryz.prog 39 [.i k] [] (.x (.b (aY k))) []:=by
 refine dg aT Tryz.func39 (.ret (.p (.bool (k==(5:Int)||k==(6:Int)))) []) fun Γ=>?_
 exact ⟨rfl,rfl⟩
def mu:Ent:=(39,fun
 | [.c (.pd (.int .i64 k))],[]=>some (none,.x (.c (.pd (.bool (aY k)))),[])
 | _,_=>none)
theorem rX:EntOk Tryz.prog mu:=entOk fun vs ck=>by
 unfold mu; dsimp only; split
 · rename_i k; exact entS fun hp=>Ao k
 · exact entN
def Bk:Cfg:=⟨bk,[qD]⟩
theorem Ca:ah Tryz.prog Bk.tab:=(ah.cons Bf ah.nil)
theorem wU (h:c.vars.length≤2199023255552∧c.states.length≤2199023255552):ag Tryz.prog 31 [.e .chart c] [] (.x (.b (cv c==0))) []:=by
 refine dg Ca Tryz.func31 (.need (c.vars.length≤2199023255552∧c.states.length≤2199023255552) (.ret (.p (.bool (cv c==(0:Int)))) [])) fun Γ=>?_
 exact ⟨h,rfl,rfl⟩
def ln:Ent:=(31,fun
 | [.agg [.pd (.str a),.pd (.lst .str b),.pd (.lst .var c),.pd (.lst .stat d),.pd (.lst .tran e)]],[]=>some (some (c.length≤2199023255552∧d.length≤2199023255552),.x (.c (.pd (.bool (cv ⟨a,b,c,d,e⟩==0)))),[])
 | _,_=>none)
theorem qd:EntOk Tryz.prog ln:=entOk fun vs ck=>by
 unfold ln; dsimp only; split
 · rename_i a b c d e; exact entS fun hp=>wU ⟨a,b,c,d,e⟩ hp
 · exact entN
/-! ### down -/
def dwM (l:List Ev.Stat) (k:Nat):List Int:=dD l (l.length+1) k
def oX (out:List Int):Prop:=ag Tryz.prog 48 [.i k,.c (.loc 0 0),.c (.pd (.ref .chart c 0)),.c (.loc 1 0)] [.cells [.own 2] 29,Chunk.cells [SC.fn (Fn.func 48) [] [RC.loc 0 0,RC.pd (PD.ref ETy.chart c 0),RC.loc 1 0]] 76,.own 3 .int out] (.tup []) [.cells [.own 3] 29,Chunk.cells [SC.fn (Fn.func 48) [] [RC.loc 0 0,RC.pd (PD.ref ETy.chart c 0),RC.loc 1 0]] 76,.dead,.own 3 .int (out++dwM c.states k.toNat),.dead]
def eDn:Ent:=(48,fun
 | [.c (.pd (.int .i64 k)),.c (.loc 0 0),.c (.pd (.ref .chart c 0)),.c (.loc 1 0)],[.cells [.own 2] a,.cells [.fn (.func 48) [] [.loc 0 0,.pd (.ref .chart d 0),.loc 1 0]] b,.own 3 .int out]=>some (some (a=29∧b=76∧d=c∧oX c k out),.tup [],[.cells [.own 3] 29,.cells [.fn (.func 48) [] [.loc 0 0,.pd (.ref .chart c 0),.loc 1 0]] 76,.dead,.own 3 .int (out++dwM c.states k.toNat),.dead])
 | _,_=>none)
theorem BD:EntOk Tryz.prog eDn:=entOk fun vs ck=>by
 unfold eDn; dsimp only; split
 · rename_i k c a d b out; exact entS fun hp=>by obtain ⟨rfl,rfl,rfl,h⟩:=hp; exact h
 · exact entN
def vq:Cfg:=⟨bk,[jZ,my,eDn]⟩
theorem sq:ah Tryz.prog vq.tab:=(ah.cons kD (ah.cons su (ah.cons BD ah.nil)))
theorem l5 {α β:Type} {f g:α→List β}:∀ {l:List α},(∀ x∈l,f x=g x)→l.flatMap f=l.flatMap g
 | [],_=>rfl
 | a::r,h=>by rw [bf,bf,h a (aB ..),l5 fun x hx=>h x (aI _ hx)]
theorem kC {l:List Ev.Stat} (t:Tre l):∀ (n m k:Nat),k<l.length→l.length - k<n→l.length - k<m→dD l n k=dD l m k
 | 0,_,_,_,h,_=>by omega
 | _+1,0,_,_,_,h=>by omega
 | n + 1,m+1,k,hk,hn,hm=>by
   rw [dD,dD]
   congr 1
   by_cases h2:((ETy.get .stat l k).kind==2)=true
   · rw [if_pos h2,if_pos h2]
     obtain ⟨q,e1,e2,e3,_,_⟩:=t.init hk (eq_of_beq h2)
     have h3:upM l q<(q:Int):=(gY l (dep l q) q).2
     rw [e1,aj]
     exact kC t n m q e2 (by omega) (by omega)
   · rw [if_neg h2,if_neg h2]
     by_cases h3:((ETy.get .stat l k).kind==3)=true
     · rw [if_pos h3,if_pos h3]
       refine l5 fun y hy=>?_
       obtain ⟨q,rfl,e2,e3,_,_⟩:=dS t hk hy
       rw [aj]
       exact kC t n m q e2 (by omega) (by omega)
     · rw [if_neg h3,if_neg h3]
theorem JE (t:Tre l) {k:Nat} (hk:k<l.length):dwM l k=(k:Int)::(if ((ETy.get .stat l k).kind==2)=true then dwM l (aK l (ETy.get .stat l k).initial).toNat else if ((ETy.get .stat l k).kind==3)=true then (br l k).flatMap (fun y=>dwM l y.toNat) else []):=by
 unfold dwM
 rw [dD]
 congr 1
 by_cases h2:((ETy.get .stat l k).kind==2)=true
 · rw [if_pos h2,if_pos h2]
   obtain ⟨q,e1,e2,e3,_,_⟩:=t.init hk (eq_of_beq h2)
   have h3:upM l q<(q:Int):=(gY l (dep l q) q).2
   rw [e1,aj]
   exact kC t _ _ q e2 (by omega) (by omega)
 · rw [if_neg h2,if_neg h2]
   by_cases h3:((ETy.get .stat l k).kind==3)=true
   · rw [if_pos h3,if_pos h3]
     refine l5 fun y hy=>?_
     obtain ⟨q,rfl,e2,e3,_,_⟩:=dS t hk hy
     rw [aj]
     exact kC t _ _ q e2 (by omega) (by omega)
   · rw [if_neg h3,if_neg h3]
abbrev zCh1:Chunk:=.cells [.fn (.func 48) [] [.loc 0 0,.pd (.ref .chart a 0),.loc 1 0]] 76
abbrev zCh2:List PI:=[.code [1,1,0,1,1,1,0,1,0,0],.inLoop [1,1,0,1,1,1,0,1,0,0],.inBlock 1,.inBlock 0]
theorem GQ (k:Int) (ks:List Int) (hks:∀ y∈ks,∀ o:List Int,o.length+(dwM c.states y.toNat).length≤2000→oX c y o) (hl:ks.length≤maxLen) (fin:List Int) (Γ:Ctx):∀ (n i:Nat) (out:List Int),ks.length - i≤n→i≤ks.length →
 out.length+((ks.drop i).flatMap fun y=>dwM c.states y.toNat).length≤2000→out++((ks.drop i).flatMap fun y=>dwM c.states y.toNat)=fin →
 J Tryz.prog 48 (aw Tryz.f48) Γ (Eq2 (.tup []) [.cells [.own 3] 29,Chunk.cells [SC.fn (Fn.func 48) [] [RC.loc 0 0,RC.pd (PD.ref ETy.chart c 0),RC.loc 1 0]] 76,.dead,.own 3 .int fin]) zCh2 ({ n:=44,fr:=[(3,.x (.c (.loc 1 0))),(34,.x (.c (.own 4))),(35,.i ((ks.length:Int))),(36,.i ((i:Int)))],ck:=[.cells [.own 3] 29,zCh1 c,.dead,.own 3 .int out,.own 3 .int ks],m:=3 }):=by
 intro n
 induction n with
 | zero=>?_
 | succ n ih=>?_
 all_goals
  intro i out hn hi hb hf
  refine jg sq Tryz.func48 (.ite (decide ((i:Int)<(ks.length:Int))) (.need (inRg i ks.length) (.need (i<ks.length) (.need (29=(29:TypeId)∧76=(76:TypeId)∧c=c∧oX c (ETy.get .int ks i) out) (.stop zCh2 { n:=44,fr:=[(3,.x (.c (.loc 1 0))),(34,.x (.c (.own 3))),(35,.i ks.length),(36,.i (IntKind.wrap .i64 ((i:Int)+1)))],ck:=[.cells [.own 4] 29,zCh1 c,.dead,.own 3 .int ks,.own 3 .int (out++dwM c.states ((ETy.get .int ks i).toNat))],m:=3 })))) (.ret (.tup []) [.cells [.own 3] 29,zCh1 c,.dead,.own 3 .int out])) ?_
  refine ⟨fun hlt=>?_,fun hge=>?_⟩
  · have hi':i<ks.length:=by have:=of_decide_eq_true hlt; omega
    have ed:ks.drop i=ETy.get .int ks i::ks.drop (i+1):=bL (t:=.int) (l:=ks) hi'
    have hm:ETy.get .int ks i∈ks:=by rw [ETy.get_eq (t:=.int) (List.getElem?_eq_getElem hi')]; exact bE hi'
    rw [ed,bf] at hb hf
    rw [an] at hb
    refine ⟨⟨by omega,by omega⟩,hi',⟨rfl,rfl,rfl,hks _ hm out (by omega)⟩,?_⟩
    rw [aZ (aE hi' hl)]
    first
    | (exfalso; omega)
    | exact J.perm [0,1,2,4,3] rfl (ih (i+1) _ (by omega) (by omega) (by rw [an]; omega) (by rw [bp]; exact hf))
  · have hie:ks.drop i=[]:=bY (by have:=of_decide_eq_false hge; omega)
    rw [hie,List.flatMap_nil,aN] at hf
    subst hf; exact ⟨rfl,rfl⟩
theorem I9 (t:Tre c.states):∀ (n k:Nat) (out:List Int),k<c.states.length→c.states.length - k≤n→out.length+(dwM c.states k).length≤2000→oX c (k:Int) out:=by
 have hfew:=t.shp.few
 intro n
 induction n with
 | zero=>intro k out hk hn; omega
 | succ n ih =>
   intro k out hk hn hb
   have e:=JE t hk
   have hroom:room (out++[(k:Int)]).length 8:=by
    rw [e,az] at hb
    rw [an]
    exact ⟨by show (_+1) * 8≤_; omega,by show _+1≤_; unfold maxLen; omega⟩
   have hkl:=kG c.states k
   have key:∀ kk:Int,kk=(k:Int)→ag Tryz.prog 48 [.i kk,.c (.loc 0 0),.c (.pd (.ref .chart c 0)),.c (.loc 1 0)] [.cells [.own 2] 29,Chunk.cells [SC.fn (Fn.func 48) [] [RC.loc 0 0,RC.pd (PD.ref ETy.chart c 0),RC.loc 1 0]] 76,.own 3 .int out] (.tup []) [.cells [.own 3] 29,Chunk.cells [SC.fn (Fn.func 48) [] [RC.loc 0 0,RC.pd (PD.ref ETy.chart c 0),RC.loc 1 0]] 76,.dead,.own 3 .int (out++dwM c.states k)]:=by
    intro kk hkk
    refine dg sq Tryz.func48 (let x1:=(ETy.get .stat c.states (Int.toNat kk)); let x2:=((0:Int)≤kk∧kk<(c.states.length:Int)); let x3:=(aK c.states (Stat.initial x1)); .need (room ((out++[kk]).length) 8) (.need x2 (.ite (Stat.kind x1==(2:Int)) (.need x2 (.need (29=(29:TypeId)∧76=(76:TypeId)∧c=c∧oX c x3 (out++[kk])) (.ret (.tup []) [.cells [.own 3] 29,zCh1 c,.dead,.own 3 .int (out++[kk]++dwM c.states (x3.toNat))]))) (.ite (Stat.kind x1==(3:Int)) (.need (b9 c.states kk=true) (.stop zCh2 { n:=44,fr:=[(3,.x (.c (.loc 1 0))),(34,.x (.c (.own 4))),(35,.i (↑((br c.states (Int.toNat kk)).length):Int)),(36,.i 0)],ck:=[.cells [.own 3] 29,zCh1 c,.dead,.own 3 .int (out++[kk]),.own 3 .int (br c.states (Int.toNat kk))],m:=3 })) (.ret (.tup []) [.cells [.own 3] 29,zCh1 c,.dead,.own 3 .int (out++[kk])]))))) fun Γ=>?_
    conv=>zeta
    subst hkk
    rw [aj]
    refine ⟨hroom,⟨by omega,by omega⟩,fun h2=>?_,fun h2=>⟨fun h3=>⟨gT t.right hk,?_⟩,fun h3=>?_⟩⟩
    · rw [if_pos h2] at e
      obtain ⟨q,e1,e2,e3,_,_⟩:=t.init hk (eq_of_beq h2)
      have h3:upM c.states q<(q:Int):=(gY c.states (dep c.states q) q).2
      rw [e1,aj] at e
      rw [e1,aj]
      refine ⟨⟨by omega,by omega⟩,⟨rfl,rfl,rfl,ih q _ e2 (by omega) ?_⟩,rfl,?_⟩
      · rw [e,az] at hb
        rw [an]; show _+1+_≤_; omega
      · rw [e,bp]; rfl
    · rw [if_neg (by rw [h2]; decide),if_pos h3] at e
      refine GQ c k (br c.states k) (fun y hy o ho=>?_) (by unfold maxLen; omega) _ Γ (br c.states k).length 0 _ (by omega) (by omega) ?_ ?_
      · obtain ⟨q,rfl,e2,e3,_,_⟩:=dS t hk hy
        rw [aj] at ho
        exact ih q o e2 (by omega) ho
      · rw [e,az] at hb
        rw [dh,an]; show _+1+_≤_; omega
      · rw [dh,e,bp]; rfl
    · rw [if_neg (by rw [h2]; decide),if_neg (by rw [h3]; decide)] at e
      rw [e]; exact ⟨rfl,rfl⟩
   unfold oX
   rw [aj]
   exact ag.mark (key _ rfl)
def vA:Cfg:=⟨bk,[eDn,p7]⟩
theorem rM:ah Tryz.prog vA.tab:=(ah.cons BD (ah.cons C8 ah.nil))
theorem oi:∀ (l:List Int) (a b:Int),l.Pairwise (· < ·)→(∀ y∈l,a≤y∧y<b)→(l.length:Int)≤(if a≤b then b - a else 0)
 | [],a,b,_,_=>by split <;> simp <;> omega
 | x::r,a,b,hp,hm=>by
   rw [dr] at hp
   have h1:=hm x (aB ..)
   have ih:=oi r (x+1) b hp.2 (fun y hy=>⟨by have:=hp.1 y hy; omega,(hm y (aI _ hy)).2⟩)
   rw [az]
   rw [if_pos (by omega)] at ih ⊢
   omega
theorem IY (t:Tre l) {k:Nat} (hk:k<l.length):(dwM l k).length≤40:=by
 have h1:=fP t (l.length+1) k hk
 have h2:=oi (dwM l k) 0 40 h1.1 (fun y hy=>by
  have h3:=h1.2 y hy
  have h4:endM l k≤l.length:=(dN l hk).2
  have h5:=t.shp.few
  omega)
 rw [if_pos (by omega)] at h2
 omega
abbrev zCh3 (b:Nat):List (Nat×SV):=[(4,.p (.v (Value.slice none 0 0))),(5,.x (.c (.loc 1 0))),(8,.x (.c (.fn (.func 48) [] [.loc 1 0,.pd (.ref .chart a 0),.loc 2 0]))),(9,.i b)]
theorem y7 (k:Nat) (t:Tre c.states) (hk:k<c.states.length):ag Tryz.prog 32 [.e .chart c,.i (k:Int)] [] (.x (.c (.own 0))) [.own 3 .int (dK c.states k)]:=by
 refine dg rM Tryz.func32 (.stop [.ops [1,1,1,1,0] 2,.code [1,1,1,1,1]] { n:=14,fr:=[(4,.p (.v (Value.slice none 0 0))),(5,.x (.c (.loc 1 0))),(8,.x (.c (.fn (.func 48) [] [.loc 1 0,.loc 0 0,.loc 2 0]))),(9,.i k)],ck:=[.cells [.pd (.str c.name),.pd (.lst .str c.events),.pd (.lst .var c.vars),.pd (.lst .stat c.states),.pd (.lst .tran c.trans)] 27,.cells [.pd (.v (Value.slice none 0 0))] 29,.cells [.fn (.func 48) [] [.loc 1 0,.loc 0 0,.loc 2 0]] 76] }) fun Γ=>?_
 have hl:=IY t hk
 have hs:iT (dwM c.states k)=dK c.states k:=DF ((fP t (c.states.length+1) k hk).1.imp fun h=>Int.le_of_lt h)
 have rest:J Tryz.prog 32 (aw Tryz.f32) Γ (Eq2 (.x (.c (.own 0))) [.own 3 .int (dK c.states k)]) [.ops [1,1,1,1,0] 2,.code [1,1,1,1,1]] ({ n:=14,fr:=(zCh3 c k),ck:=[.dead,.cells [.own 3] 29,.cells [.fn (.func 48) [] [.loc 1 0,.pd (.ref .chart c 0),.loc 2 0]] 76,.own 3 .int []] }):=by
  refine jg rM Tryz.func32 (.need (29=(29:TypeId)∧76=(76:TypeId)∧c=c∧oX c (k:Int) []) (.need (([]++dwM c.states k).length≤1000000) (.ret (.x (.c (.own 0))) [.own 3 .int (iT ([]++dwM c.states k))]))) ?_
  refine ⟨⟨rfl,rfl,rfl,I9 c t _ k [] hk (ar _) (by show 0+_≤_; omega)⟩,by show ([]++dwM c.states k).length≤_; rw [bH]; omega,rfl,?_⟩
  rw [bH,hs]
 have rest2:J Tryz.prog 32 (aw Tryz.f32) Γ (Eq2 (.x (.c (.own 0))) [.own 3 .int (dK c.states k)]) [.ops [1,1,1,1,0] 2,.code [1,1,1,1,1]] ({ n:=14,fr:=(zCh3 c k),ck:=[.dead,.cells [.pd (.v (.slice none 0 0))] 29,.cells [.fn (.func 48) [] [.loc 1 0,.pd (.ref .chart c 0),.loc 2 0]] 76] }):=J.nilCk 1 0 3 .int rfl rfl (by kernel_rfl) rest
 exact J.freeze bk [0] (by kernel_rfl) rest2
theorem wT (h:Tre c.states∧0≤k∧k<(c.states.length:Int)):ag Tryz.prog 32 [.e .chart c,.i k] [] (.x (.c (.own 0))) [.own 3 .int (dK c.states k.toNat)]:=by
 obtain ⟨q,rfl⟩:=aF h.2.1
 rw [aj]
 exact y7 c q h.1 (by omega)
def pY:Ent:=(32,fun
 | [.agg [.pd (.str a),.pd (.lst .str b),.pd (.lst .var c),.pd (.lst .stat d),.pd (.lst .tran e)],.c (.pd (.int .i64 k))],[]=>some (some (Tre d∧0≤k∧k<(d.length:Int)),.x (.c (.own 0)),[.own 3 .int (dK d k.toNat)])
 | _,_=>none)
theorem CH:EntOk Tryz.prog pY:=entOk fun vs ck=>by
 unfold pY; dsimp only; split
 · rename_i a b c d e k; exact entS fun hp=>wT ⟨a,b,c,d,e⟩ k hp
 · exact entN
end Go.Proofs.YtcopfgbbjdefbaaGreatDoor
namespace Go.Proofs.YtcopfgbbjdefbaaGreatDoor
open Go Go.Ev
set_option maxRecDepth 100000
variable (s:List Int) (i:Int) {l:List Ev.Stat}
def inB:Bool:=s.any fun x=>x==i
def mQ (l:List Ev.Stat):Int→List Int→Bool
 | _,[]=>true
 | a,x::r=>if (decide (x≤a)||decide (x≥(l.length:Int))||aY (ETy.get .stat l x.toNat).kind)=true then false else mQ l x r
def eN (ks:List Int):Nat:=(ks.filter fun k=>inB s k).length
def jF (l:List Ev.Stat) (s:List Int) (i:Nat):Bool :=
 if ((ETy.get .stat l i).depth==0 && !inB s i||decide ((ETy.get .stat l i).depth>0)&&inB s i && !inB s (upM l i))=true then false
 else if (!inB s i||(ETy.get .stat l i).kind != 2&&(ETy.get .stat l i).kind != 3)=true then true
 else !((ETy.get .stat l i).kind==2&&(eN s (br l i):Int) != 1||(ETy.get .stat l i).kind==3&&(eN s (br l i):Int) != ((br l i).length:Int))
def mw (l:List Ev.Stat) (s:List Int):Nat→Nat→Bool
 | 0,_=>true
 | n+1,i=>jF l s i&&mw l s n (i+1)
def cW (l:List Ev.Stat) (s:List Int):Bool:=mQ l (-1) s&&mw l s l.length 0
structure Lgl (l:List Ev.Stat) (s:List Int):Prop where
 inc:s.Pairwise (· < ·)
 rng:∀ x∈s,∃ i:Nat,x=(i:Int)∧i<l.length∧aY (knd l i)=false
 root:∀ i,i<l.length→dep l i=0→(i:Int)∈s
 par:∀ i p:Nat,i<l.length→(i:Int)∈s→upM l i=(p:Int)→(p:Int)∈s
 one:∀ i,i<l.length→(i:Int)∈s→knd l i=2→∃ q:Nat,q<l.length∧upM l q=(i:Int)∧(q:Int)∈s∧∀ m:Nat,m<l.length→upM l m=(i:Int)→(m:Int)∈s→m=q
 both:∀ i,i<l.length→(i:Int)∈s→knd l i=3→∀ m:Nat,m<l.length→upM l m=(i:Int)→(m:Int)∈s
theorem fm:inB s i=true↔i∈s:=by
 unfold inB
 rw [bB]
 constructor
 · rintro ⟨x,hx,e⟩; rw [← eq_of_beq e]; exact hx
 · intro h; exact ⟨i,h,beq_self_eq_true _⟩
theorem D8 {i:Nat} (hi:i<l.length):(br l i).Pairwise (· < ·):=by
 have he:=(dN l hi).2
 have h:=(kU l (endM l i) l.length (i+1) he).1
 have hb:∀ n k,∀ y∈dp l (endM l i) n k,∃ m:Nat,y=(m:Int)∧m<l.length:=by
  intro n
  induction n with
  | zero=>intro k y hy; rw [dp] at hy; cases hy
  | succ n ih =>
    intro k y hy
    rw [dp] at hy
    split at hy
    · rcases aH.1 hy with rfl | hy
      · exact ⟨k,rfl,by omega⟩
      · exact ih _ y hy
    · cases hy
 refine List.Pairwise.imp_of_mem (fun {a b} ha _ hab=>?_) h
 obtain ⟨m,rfl,hm⟩:=hb _ _ a ha
 rw [aj] at hab
 have:=dN l hm
 omega
theorem G9 {l:List Int} (hn:l.Pairwise (· < ·)):l.length=1↔∃ q,q∈l∧∀ m∈l,m=q:=by
 match l with
 | []=>simp
 | [a]=>simp
 | a::b::r =>
   rw [dr] at hn
   refine ⟨fun h=>by simp at h,fun ⟨q,_,h⟩=>?_⟩
   have h1:=h a (by simp)
   have h2:=h b (by simp)
   have:=hn.1 b (by simp)
   omega
theorem GI (S:Shp l) {i:Nat} (hi:i<l.length) (s:List Int):eN s (br l i)=1↔∃ q:Nat,q<l.length∧upM l q=(i:Int)∧(q:Int)∈s∧∀ m:Nat,m<l.length→upM l m=(i:Int)→(m:Int)∈s→m=q:=by
 unfold eN
 rw [G9 ((D8 hi).filter _)]
 have hm:∀ y,y∈(br l i).filter (fun k=>inB s k)↔∃ m:Nat,y=(m:Int)∧m<l.length∧upM l m=(i:Int)∧(m:Int)∈s:=fun y=>by
  rw [aA,iH S hi,fm]
  constructor
  · rintro ⟨⟨m,rfl,h1,h2⟩,h3⟩; exact ⟨m,rfl,h1,h2,h3⟩
  · rintro ⟨m,rfl,h1,h2,h3⟩; exact ⟨⟨m,rfl,h1,h2⟩,h3⟩
 constructor
 · rintro ⟨q,hq,h⟩
   obtain ⟨m,rfl,h1,h2,h3⟩:=(hm q).1 hq
   exact ⟨m,h1,h2,h3,fun m' a b c=>by have:=h (m':Int) ((hm _).2 ⟨m',rfl,a,b,c⟩); omega⟩
 · rintro ⟨q,h1,h2,h3,h⟩
   refine ⟨(q:Int),(hm _).2 ⟨q,rfl,h1,h2,h3⟩,fun y hy=>?_⟩
   obtain ⟨m,rfl,a,b,c⟩:=(hm y).1 hy
   rw [h m a b c]
theorem HX (S:Shp l) {i:Nat} (hi:i<l.length) (s:List Int):eN s (br l i)=(br l i).length↔∀ m:Nat,m<l.length→upM l m=(i:Int)→(m:Int)∈s:=by
 unfold eN
 rw [List.length_filter_eq_length_iff]
 constructor
 · intro h m h1 h2
   exact (fm _ _).1 (h (m:Int) ((iH S hi _).2 ⟨m,rfl,h1,h2⟩))
 · intro h y hy
   obtain ⟨m,rfl,h1,h2⟩:=(iH S hi y).1 hy
   exact (fm _ _).2 (h m h1 h2)
theorem De (S:Shp l) {i:Nat} (hd:dep l i>0):∃ p:Nat,upM l i=(p:Int)∧p<i:=by
 rcases oY l i with ⟨_,h⟩ | ⟨p,e,h,_⟩
 · by_cases h0:i=0
   · subst h0; have:=S.d0; omega
   · have:=h 0 (by omega); have:=S.d0; omega
 · exact ⟨p,e,h⟩
theorem tC (S:Shp l) {i p:Nat} (hi:i<l.length) (h:upM l i=(p:Int)):dep l i>0:=by
 have h1:=(Ch l i p).1 h
 have:=S.lo p (by omega)
 omega
structure Lg1 (l:List Ev.Stat) (s:List Int) (i:Nat):Prop where
 root:dep l i=0→(i:Int)∈s
 par:∀ p:Nat,(i:Int)∈s→upM l i=(p:Int)→(p:Int)∈s
 one:(i:Int)∈s→knd l i=2→∃ q:Nat,q<l.length∧upM l q=(i:Int)∧(q:Int)∈s∧∀ m:Nat,m<l.length→upM l m=(i:Int)→(m:Int)∈s→m=q
 both:(i:Int)∈s→knd l i=3→∀ m:Nat,m<l.length→upM l m=(i:Int)→(m:Int)∈s
theorem vf (S:Shp l) {i:Nat} (hi:i<l.length) (s:List Int):(!((ETy.get .stat l i).kind==2&&(eN s (br l i):Int) != 1||(ETy.get .stat l i).kind==3&&(eN s (br l i):Int) != ((br l i).length:Int)))=true ↔
 (knd l i=2→∃ q:Nat,q<l.length∧upM l q=(i:Int)∧(q:Int)∈s∧∀ m:Nat,m<l.length→upM l m=(i:Int)→(m:Int)∈s→m=q)∧(knd l i=3→∀ m:Nat,m<l.length→upM l m=(i:Int)→(m:Int)∈s):=by
 rw [← GI S hi,← HX S hi]
 show _↔((ETy.get .stat l i).kind=2→_)∧((ETy.get .stat l i).kind=3→_)
 generalize (ETy.get .stat l i).kind=a
 generalize eN s (br l i)=b
 generalize (br l i).length=d
 rw [aD,← b8]
 simp only [aO,af,bne_iff_ne,beq_iff_eq,ne_eq]
 omega
theorem Jh (S:Shp l) {i:Nat} (hi:i<l.length) (s:List Int):jF l s i=true↔Lg1 l s i:=by
 unfold jF
 have hlo:=S.lo i hi
 by_cases hin:(i:Int)∈s
 · rw [(fm s i).2 hin]
   simp only [bX,cO,aX,dn]
   by_cases hd:dep l i=0
   · have e:decide ((ETy.get .stat l i).depth>0)=false:=decide_eq_false (by show ¬dep l i>0; omega)
     rw [e,bj,if_neg (by decide)]
     by_cases hk:(ETy.get .stat l i).kind=2∨(ETy.get .stat l i).kind=3
     · rw [if_neg (by simp; omega),vf S hi]
       exact ⟨fun h=>⟨fun _=>hin,fun p _ hu=>by have:=tC S hi hu; omega,fun _=>h.1,fun _=>h.2⟩,fun h=>⟨h.one hin,h.both hin⟩⟩
     · rw [if_pos (by simp; omega)]
       exact ⟨fun _=>⟨fun _=>hin,fun p _ hu=>by have:=tC S hi hu; omega,fun _ h=>absurd (.inl h) hk,fun _ h=>absurd (.inr h) hk⟩,fun _=>rfl⟩
   · have e:decide ((ETy.get .stat l i).depth>0)=true:=decide_eq_true (by show dep l i>0; omega)
     obtain ⟨p,hp,_⟩:=De S (i:=i) (by omega)
     rw [e,aV,hp]
     by_cases hps:(p:Int)∈s
     · rw [(fm s p).2 hps,bX,if_neg (by decide)]
       have hpar:∀ p':Nat,(i:Int)∈s→upM l i=(p':Int)→(p':Int)∈s:=fun p' _ h=>by
        rw [hp] at h; rw [← h]; exact hps
       by_cases hk:(ETy.get .stat l i).kind=2∨(ETy.get .stat l i).kind=3
       · rw [if_neg (by simp; omega),vf S hi]
         exact ⟨fun h=>⟨fun _=>hin,hpar,fun _=>h.1,fun _=>h.2⟩,fun h=>⟨h.one hin,h.both hin⟩⟩
       · rw [if_pos (by simp; omega)]
         exact ⟨fun _=>⟨fun _=>hin,hpar,fun _ h=>absurd (.inl h) hk,fun _ h=>absurd (.inr h) hk⟩,fun _=>rfl⟩
     · have e2:inB s (p:Int)=false:=by
        cases h:inB s (p:Int)
        · rfl
        · exact absurd ((fm _ _).1 h) hps
       rw [e2,cn,if_pos rfl]
       exact ⟨fun h=>(by cases h),fun h=>absurd (h.par p hin hp) hps⟩
 · have e:inB s (i:Int)=false:=by
    cases h:inB s (i:Int)
    · rfl
    · exact absurd ((fm _ _).1 h) hin
   rw [e]
   simp only [cn,dn,cO,bj,bQ,bV,if_true]
   by_cases hd:dep l i=0
   · rw [if_pos (by simpa using hd)]
     exact ⟨fun h=>(by cases h),fun h=>absurd (h.root hd) hin⟩
   · rw [if_neg (by simpa using hd)]
     exact ⟨fun _=>⟨fun h=>absurd h hd,fun _ h=>absurd h hin,fun h=>absurd h hin,fun h=>absurd h hin⟩,fun _=>rfl⟩
theorem F3 {l:List Ev.Stat} (S:Shp l) (s:List Int):∀ (n i:Nat),l.length - i=n→(mw l s n i=true↔∀ j,i≤j→j<l.length→Lg1 l s j)
 | 0,i,hn=>by rw [mw]; exact ⟨fun _ j h1 h2=>by omega,fun _=>rfl⟩
 | n+1,i,hn=>by
   rw [mw,af,Jh S (by omega),F3 S s n (i+1) (by omega)]
   refine ⟨fun ⟨a,b⟩ j h1 h2=>?_,fun h=>⟨h i (ar _) (by omega),fun j h1 h2=>h j (by omega) h2⟩⟩
   by_cases hj:j=i
   · subst hj; exact a
   · exact b j (by omega) h2
theorem qO (l:List Ev.Stat):∀ (s:List Int) (a:Int), -1≤a→(mQ l a s=true↔s.Pairwise (· < ·)∧∀ x∈s,a<x∧∃ i:Nat,x=(i:Int)∧i<l.length∧aY (knd l i)=false)
 | [],a,_=>by rw [mQ]; exact ⟨fun _=>⟨.nil,fun x h=>(by cases h)⟩,fun _=>rfl⟩
 | x :: r, a,ha=>by
   rw [mQ]
   by_cases h1:x≤a
   · rw [decide_eq_true h1,bV,bV,if_pos rfl]
     exact ⟨fun h=>(by cases h),fun h=>by have:=(h.2 x aB).1; omega⟩
   · by_cases h2:x≥(l.length:Int)
     · rw [decide_eq_true h2,Bool.or_true,bV,if_pos rfl]
       refine ⟨fun h=>(by cases h),fun h=>?_⟩
       obtain ⟨i,rfl,hi,_⟩:=(h.2 x aB).2
       omega
     · rw [decide_eq_false h1,decide_eq_false h2,aX,aX]
       obtain ⟨i,rfl⟩:=aF (show 0≤x by omega)
       rw [aj]
       cases hp:aY (ETy.get .stat l i).kind
       · rw [if_neg (by decide),qO l r (i:Int) (by omega),dr]
         constructor
         · rintro ⟨h3,h4⟩
           refine ⟨⟨fun y hy=>(h4 y hy).1,h3⟩,fun y hy=>?_⟩
           rcases aH.1 hy with rfl | hy
           · exact ⟨by omega,i,rfl,by omega,hp⟩
           · have:=h4 y hy; exact ⟨by omega,this.2⟩
         · rintro ⟨⟨h3,h4⟩,h5⟩
           exact ⟨h4,fun y hy=>⟨h3 y hy,(h5 y (aI _ hy)).2⟩⟩
       · rw [if_pos rfl]
         refine ⟨fun h=>(by cases h),fun h=>?_⟩
         obtain ⟨j,e,_,hj⟩:=(h.2 (i:Int) aB).2
         have:i=j:=by omega
         subst this
         have hp':aY (knd l i)=true:=hp
         rw [hp'] at hj; cases hj
theorem Bd (S:Shp l) (s:List Int):cW l s=true↔Lgl l s:=by
 unfold cW
 rw [af,qO l s (-1) (by omega),F3 S s l.length 0 (by omega)]
 constructor
 · rintro ⟨⟨h1,h2⟩,h3⟩
   exact ⟨h1,fun x hx=>(h2 x hx).2,fun i hi=>(h3 i (aP _) hi).root,fun i p hi=>(h3 i (aP _) hi).par p,fun i hi=>(h3 i (aP _) hi).one,fun i hi=>(h3 i (aP _) hi).both⟩
 · intro h
   refine ⟨⟨h.inc,fun x hx=>?_⟩,fun j _ hj=>⟨h.root j hj,fun p=>h.par j p hj,h.one j hj,h.both j hj⟩⟩
   have:=h.rng x hx
   obtain ⟨i,rfl,_⟩:=this
   exact ⟨by omega,h.rng _ hx⟩
end Go.Proofs.YtcopfgbbjdefbaaGreatDoor
namespace Go.Proofs.YtcopfgbbjdefbaaGreatDoor
open Go Go.Ev
set_option maxRecDepth 100000
theorem vz (l:List Ev.Stat):∀ (n k:Nat) (r q:Int),l.length - k=n→eg l n k r=some q→∀ j,k≤j→j<l.length→dep l j=0→knd l j=2
 | 0,k,r,q,hn,_,j,h1,h2,_=>by omega
 | n + 1,k,r,q,hn,h,j,h1,h2,h3=>by
   rw [eg] at h
   split at h
   · cases h
   · by_cases hj:j=k
     · subst hj
       rw [if_pos (by simpa using (show (ETy.get .stat l j).depth=0 from h3))] at h
       split at h
       · cases h
       · rename_i h4
         show (ETy.get .stat l j).kind=2
         simpa using h4
     · split at h
       · split at h
         · cases h
         · exact vz l n (k+1) _ q (by omega) h j (by omega) h2 h3
       · exact vz l n (k+1) _ q (by omega) h j (by omega) h2 h3
variable {l:List Ev.Stat}
theorem Tre.reg (t:Tre l) {i:Nat} (hi:i<l.length) (h:dep l i=0):knd l i=2:=by
 have h1:=t.right
 rw [lQ] at h1
 unfold fx gn at h1
 rw [af,af] at h1
 cases hq:eg l l.length 0 0 with
 | none=>rw [hq] at h1; exact absurd h1.1.2 (by decide)
 | some q=>exact vz l l.length 0 0 q (by omega) hq i (aP _) hi h
theorem Fz {k:Int} (h:k=2):aY k=false:=by rw [h]; rfl
theorem Iv (t:Tre l) {s:List Int} (hs:s.Pairwise (· < ·)) (I:Nat→Prop) (ch:Nat→Nat→Prop) (hm:∀ y,y∈s↔∃ j:Nat,y=(j:Int)∧j<l.length∧I j)
 (hch:∀ p,p<l.length→knd l p=2→I p→∃ q,q<l.length∧upM l q=(p:Int)∧aY (knd l q)=false∧ch p q∧∀ m,m<l.length→upM l m=(p:Int)→ch p m→m=q)
 (hI:∀ j,j<l.length→(I j↔dep l j=0∨∃ p:Nat,upM l j=(p:Int)∧I p∧(knd l p=3∨(knd l p=2∧ch p j)))):Lgl l s:=by
 have mem:∀ j:Nat,(j:Int)∈s→j<l.length∧I j:=fun j h=>by
  obtain ⟨k,e,h1,h2⟩:=(hm _).1 h
  have:j=k:=by omega
  subst this; exact ⟨h1,h2⟩
 have put:∀ j:Nat,j<l.length→I j→(j:Int)∈s:=fun j h1 h2=>(hm _).2 ⟨j,rfl,h1,h2⟩
 have plt:∀ {j p:Nat},j<l.length→upM l j=(p:Int)→p<l.length:=fun {j p} hj h=>by
  have:=((eY t.shp hj).1 h).1; omega
 refine ⟨hs,fun x hx=>?_,fun i hi hd=>put i hi ((hI i hi).2 (.inl hd)),fun i p hi his hu=>?_,fun i hi his hk=>?_,fun i hi his hk m hml hu=>put m hml ((hI m hml).2 (.inr ⟨i,hu,(mem i his).2,.inl hk⟩))⟩
 · obtain ⟨j,rfl,hj,hIj⟩:=(hm x).1 hx
   refine ⟨j,rfl,hj,?_⟩
   rcases (hI j hj).1 hIj with h | ⟨p,hu,hp,h | ⟨h,hc⟩⟩
   · exact Fz (t.reg hj h)
   · rcases t.both hj hu with h2 | ⟨_,h3⟩
     · rw [h] at h2; exact absurd h2 (by decide)
     · have h3':knd l j≤3:=h3
       cases hp:aY (knd l j)
       · rfl
       · rcases (uu _).1 hp with h4 | h4 <;> omega
   · obtain ⟨q,_,_,hq3,_,hq5⟩:=hch p (plt hj hu) h hp
     rw [hq5 j hj hu hc]; exact hq3
 · rcases (hI i hi).1 (mem i his).2 with h | ⟨p',hu',hp,_⟩
   · have:=tC t.shp hi hu; omega
   · have:p=p':=by rw [hu] at hu'; omega
     subst this
     exact put p (plt hi hu) hp
 · obtain ⟨q,h1,h2,h3,h4,h5⟩:=hch i hi hk (mem i his).2
   refine ⟨q,h1,h2,put q h1 ((hI q h1).2 (.inr ⟨i,h2,(mem i his).2,.inr ⟨hk,h4⟩⟩)),fun m hml hu hms=>?_⟩
   rcases (hI m hml).1 (mem m hms).2 with h | ⟨p',hu',hp,h | ⟨h,hc⟩⟩
   · have:=tC t.shp hml hu; omega
   · have:i=p':=by rw [hu] at hu'; omega
     subst this
     rw [hk] at h; exact absurd h (by decide)
   · have:i=p':=by rw [hu] at hu'; omega
     subst this
     exact h5 m hml hu hc
/-! ### the first configuration -/
def gd (l:List Ev.Stat):List Int:=(List.range l.length).flatMap fun i=>if ((ETy.get .stat l i).depth==0)=true then dK l i else []
theorem CG (t:Tre l) (y:Int):y∈gd l↔∃ j:Nat,y=(j:Int)∧j<l.length∧∃ r,r<l.length∧dep l r=0∧Begun l r j:=by
 unfold gd
 rw [aG]
 constructor
 · rintro ⟨r,hr,hy⟩
   have hr':=ba.1 hr
   split at hy
   · rename_i h
     obtain ⟨j,e,hb⟩:=(uq t hr' y).1 hy
     exact ⟨j,e,(hb.lt t hr').1,r,hr',by simpa using h,hb⟩
   · cases hy
 · rintro ⟨j,e,hj,r,hr,hd,hb⟩
   refine ⟨r,ba.2 hr,?_⟩
   rw [if_pos (by simpa using (show (ETy.get .stat l r).depth=0 from hd))]
   exact (uq t hr y).2 ⟨j,e,hb⟩
theorem GA (t:Tre l) {a b:Nat} (ha:a<l.length) (_hb:b<l.length) (hab:a<b) (h:dep l b=0):endM l a≤b:=by
 by_cases h1:endM l a≤b
 · exact h1
 · have h2:=fK l a b hab (by omega)
   have h3:=t.shp.lo a ha
   omega
theorem tJ (t:Tre l):(gd l).Pairwise (· < ·):=by
 unfold gd
 rw [List.pairwise_flatMap]
 refine ⟨fun a ha=>?_,?_⟩
 · split
   · exact (fP t _ a (ba.1 ha)).1
   · exact .nil
 · refine List.Pairwise.imp_of_mem (fun {a b} ha hb hab x hx y hy=>?_) List.pairwise_lt_range
   have ha':=ba.1 ha
   have hb':=ba.1 hb
   split at hx
   · split at hy
     · rename_i _ h2
       have h3:=(fP t _ a ha').2 x hx
       have h4:=(fP t _ b hb').2 y hy
       have h5:=GA t ha' hb' hab (by simpa using h2)
       omega
     · cases hy
   · cases hx
/-! ### regions -/
def gP (l:List Ev.Stat):Nat→Nat→Nat
 | 0,i=>i
 | n+1,i=>if bm l i≥0 then gP l n (bm l i).toNat else i
def gC (l:List Ev.Stat) (i:Nat):Nat:=gP l l.length i
theorem BG {l:List Ev.Stat} (t:Tre l):∀ (n m i:Nat),i<l.length→i<n→i<m→gP l n i=gP l m i
 | 0,_,i,_,h,_=>by omega
 | _,0,i,_,_,h=>by omega
 | n + 1,m+1,i,hi,hn,hm=>by
   rw [gP,gP]
   have hb:=gu l i
   by_cases h:bm l i≥0
   · rw [if_pos h,if_pos h]
     exact BG t n m _ (by omega) (by omega) (by omega)
   · rw [if_neg h,if_neg h]
theorem pI (t:Tre l) {i p:Nat} (hi:i<l.length) (h:upM l i=(p:Int)):gC l i=gC l p:=by
 have hp:=((eY t.shp hi).1 h).1
 unfold gC
 obtain ⟨n,hn⟩:∃ n,l.length=n+1:=⟨l.length - 1,by omega⟩
 rw [hn,gP,gJ t.shp hi,h,if_pos (by omega),aj]
 exact BG t n (n+1) p (by omega) (by omega) (by omega)
theorem Cc (t:Tre l) {s:Bool→List Int} (h:∀ b,Lgl l (s b)) (f:Nat→Bool):Lgl l (((List.range l.length).filter fun i:Nat=>inB (s (f (gC l i))) (i:Int)).map fun i:Nat=>(i:Int)):=by
 have hm:∀ i:Nat,(i:Int)∈(((List.range l.length).filter fun i:Nat=>inB (s (f (gC l i))) (i:Int)).map fun i:Nat=>(i:Int))↔i<l.length∧(i:Int)∈s (f (gC l i)):=fun i=>by
  rw [aQ]
  constructor
  · rintro ⟨j,hj,e⟩
    have:j=i:=by omega
    subst this
    rw [aA,ba,fm] at hj
    exact hj
  · intro hj
    exact ⟨i,by rw [aA,ba,fm]; exact hj,rfl⟩
 refine ⟨nI _ _,fun x hx=>?_,fun i hi hd=>(hm i).2 ⟨hi,(h _).root i hi hd⟩,fun i p hi his hu=>?_,fun i hi his hk=>?_,fun i hi his hk m hml hu=>?_⟩
 · obtain ⟨i,hi,rfl⟩:=aQ.1 hx
   rw [aA,ba,fm] at hi
   obtain ⟨j,e,h1,h2⟩:=(h _).rng _ hi.2
   have:i=j:=by omega
   subst this
   exact ⟨i,rfl,h1,h2⟩
 · have hp:=((eY t.shp hi).1 hu).1
   refine (hm p).2 ⟨by omega,?_⟩
   rw [← pI t hi hu]
   exact (h _).par i p hi ((hm i).1 his).2 hu
 · obtain ⟨q,h1,h2,h3,h4⟩:=(h _).one i hi ((hm i).1 his).2 hk
   refine ⟨q,h1,h2,(hm q).2 ⟨h1,by rw [pI t h1 h2]; exact h3⟩,fun m hml hu hms=>h4 m hml hu ?_⟩
   have:=((hm m).1 hms).2
   rw [pI t hml hu] at this; exact this
 · refine (hm m).2 ⟨hml,?_⟩
   rw [pI t hml hu]
   exact (h _).both i hi ((hm i).1 his).2 hk m hml hu
/-! ### leaves -/
def tA (l:List Ev.Stat) (i:Int):Bool:=(ETy.get .stat l i.toNat).kind==1||(ETy.get .stat l i.toNat).kind==4
def fQ (l:List Ev.Stat) (s:List Int):List Int:=s.filter fun i=>tA l i
end Go.Proofs.YtcopfgbbjdefbaaGreatDoor
