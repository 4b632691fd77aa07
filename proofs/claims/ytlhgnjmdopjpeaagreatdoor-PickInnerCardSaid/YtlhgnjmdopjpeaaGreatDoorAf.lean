/- The contract of the program's eval.Of. Conditions: values within int64. What histories remember: right, recorded, made (plain). Conditions: a valid chart. What a transition leaves and enters; what is made by choices (plain). Conditions: a valid chart. Contracts: none; plain: sets of places in maps (layer 11). Conditions: none. -/
import Derived.Test.YtlhgnjmdopjpeaaGreatDoorIg
import Derived.Test.YtlhgnjmdopjpeaaGreatDoorAb
import Derived.Test.YtlhgnjmdopjpeaaGreatDoorSq
import Derived.Test.YtlhgnjmdopjpeaaGreatDoorSg
import Derived.Test.YtlhgnjmdopjpeaaGreatDoorVk
import Derived.Test.YtlhgnjmdopjpeaaGreatDoorVm
namespace Go.Proofs.YtlhgnjmdopjpeaaGreatDoor
open Go Go.Ev
set_option maxRecDepth 100000
variable(l:List Cell)(t:Val)(vs:List Var)(t2:Val)(vals:List Val)(act:List Str)(st:List Val)
theorem l7:ETy.get .val ((t::st).reverse) st.length=t:=by
 refine ETy.get_eq (t:=.val) ?_
 rw[bP,List.getElem?_append_right (by simp)];simp
theorem HA:ETy.get .val ((t::t2::st).reverse) st.length=t2:=by
 refine ETy.get_eq (t:=.val) ?_
 rw[bP,List.getElem?_append_left (by simp),bP,List.getElem?_append_right (by simp)];simp
theorem kT:((t::st).reverse).take st.length=st.reverse:=by
 rw[bP,←bU,List.take_left]
theorem D5:((t::t2::st).reverse).take st.length=st.reverse:=by
 rw[bP,eI (by simp),kT]
theorem k9{n:Nat}(h:n≤100):room n 24:=by unfold room maxLen;omega
theorem KQ(c:Cell)(h:0≤aV c):c.op≤23:=by
 unfold aV cV at h
 simp only[cond_eq_ite]at h
 repeat' split at h
 all_goals simp_all
 all_goals omega
theorem PU (Γ:Ctx) (hl:l.length≤32) (hlen:vs.length=vals.length) (hv:∀v∈vals,vOk v=true):∀(n k:Nat) (st:List Val),l.length - k≤n→k≤l.length→st.length≤k→(∀v∈st,vOk v=true)→cv (l.drop k) st.length=true →
 EoJ Γ (Eq2 (rv (fS vs vals act (l.drop k) st)) []) l vs vals act k st.reverse:=by
 intro n
 induction n with
 |zero=>?_
 |succ n ih=>?_
 all_goals
  intro k st hn hk hst hok hright
  refine PT l vs vals act k st.reverse Γ _ ?_
  conv=>zeta
  have next:∀(kd:Val) (st':List Val) (c:Cell),st'.length≤k→((st'.length:Int)+1=st.length+(1 - aV c))→k<l.length→cv (l.drop (k+1)) (st.length+(1 - aV c))=true→vOk kd=true→(∀v∈st',vOk v=true) →
   EoJ Γ (Eq2 (rv (fS vs vals act (l.drop (k+1)) (kd::st'))) []) l vs vals act (IntKind.wrap .i64 ((k:Int)+1)) (st'.reverse++[kd]):=by
   intro kd st' c h1 h2 h3 h4 h5 h6
   rw[aZ (by omega),←bP]
   first
   |(exfalso;omega)
   |exact ih (k+1) (kd::st') (by omega) (by omega) (by simp only[ax];omega) (by intro v hv;rcases aI.1 hv with rfl |hv;exact h5;exact h6 v hv) (by rw[←h2]at h4;simpa using h4)
  refine⟨fun hlt=>?_,fun hge=>?_⟩
  · have hk':k<l.length:=by have:=of_decide_eq_true hlt;omega
    rw[bx (t:=.cell) hk']at hright ⊢
    refine⟨by omega,?_⟩
    generalize ETy.get .cell l k=c at hright ⊢
    have hw:(decide (aV c<0)||decide (aV c>(st.length:Int)))=false:=by
     simp only[cv]at hright
     cases hb:(decide (aV c<0)||decide (aV c>(st.length:Int)))
     ·rfl
     ·rw[hb]at hright;simp at hright
    have hrest:cv (l.drop (k+1)) (st.length+(1 - aV c))=true:=by
     simp only[cv,hw,cond_false]at hright;exact hright
    have hw2:0≤aV c∧aV c≤st.length:=by
     simp only[al,decide_eq_false_iff_not]at hw;omega
    have hroom:room (st.reverse.length+1) 24:=k9 (by simp only[bU];omega)
    have leaf:aV c=0→∀kd:Val,gC vs vals act c=(kd,0)→EoJ Γ (Eq2 (rv (fS vs vals act (c::l.drop (k+1)) st)) []) l vs vals act (IntKind.wrap .i64 ((k:Int)+1)) (st.reverse++[kd]):=by
     intro h0 kd he
     have h7:c.op<7:=by rcases fx c hw2.1 with⟨_,h⟩ |⟨h,_⟩ |⟨h,_⟩ <;> omega
     have hk2:=Jo act h0 hlen hv
     rw[he]at hk2
     have e:fS vs vals act (c::l.drop (k+1)) st=fS vs vals act (l.drop (k+1)) (kd::st):=by
      simp only[fS,je,if_pos h7,he,ne_eq,not_true_eq_false,if_false]
     rw[e]
     exact next kd st c (by omega) (by omega) hk' hrest (hk2 rfl) hok
    have un:7≤c.op→c.op<11→∃(t:Val) (st':List Val),st=t::st'∧aV c=1∧vOk t=true∧(∀v∈st',vOk v=true):=by
     intro g1 g2
     have hw1:aV c=1:=by
      rcases fx c hw2.1 with⟨_,h⟩ |⟨h,_⟩ |⟨_,h⟩ <;> first |exact h |omega
     cases st with
     |nil=>simp at hw2;omega
     |cons t st'=>exact⟨t,st',rfl,hw1,hok t (by simp),fun v hv=>hok v (by simp[hv])⟩
    refine⟨fun h=>⟨fun h'=>Bool.noConfusion h',fun _=>⟨by simpa using hroom,?_⟩⟩,fun n1=>?_⟩
    · have g:c.op=1:=by simpa using h
      exact leaf (by rcases fx c hw2.1 with⟨h,_⟩ |⟨_,h,_⟩ |⟨_,h⟩ <;> omega) _ (by simp[gC,g])
    have m1:c.op≠1:=by simpa using n1
    refine⟨fun h=>⟨fun h'=>Bool.noConfusion h',fun _=>⟨by simpa using hroom,?_⟩⟩,fun n2=>?_⟩
    · have g:c.op=2:=by simpa using h
      exact leaf (by rcases fx c hw2.1 with⟨h,_⟩ |⟨_,h,_⟩ |⟨_,h⟩ <;> omega) _ (by simp[gC,g])
    have m2:c.op≠2:=by simpa using n2
    refine⟨fun h=>⟨fun h'=>Bool.noConfusion h',fun _=>⟨by simpa using hroom,?_⟩⟩,fun n3=>?_⟩
    · have g:c.op=3:=by simpa using h
      exact leaf (by rcases fx c hw2.1 with⟨h,_⟩ |⟨_,h,_⟩ |⟨_,h⟩ <;> omega) _ (by simp[gC,g])
    have m3:c.op≠3:=by simpa using n3
    refine⟨fun h=>⟨fun h'=>Bool.noConfusion h',fun _=>⟨by simpa using hroom,?_⟩⟩,fun n4=>?_⟩
    · have g:c.op=4:=by simpa using h
      exact leaf (by rcases fx c hw2.1 with⟨h,_⟩ |⟨_,h,_⟩ |⟨_,h⟩ <;> omega) _ (by simp[gC,g])
    have m4:c.op≠4:=by simpa using n4
    refine⟨fun h=>⟨fun h'=>Bool.noConfusion h',fun _=>⟨by simpa using hroom,?_⟩⟩,fun n6=>?_⟩
    · have g:c.op=6:=by simpa using h
      exact leaf (by rcases fx c hw2.1 with⟨h,_⟩ |⟨_,h,_⟩ |⟨_,h⟩ <;> omega) _ (by simp[gC,g])
    have m6:c.op≠6:=by simpa using n6
    refine⟨fun h=>?_,fun n5=>?_⟩
    · have g:c.op=5:=by simpa using h
      have hw0:aV c=0:=by rcases fx c hw2.1 with⟨h,_⟩ |⟨_,h,_⟩ |⟨_,h⟩ <;> omega
      refine⟨fun h=>⟨congrArg rv (a₁:=(Val.zero,2)) ?_,rfl⟩,fun h=>?_⟩
      · have h':ay (fun v:Var=>v.name==c.name) vs 0<0:=of_decide_eq_true h
        have he:gC vs vals act c=(Val.zero,2):=by simp[gC,g,h']
        simp[fS,je,g,he]
      · have h':¬ay (fun v:Var=>v.name==c.name) vs 0<0:=of_decide_eq_false h
        have he:gC vs vals act c=(ETy.get .val vals (ay (fun v:Var=>v.name==c.name) vs 0).toNat,0):=by simp[gC,g,h']
        refine⟨?_,fun h=>Bool.noConfusion h,fun _=>⟨by simpa using hroom,leaf hw0 _ he⟩⟩
        show 0≤ay (fun v:Var=>v.name==c.name) vs 0∧ay (fun v:Var=>v.name==c.name) vs 0<(vals.length:Int)
        rcases ij (fun v:Var=>v.name==c.name) vs 0 with⟨g1,_⟩ |⟨j,x,g1,g2,_⟩
        · simp only[dd]at g1
          rw[g1]at h';omega
        · simp only[dd,ba]at g1
          have hj:=(List.getElem?_eq_some_iff.1 g2).1
          rw[g1];omega
    have m5:c.op≠5:=by simpa using n5
    refine⟨fun h=>?_,fun n7=>?_⟩
    · have g:c.op=7:=by simpa using h
      obtain⟨t,st',rfl,hw1,ht,hst'⟩:=un (by omega) (by omega)
      have hlen2:(t::st').reverse.length=st'.length+1:=by simp
      have hl2:(t::st').length=st'.length+1:=rfl
      have e1:IntKind.wrap .i64 (((t::st').reverse.length:Int) - 1)=(st'.length:Int):=by
       simp only[bU,ax];rw[cg (by omega) (by omega)];omega
      have g7:¬c.op<7:=by omega
      have g11:c.op<11:=by omega
      have hev:fS vs vals act (c::l.drop (k+1)) (t::st')=if(bI c.op t).2≠0 then(Val.zero,(bI c.op t).2)else fS vs vals act (l.drop (k+1)) ((bI c.op t).1::st'):=by
       simp only[fS,je,if_neg g7,if_pos g11,fL,gF,gh]
       try rfl
      rw[hev,e1]
      simp only[ai]
      rw[l7,kT]
      refine⟨⟨by omega,by omega⟩,by omega,ht,⟨by omega,by omega⟩,fun h=>⟨congrArg rv (a₁:=(Val.zero,(bI c.op t).2)) ?_,rfl⟩,fun h=>⟨k9 (by simp;omega),?_⟩⟩
      · have h':(bI c.op t).2≠0:=by simpa using h
        rw[if_pos h']
      · have h':¬(bI c.op t).2≠0:=by simpa using h
        rw[if_neg h']
        exact next (bI c.op t).1 st' c (by omega) (by omega) hk' hrest (sk ht (by simpa using h)) hst'
    have m7:c.op≠7:=by simpa using n7
    refine⟨fun h=>?_,fun n8=>?_⟩
    · have g:c.op=8:=by simpa using h
      obtain⟨t,st',rfl,hw1,ht,hst'⟩:=un (by omega) (by omega)
      have hlen2:(t::st').reverse.length=st'.length+1:=by simp
      have hl2:(t::st').length=st'.length+1:=rfl
      have e1:IntKind.wrap .i64 (((t::st').reverse.length:Int) - 1)=(st'.length:Int):=by
       simp only[bU,ax];rw[cg (by omega) (by omega)];omega
      have g7:¬c.op<7:=by omega
      have g11:c.op<11:=by omega
      have hev:fS vs vals act (c::l.drop (k+1)) (t::st')=if(bI c.op t).2≠0 then(Val.zero,(bI c.op t).2)else fS vs vals act (l.drop (k+1)) ((bI c.op t).1::st'):=by
       simp only[fS,je,if_neg g7,if_pos g11,fL,gF,gh]
       try rfl
      rw[hev,e1]
      simp only[ai]
      rw[l7,kT]
      refine⟨⟨by omega,by omega⟩,by omega,ht,⟨by omega,by omega⟩,fun h=>⟨congrArg rv (a₁:=(Val.zero,(bI c.op t).2)) ?_,rfl⟩,fun h=>⟨k9 (by simp;omega),?_⟩⟩
      · have h':(bI c.op t).2≠0:=by simpa using h
        rw[if_pos h']
      · have h':¬(bI c.op t).2≠0:=by simpa using h
        rw[if_neg h']
        exact next (bI c.op t).1 st' c (by omega) (by omega) hk' hrest (sk ht (by simpa using h)) hst'
    have m8:c.op≠8:=by simpa using n8
    refine⟨fun h=>?_,fun n9=>?_⟩
    · have g:c.op=9:=by simpa using h
      obtain⟨t,st',rfl,hw1,ht,hst'⟩:=un (by omega) (by omega)
      have hlen2:(t::st').reverse.length=st'.length+1:=by simp
      have hl2:(t::st').length=st'.length+1:=rfl
      have e1:IntKind.wrap .i64 (((t::st').reverse.length:Int) - 1)=(st'.length:Int):=by
       simp only[bU,ax];rw[cg (by omega) (by omega)];omega
      have g7:¬c.op<7:=by omega
      have g11:c.op<11:=by omega
      have hev:fS vs vals act (c::l.drop (k+1)) (t::st')=if(bI c.op t).2≠0 then(Val.zero,(bI c.op t).2)else fS vs vals act (l.drop (k+1)) ((bI c.op t).1::st'):=by
       simp only[fS,je,if_neg g7,if_pos g11,fL,gF,gh]
       try rfl
      rw[hev,e1]
      simp only[ai]
      rw[l7,kT]
      refine⟨⟨by omega,by omega⟩,by omega,ht,⟨by omega,by omega⟩,fun h=>⟨congrArg rv (a₁:=(Val.zero,(bI c.op t).2)) ?_,rfl⟩,fun h=>⟨k9 (by simp;omega),?_⟩⟩
      · have h':(bI c.op t).2≠0:=by simpa using h
        rw[if_pos h']
      · have h':¬(bI c.op t).2≠0:=by simpa using h
        rw[if_neg h']
        exact next (bI c.op t).1 st' c (by omega) (by omega) hk' hrest (sk ht (by simpa using h)) hst'
    have m9:c.op≠9:=by simpa using n9
    refine⟨fun h=>?_,fun n10=>?_⟩
    · have g:c.op=10:=by simpa using h
      obtain⟨t,st',rfl,hw1,ht,hst'⟩:=un (by omega) (by omega)
      have hlen2:(t::st').reverse.length=st'.length+1:=by simp
      have hl2:(t::st').length=st'.length+1:=rfl
      have e1:IntKind.wrap .i64 (((t::st').reverse.length:Int) - 1)=(st'.length:Int):=by
       simp only[bU,ax];rw[cg (by omega) (by omega)];omega
      have g7:¬c.op<7:=by omega
      have g11:c.op<11:=by omega
      have hev:fS vs vals act (c::l.drop (k+1)) (t::st')=if(bI c.op t).2≠0 then(Val.zero,(bI c.op t).2)else fS vs vals act (l.drop (k+1)) ((bI c.op t).1::st'):=by
       simp only[fS,je,if_neg g7,if_pos g11,fL,gF,gh]
       try rfl
      rw[hev,e1]
      simp only[ai]
      rw[l7,kT]
      refine⟨⟨by omega,by omega⟩,by omega,ht,⟨by omega,by omega⟩,fun h=>⟨congrArg rv (a₁:=(Val.zero,(bI c.op t).2)) ?_,rfl⟩,fun h=>⟨k9 (by simp;omega),?_⟩⟩
      · have h':(bI c.op t).2≠0:=by simpa using h
        rw[if_pos h']
      · have h':¬(bI c.op t).2≠0:=by simpa using h
        rw[if_neg h']
        exact next (bI c.op t).1 st' c (by omega) (by omega) hk' hrest (sk ht (by simpa using h)) hst'
    have m10:c.op≠10:=by simpa using n10
    have hop:=fx c hw2.1
    have hop0:c.op≥11∧aV c=2:=by
     rcases hop with⟨h0,_⟩ |⟨_,_,h⟩ |⟨h,h2⟩
     ·rcases vZ c h0 with⟨h,_⟩ |⟨h,_⟩ |h |h |h |h <;> exact absurd h (by assumption)
     ·omega
     ·exact⟨h2,h⟩
    have hw1:=hop0.2
    have hmax:=KQ c hw2.1
    obtain⟨t,t2,st',rfl⟩:∃t t2 st',st=t::t2::st':=by
     cases st with
     |nil=>simp at hw2;omega
     | cons t st'=>cases st' with
       |nil=>simp at hw2;omega
       |cons t2 st'=>exact⟨t,t2,st',rfl⟩
    have ht:=hok t (by simp)
    have ht2:=hok t2 (by simp)
    have hst':∀v∈st',vOk v=true:=fun v hv=>hok v (by simp[hv])
    have hlen2:(t::t2::st').reverse.length=st'.length+2:=by simp
    have hl2:(t::t2::st').length=st'.length+2:=rfl
    have hl3:(t2::st').length=st'.length+1:=rfl
    have e1:IntKind.wrap .i64 (((t::t2::st').reverse.length:Int) - 1)=((t2::st').length:Int):=by
     simp only[bU,ax];rw[cg (by omega) (by omega)];omega
    have e2:IntKind.wrap .i64 (((t::t2::st').reverse.length:Int) - 2)=(st'.length:Int):=by
     simp only[bU,ax];rw[cg (by omega) (by omega)];omega
    have g7:¬c.op<7:=by omega
    have g11:¬c.op<11:=by omega
    have hev:fS vs vals act (c::l.drop (k+1)) (t::t2::st')=if(cP c.op t2 t).2≠0 then(Val.zero,(cP c.op t2 t).2)else fS vs vals act (l.drop (k+1)) ((cP c.op t2 t).1::st'):=by
     simp only[fS,je,if_neg g7,if_neg g11,fL,List.getD_cons_succ,List.getD_cons_zero,List.drop_succ_cons,cA]
     try rfl
    rw[hev,e1,e2]
    simp only[ai]
    rw[l7,HA,D5]
    refine⟨⟨by omega,by omega⟩,by omega,⟨by omega,by omega⟩,by omega,⟨⟨by omega,by omega⟩,ht2,ht⟩,⟨by omega,by omega⟩,fun h=>⟨congrArg rv (a₁:=(Val.zero,(cP c.op t2 t).2)) ?_,rfl⟩,fun h=>⟨k9 (by simp;omega),?_⟩⟩
    · have h':(cP c.op t2 t).2≠0:=by simpa using h
      rw[if_pos h']
    · have h':¬(cP c.op t2 t).2≠0:=by simpa using h
      rw[if_neg h']
      exact next (cP c.op t2 t).1 st' c (by omega) (by omega) hk' hrest (Q5 ht2 (by simpa using h)) hst'
  · have hk':k=l.length:=by have:=of_decide_eq_false hge;omega
    rw[hk',List.drop_length]at hright ⊢
    simp only[cv]at hright
    have hone:st.length=1:=by have h1:(st.length:Int)=1:=(by simpa using hright);omega
    obtain⟨t,rfl⟩:∃t,st=[t]:=List.length_eq_one_iff.1 hone
    exact⟨by simp,by simp,rfl,rfl⟩
theorem Jq(hv:∀v∈vals,i64 v.a=true):ah Tryz.prog 63 [.l .cell l,.l .var vs,.l .val vals,.l .str act] [] (rv (eE l vs vals act)) []:=by
 refine L6 l vs vals act (fun h=>?_) (fun h h'=>?_) (fun h h' Γ=>?_)
 ·simp only[eE,h,if_true];rfl
 · have hw:ny vs vals=true:=h'
   simp only[eE,h,hw,Bool.true_eq_false,if_false,if_true];rfl
 · have hw:ny vs vals=false:=h'
   obtain⟨hlen,hr⟩:=HI hw
   have e:eE l vs vals act=fS vs vals act (l.drop 0) []:=by simp only[eE,h,hw,Bool.true_eq_false,dW,if_false,cA]
   simp only[dH,af]at h
   have h32:l.length≤32:=by have h1:=h.1;simp at h1;omega
   rw[e]
   exact PU l vs vals act Γ h32 hlen (fun v hx=>by simp[vOk,hr v hx,hv v hx]) l.length 0 [] (by omega) (by omega) (by simp) (by simp) (by simpa using h.2)
def Af:Ent:=(63,fun
 |[.c (.pd (.lst .cell l)),.c (.pd (.lst .var vs)),.c (.pd (.lst .val vals)),.c (.pd (.lst .str act))],[]=>some (some (∀v∈vals,i64 v.a=true),.tup [.agg [.pd (.int .i64 (eE l vs vals act).1.kind),.pd (.int .i64 (eE l vs vals act).1.a),.pd (.int .i64 (eE l vs vals act).1.b)],.c (.pd (.int .i64 (eE l vs vals act).2))],[])
 |_,_=>none)
theorem LO:EntOk Tryz.prog Af:=entOk fun vs ck=>by
 unfold Af;dsimp only;split
 ·rename_i l vs vals act;exact entS fun hp=>Jq l vs vals act hp
 ·exact entN
def mB(l:List Ev.Stat)(p:Past):Bool :=
 if(decide (p.state<0)||decide (p.state≥(l.length:Int)) || !bg (ETy.get .stat l p.state.toNat).kind)=true then false
 else if((ETy.get .stat l p.state.toNat).kind==5)=true then(p.set.length==1)&&inB (bB l (upM l p.state.toNat).toNat) (ETy.get .int p.set 0) && !bg (ETy.get .stat l (ETy.get .int p.set 0).toNat).kind
 else decide (0<p.set.length)&&aR l (dnM l p.set (upM l p.state.toNat).toNat)==p.set
def Rk(q:Option Int)(n:Int):Bool:=match q with
 |none=>true
 |some k=>decide (k<n)
def ir(f:Past→Bool)(q:Option Int)(l:List Past):Bool:=match l with
 |[]=>true
 |p::r=>Rk q p.state&&f p&&ir f (some p.state) r
variable(ps:List Past){l:List Ev.Stat}
def ON(i:Int):Option Past:=ps.find? fun p=>p.state==i
def xf(l:List Ev.Stat)(s:List Int)(i:Nat):List Int:=s.filter fun k=>(ETy.get .stat l i).kind==5&&bq l k.toNat==bq l i||(ETy.get .stat l i).kind==6&&(inB (aR l s) k&&eO l (bq l i) k.toNat)
def rq(l:List Ev.Stat)(s left:List Int)(ps:List Past)(i:Nat):Option Past :=
 if bg (ETy.get .stat l i).kind=true then(if(inB left (bq l i)&&inB s (bq l i))=true then some ⟨(i:Int),xf l s i⟩else ON ps (i:Int))else none
def Sa(l:List Ev.Stat)(s left:List Int)(ps:List Past):List Past:=(List.range l.length).filterMap (rq l s left ps)
theorem EL(t:Tre l){i:Nat}(hi:i<l.length)(hp:bg (knd l i)=true):∃u:Nat,upM l i=(u:Int)∧u<i∧u<l.length∧knd l u=2:=by
 have hd:dep l i≠0:=fun h0=>by
  have:=t.reg hi h0
  rw[this]at hp;cases hp
 obtain⟨u,hu⟩:∃u:Nat,upM l i=(u:Int):=by
  rcases jo l i with⟨_,h⟩ |⟨u,hu,_⟩
  · exfalso
    have h1:=t.shp.lo i hi
    have h0:=t.shp.d0
    rcases Nat.eq_zero_or_pos i with rfl |hp
    ·exact hd h0
    ·have:=h 0 hp;omega
  ·exact⟨u,hu⟩
 have hk:=(dY t.shp hi).1 hu
 refine⟨u,hu,hk.1,by omega,?_⟩
 rcases t.both hi hu with h |⟨_,h⟩
 ·exact h
 · exfalso
   have hp':(knd l i==5||knd l i==6)=true:=hp
   rw[aN]at hp'
   rcases hp' with h2 |h2
   ·have:=eq_of_beq h2;omega
   ·have:=eq_of_beq h2;omega
theorem sZ(f:Past→Bool)(q:Option Int)(p:Past)(r:List Past):ir f q (p::r)=(Rk q p.state&&f p&&ir f (some p.state) r):=rfl
theorem yo{f:Past→Bool}:∀{ps:List Past} {q:Option Int},ps.Pairwise (fun a b=>a.state<b.state)→(∀n,q=some n→∀p∈ps,n<p.state)→(∀p∈ps,f p=true)→ir f q ps=true
 |[],_,_,_,_=>rfl
 | p::r,q,h1,h2,h3=>by
   have hp:=cf.1 h1
   rw[sZ,h3 p az,yo hp.2 (fun n e x hx=>by cases e;exact hp.1 x hx) fun x hx=>h3 x (aD _ hx),dF,dF]
   cases q with
   |none=>rfl
   |some n=>exact decide_eq_true (h2 n rfl p az)
theorem yp{f:Past→Bool}:∀{ps:List Past} {q:Option Int},ir f q ps=true→ps.Pairwise (fun a b=>a.state<b.state)∧(∀n,q=some n→∀p∈ps,n<p.state)∧∀p∈ps,f p=true
 |[],q,_=>⟨.nil,fun _ _ _ h=>(by cases h),fun _ h=>(by cases h)⟩
 | p :: r,q,h=>by
   rw[sZ,af,af]at h
   obtain⟨h1,h2,h3⟩:=yp h.2
   have hp:∀x∈r,p.state<x.state:=h2 _ rfl
   refine⟨cf.2 ⟨hp,h1⟩,fun n e x hx=>?_,fun x hx=>?_⟩
   · subst e
     have hn:n<p.state:=of_decide_eq_true h.1.1
     rcases aI.1 hx with rfl |hx
     ·exact hn
     ·have:=hp x hx;omega
   · rcases aI.1 hx with rfl |hx
     ·exact h.1.2
     ·exact h3 x hx
theorem Ma{ps:List Past}{i:Int}{p:Past}(h:ON ps i=some p):p∈ps∧p.state=i:=⟨List.mem_of_find?_eq_some h,eq_of_beq (List.find?_some (p:=fun p:Past=>p.state==i) h)⟩
theorem DT(t:Tre l){s:List Int}(h:Lgl l s){i:Nat}(hi:i<l.length)(hk:knd l i=5)(hus:bq l i∈s):∃q:Nat,xf l s i=[(q:Int)]∧q<l.length∧upM l q=upM l i∧bg (knd l q)=false:=by
 obtain⟨u,hu,hui,hul,hk2⟩:=EL t hi (by rw[hk];rfl)
 rw[ft t.shp hi,hu]at hus
 obtain⟨q,h1,h2,h3,h4⟩:=h.one u hul hus hk2
 obtain⟨q',e,_,hq⟩:=h.rng _ h3
 have:q=q':=by omega
 subst this
 refine⟨q,?_,h1,by rw[h2,hu],hq⟩
 have hk':(ETy.get .stat l i).kind=5:=hk
 unfold xf
 rw[ft t.shp hi,hu,hk']
 refine nY (h.inc.filter _) (fX _ _) fun y=>?_
 rw[aH,aQ]
 constructor
 · rintro⟨hy,hb⟩
   obtain⟨m,rfl,hm,_⟩:=h.rng y hy
   rw[ai,ft t.shp hm]at hb
   have hb':upM l m=(u:Int):=by simpa using hb
   rw[h4 m hm hb' hy]
 · rintro rfl
   refine⟨h3,?_⟩
   rw[ai,ft t.shp h1,h2];simp
theorem LI(t:Tre l){s:List Int}(h:Lgl l s){i u:Nat}(hi:i<l.length)(hk:knd l i=6)(hu:upM l i=(u:Int))(x:Int):x∈xf l s i↔x∈s∧gJ l x=true∧(u:Int)<x∧x<((endM l u:Nat):Int):=by
 have hk':(ETy.get .stat l i).kind=6:=hk
 unfold xf
 rw[ft t.shp hi,hu,hk',aH]
 constructor
 · rintro⟨hx,hb⟩
   obtain⟨m,rfl,hm,_⟩:=h.rng x hx
   rw[ai,nv t.shp hm]at hb
   have hb':(inB (aR l s) (m:Int)&&(decide (u<m)&&decide (m<endM l u)))=true:=by simpa using hb
   rw[af,af,cu]at hb'
   have h1:=(aH.1 hb'.1).2
   have h2:=of_decide_eq_true hb'.2.1
   have h3:=of_decide_eq_true hb'.2.2
   exact⟨hx,h1,by omega,by omega⟩
 · rintro⟨hx,hb,h1,h2⟩
   obtain⟨m,rfl,hm,_⟩:=h.rng x hx
   have hin:inB (aR l s) (m:Int)=true:=(cu _ _).2 (aH.2 ⟨hx,hb⟩)
   refine⟨hx,?_⟩
   rw[ai,nv t.shp hm,decide_eq_true (show u<m by omega),decide_eq_true (show m<endM l u by omega),hin]
   rfl
theorem QM (t:Tre l) {s left:List Int} (h:Lgl l s) {ps:List Past} (hps:ir (mB l) none ps=true) {i:Nat} (hi:i<l.length) {p:Past} (hp:rq l s left ps i=some p):p.state=(i:Int)∧mB l p=true:=by
 unfold rq at hp
 by_cases hpm:bg (ETy.get .stat l i).kind=true
 · rw [if_pos hpm]at hp
   by_cases hb:(inB left (bq l i)&&inB s (bq l i))=true
   · rw [if_pos hb]at hp
     simp only[aa]at hp
     subst hp
     refine⟨rfl,?_⟩
     rw[af]at hb
     have hus:=(cu _ _).1 hb.2
     obtain⟨u,hu,hui,hul,hk2⟩:=EL t hi hpm
     unfold mB
     simp only[ai]
     rw[hpm,if_neg (by rw[decide_eq_false (by omega),decide_eq_false (by omega)];decide),hu,ai]
     by_cases h5:((ETy.get .stat l i).kind==5)=true
     · rw[if_pos h5]
       obtain⟨q,e,hq,hqu,hqp⟩:=DT t h hi (eq_of_beq h5) hus
       rw[e]
       have hqk:inB (bB l u) (q:Int)=true:=(cu _ _).2 ((gY t.shp hul _).2 ⟨q,rfl,hq,by rw[hqu,hu]⟩)
       have e2:ETy.get .int [(q:Int)] 0=(q:Int):=rfl
       rw[e2,hqk,ai,show bg (ETy.get .stat l q).kind=false from hqp];rfl
     · rw[if_neg h5]
       have h6:knd l i=6:=by
        have hpm':((ETy.get .stat l i).kind==5||(ETy.get .stat l i).kind==6)=true:=hpm
        rw[aN]at hpm'
        rcases hpm' with h |h
        ·exact absurd h h5
        ·exact eq_of_beq h
       rw[ft t.shp hi,hu]at hus
       have hd:=Fy t h hul hus (.inl hk2) (ts:=xf l s i) (h.inc.filter _) (LI t h hi h6 hu)
       rw[hd.1,decide_eq_true hd.2];simp
   · rw[if_neg hb]at hp
     obtain⟨h1,h2⟩:=Ma hp
     exact⟨h2,(yp hps).2.2 p h1⟩
 ·rw[if_neg hpm]at hp;cases hp
theorem Kh (t:Tre l) {s left:List Int} (h:Lgl l s) {ps:List Past} (hps:ir (mB l) none ps=true):ir (mB l) none (Sa l s left ps)=true:=by
 have key : ∀n,n≤l.length→(((List.range n).filterMap (rq l s left ps)).Pairwise fun a b=>a.state<b.state)∧∀p∈(List.range n).filterMap (rq l s left ps),p.state<(n:Int)∧mB l p=true:=by
  intro n
  induction n with
  |zero=>intro _;exact⟨.nil,fun p hp=>by cases hp⟩
  | succ n ih =>
    intro hn
    obtain⟨i1,i2⟩:=ih (by omega)
    rw[List.range_succ,List.filterMap_append]
    cases hr:rq l s left ps n with
    | none =>
      have e:[n].filterMap (rq l s left ps)=[]:=by simp[hr]
      rw[e,aO]
      exact⟨i1,fun p hp=>by have:=i2 p hp;exact⟨by omega,this.2⟩⟩
    | some p =>
      have e:[n].filterMap (rq l s left ps)=[p]:=by simp[hr]
      obtain⟨h1,h2⟩:=QM t h hps (by omega) hr
      rw[e]
      refine⟨fp.2 ⟨i1,fX _ _,fun a ha b hb=>?_⟩,fun x hx=>?_⟩
      · rw[aQ]at hb
        subst hb
        have:=(i2 a ha).1;omega
      · rcases bK.1 hx with hx |hx
        ·have:=i2 x hx;exact⟨by omega,this.2⟩
        · rw[aQ]at hx
          subst hx
          exact⟨by omega,h2⟩
 obtain⟨h1,h2⟩:=key l.length (av _)
 exact yo h1 (fun _ e=>by cases e) fun p hp=>(h2 p hp).2
variable(l:List Ev.Stat)(s:List Int)
def St(d:Int):List Int:=s.filter fun k=>decide ((ETy.get .stat l k.toNat).depth≥d)
def GN(l:List Ev.Stat):Nat→List (List Int)→List Past→List Past
 |_,[],out=>out
 |i,p::r,out=>if 5<i then out else GN l (i+1) r (Sa l (dK l (chM l p)) (St l (dK l (chM l p)) ((i % 3:Nat):Int)) out)
def mdM(ps:List (List Int)):List Past:=GN l 0 ps []
def eM(tr:Tran)(s:List Int):List Int:=if(tr.dst==[])=true then[]else s.filter fun k=>eO l (dh l tr.src (aF l tr.dst)) k.toNat
theorem ED{l:List Ev.Stat}(t:Tre l):∀(ps:List (List Int)) (i:Nat) (out:List Past),(∀p∈ps,∀b∈p,0≤b∧b≤255)→ir (mB l) none out=true→ir (mB l) none (GN l i ps out)=true
 |[],_,_,_,h=>h
 | p :: r,i,out,hp,h=>by
   rw[GN]
   by_cases hi:5<i
   ·rw[if_pos hi];exact h
   · rw[if_neg hi]
     exact ED t r _ _ (fun q hq=>hp q (aD _ hq)) (Kh t (mD t (mj t (hp p az))) h)
theorem fD{l:List Ev.Stat}(t:Tre l){ps:List (List Int)}(hp:∀p∈ps,∀b∈p,0≤b∧b≤255):ir (mB l) none (mdM l ps)=true:=ED t ps 0 [] hp rfl
/-! ### transitions -/
theorem IX{l:List Ev.Stat}(t:Tre l)(j:Int):∀(n:Nat) (k:Int),k<(l.length:Int)→0≤iT l j n k→∃d:Nat,iT l j n k=(d:Int)∧d<l.length∧knd l d=2∧(d:Int)<j∧j<((endM l d:Nat):Int)∧(k=(d:Int)∨((d:Int)<k∧k<((endM l d:Nat):Int)))
 |0,k,_,h=>by rw[iT]at h;omega
 | n + 1,k,hk,h=>by
   rw[iT]at h ⊢
   by_cases h0:k<0
   ·rw[if_pos h0]at h;omega
   · rw [if_neg h0]at h ⊢
     obtain⟨q,rfl⟩:=aA (show 0≤k by omega)
     have hq:q<l.length:=by omega
     by_cases hb:((ETy.get .stat l (q:Int).toNat).kind==2&&decide (j>(q:Int))&&decide (j<((endM l (q:Int).toNat:Nat):Int)))=true
     · rw[if_pos hb]
       rw[af,af,decide_eq_true_eq,decide_eq_true_eq,ai]at hb
       exact⟨q,rfl,hq,eq_of_beq hb.1.1,by omega,hb.2,.inl rfl⟩
     · rw [if_neg hb]at h ⊢
       rw[ai]at h ⊢
       have hup:=mM l (ETy.get .stat l q).depth q
       rcases jo l q with⟨e,_⟩ |⟨p,e,hpq,_⟩
       · rw[e]at h
         cases n with
         |zero=>rw[iT]at h;omega
         |succ n=>rw[iT,if_pos (by omega)]at h;omega
       · rw[e]at h ⊢
         obtain⟨d,h1,h2,h3,h4,h5,h6⟩:=IX t j n (p:Int) (by omega) h
         refine⟨d,h1,h2,h3,h4,h5,.inr ?_⟩
         have hk2:=(dY t.shp hq).1 e
         rcases h6 with h6 |h6
         · have:p=d:=by omega
           subst this;omega
         · have:=jd l h2 (q:=p) (by omega) (by omega)
           omega
theorem EU{c:Chart}(v:Valid c){i:Nat}(hi:i<c.trans.length)(hd:(ETy.get .tran c.trans i).dst≠[]):∃tg d:Nat,aF c.states (ETy.get .tran c.trans i).dst=(tg:Int)∧tg<c.states.length∧dh c.states (ETy.get .tran c.trans i).src (aF c.states (ETy.get .tran c.trans i).dst)=(d:Int)∧d<c.states.length∧knd c.states d=2∧d<tg∧tg<endM c.states d ∧
 ((ETy.get .tran c.trans i).src=(d:Int)∨((d:Int)<(ETy.get .tran c.trans i).src∧(ETy.get .tran c.trans i).src<((endM c.states d:Nat):Int))):=by
 have t:=v.tre
 have hz:=(mE c i _ _).1 (v.trans i hi)
 have h0:=hz.2.2.2
 have hto:=Oc v hi hd
 unfold fI at h0
 rw[if_pos (by simpa using hd),if_neg (by rw[decide_eq_false (by omega)];decide)]at h0
 have hdm:0≤dh c.states (ETy.get .tran c.trans i).src (aF c.states (ETy.get .tran c.trans i).dst):=by
  by_cases h:decide (dh c.states (ETy.get .tran c.trans i).src (aF c.states (ETy.get .tran c.trans i).dst)<0)=true
  ·rw[if_pos h]at h0;exact absurd h0 (by decide)
  ·have:=of_decide_eq_false (cG _ ▸ h);omega
 rcases mA c.states (ETy.get .tran c.trans i).dst with⟨e,_⟩ |⟨tg,e,hl,_⟩
 ·omega
 · rw [e]at hdm ⊢
   unfold dh at hdm ⊢
   by_cases hh:(cw c.states (ETy.get .tran c.trans i).src&&cw c.states (tg:Int))=true
   · rw[if_pos hh]at hdm ⊢
     have hs:(ETy.get .tran c.trans i).src<(c.states.length:Int):=by
      have hb:=hz.1
      unfold gA at hb
      simp only[al,decide_eq_false_iff_not]at hb
      omega
     obtain⟨d,h1,h2,h3,h4,h5,h6⟩:=IX t _ _ _ hs hdm
     exact⟨tg,d,rfl,hl,h1,h2,h3,by omega,by omega,h6⟩
   ·rw[if_neg hh]at hdm;omega
def cY(ks:List Int):List (Int×Nat):=ks.zipIdx
def pk(es:List (Int×Nat))(gone:List Int):List (Int×Nat):=gone.foldl kV es
theorem lS(ks:List Int):(cY ks).map (·.1)=ks:=by
 unfold cY
 exact List.zipIdx_map_fst 0 ks
theorem nQ(es:List (Int×Nat))(n:Int):ji es n=inB (es.map (·.1)) n:=by
 rw[aT,B4,cu]
theorem tu{ks:List Int}{n:Int}(h:n ∉ ks):jD (cY ks) ks.length n=cY (ks++[n])∧ky (cY ks) ks.length n=(ks++[n]).length:=by
 have hb:ji (cY ks) n=false:=by
  cases hb:ji (cY ks) n
  ·rfl
  · rw[nQ,lS]at hb
    exact absurd ((cu _ _).1 hb) h
 unfold jD ky
 rw[hb]
 refine⟨?_,by simp⟩
 show cY ks++[(n,ks.length)]=_
 unfold cY
 rw[List.zipIdx_append]
 simp
theorem BT:∀(ks:List Int),ks.reverse.Nodup→MapOk (cY ks.reverse) ks.reverse.length
 |[],_=>MapOk.nil
 | n::ks,h=>by
   rw[bP]at h ⊢
   obtain⟨h1,_,h2⟩:=eV.1 h
   have hn:n ∉ ks.reverse:=fun hm=>h2 n hm n (aQ.2 rfl) rfl
   have:=(BT ks h1).add n
   rw[(tu hn).1,(tu hn).2]at this
   exact this
theorem PS{ks:List Int}(h:ks.Nodup):MapOk (cY ks) ks.length:=by
 have:=BT ks.reverse (by rw[List.reverse_reverse];exact h)
 rw[List.reverse_reverse]at this
 exact this
theorem xM{clk:Nat}:∀{gone:List Int} {es:List (Int×Nat)},MapOk es clk→MapOk (pk es gone) clk∧(pk es gone).map (·.1)=(es.map (·.1)).filter fun k=>!inB gone k
 | [],es,h=>⟨h,by
   show es.map (·.1)=_
   symm
   rw[eD]
   intro k _;rfl⟩
 | g::gone,es,h=>by
   obtain⟨h1,h2⟩:=xM (gone:=gone) (h.del g)
   refine⟨h1,?_⟩
   show(pk (kV es g) gone).map (·.1)=_
   rw[h2,IU g h.keys,List.filter_filter]
   refine gr fun k _=>?_
   rw[aT]
   simp only[af,aK,←cG,cu,aI,not_or,beq_iff_eq]
   constructor
   ·rintro⟨a,b⟩;exact⟨fun e=>b e.symm,a⟩
   ·rintro⟨a,b⟩;exact⟨b,fun e=>a e.symm⟩
theorem JE{lv:Int→List Int}{wi:Int→Int→Bool}{K gone:List Int}{t:Int}{stays:Bool}(hg:∀k,k∈gone↔k∈K∧(cJ (lv t) (lv k)&&wi k t)=true)(hs:stays = !K.any fun k=>cJ (lv t) (lv k) && !wi k t) :
 (if stays=true then(K.filter fun k=>!inB gone k)++[t]else K)=fC lv wi K t:=by
 unfold fC
 cases hb:K.any fun k=>cJ (lv t) (lv k) && !wi k t
 · rw [hb]at hs
   rw[hs,if_pos (by rfl),if_neg (by decide)]
   congr 1
   refine gr fun k hk=>?_
   congr 1
   rw[aT,cu,hg]
   constructor
   ·rintro⟨_,h⟩;rw[af]at h;exact h.1
   · intro h
     refine⟨hk,?_⟩
     rw[h,bb]
     cases hw:wi k t
     · exfalso
       have:=eU.1 hb k hk
       rw[h,hw]at this
       exact this rfl
     ·rfl
 · rw[hb]at hs
   rw[hs,if_neg (by decide),if_pos rfl]
theorem k6{α β:Type}{f:α→β}{l:List α}(h:(l.map f).Nodup):l.Nodup:=(List.pairwise_map.1 h).imp fun h e=>h (congrArg f e)
theorem k0{α:Type}[DecidableEq α]:∀{a b:List α},a.Nodup→(∀x∈a,x∈b)→a.length≤b.length
 |[],_,_,_=>aS _
 | x::a,b,hn,h=>by
   rw[dv]at hn
   have hx:=h x az
   have:=k0 (a:=a) (b:=b.erase x) hn.2 fun y hy=>(List.mem_erase_of_ne (fun e:y=x=>hn.1 (by rw[←e];exact hy))).2 (h y (aD _ hy))
   rw[List.length_erase_of_mem hx]at this
   have:=List.length_pos_of_mem hx
   rw[ax];omega
theorem ng{α β:Type}{f:α→β}:∀{l:List α},(l.map f).Nodup→∀{a b:α},a∈l→b∈l→f a=f b→a=b
 |[],_,_,_,h,_,_=>by cases h
 | x::l,hn,a,b,ha,hb,e=>by
   rw[aq,dv]at hn
   rcases aI.1 ha with ea |ga <;> rcases aI.1 hb with eb |gb
   ·rw[ea,eb]
   ·exact absurd (show f x∈l.map f from aM.2 ⟨b,gb,by rw[←e,ea]⟩) hn.1
   ·exact absurd (show f x∈l.map f from aM.2 ⟨a,ga,by rw[e,eb]⟩) hn.1
   ·exact ng hn.2 ga gb e
theorem N1{a:List Int}(hn:a.Nodup):(dC a).Pairwise (· < ·):=by
 have hp:(dC a).Perm a:=fG _ _
 have hs:(dC a).Pairwise (fun x y=>decide (x≤y)=true):=fW (fun x y z h1 h2=>by simp at *;omega) (fun x y=>by simp;omega) a
 refine(List.Pairwise.and hs (hp.nodup_iff.2 hn)).imp fun⟨h1,h2⟩=>?_
 have h1':=of_decide_eq_true h1
 have h2':_≠_:=h2
 omega
theorem Dn{l:List Ev.Stat}{s:List Int}{ts:List Tran}{g:Tran→Bool}{ev:Str}(S:Shp l)(h:Lgl l s){out:List Int}(hp:out.Perm (mr l s ts (eG g ev s ts))):dC out=cC l s ts (eG g ev s ts) :=
 yx (hp.nodup_iff.2 Gx) (kN _ _) fun y=>by rw[kr S h];exact hp.mem_iff
end Go.Proofs.YtlhgnjmdopjpeaaGreatDoor
