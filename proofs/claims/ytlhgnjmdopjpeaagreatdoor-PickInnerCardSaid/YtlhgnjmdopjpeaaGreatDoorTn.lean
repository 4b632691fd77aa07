/- The contract of the program's kinds.Of. Conditions: none. Plain laws: lists of cells as trees; the kinds of trees. Conditions: none. -/
import Derived.Test.YtlhgnjmdopjpeaaGreatDoorFb
namespace Go.Proofs.YtlhgnjmdopjpeaaGreatDoor
open Go Go.Ev
set_option maxRecDepth 100000
theorem fx(c:Cell)(h:aV c≥0):(aV c=0∧c.op<7)∨(aV c=1∧7≤c.op∧c.op<11)∨(aV c=2∧11≤c.op):=by
 revert h
 unfold aV cV
 simp only[cond_eq_ite,beq_iff_eq,aN,decide_eq_true_eq,bne_iff_ne]
 intro h
 (repeat' split at h) <;> (repeat' split) <;> omega
variable(t:Int)(l:List Cell)(t2:Int)(vs:List Var)(ss:List Str)(st:List Int)
theorem B1:ETy.get .int ((t::st).reverse) st.length=t:=by
 refine ETy.get_eq (t:=.int) ?_
 rw[bP,List.getElem?_append_right (by simp)];simp
theorem Jz:ETy.get .int ((t::t2::st).reverse) st.length=t2:=by
 refine ETy.get_eq (t:=.int) ?_
 rw[bP,List.getElem?_append_left (by simp),bP,List.getElem?_append_right (by simp)];simp
theorem yA:((t::st).reverse).take st.length=st.reverse:=by
 rw[bP,←bU,List.take_left]
theorem Hs:((t::t2::st).reverse).take st.length=st.reverse:=by
 rw[bP,eI (by simp),yA]
theorem tT{n:Nat}(h:n≤100):room n 8:=by unfold room maxLen;omega
def Fm:Cfg:=⟨aU,[oF,Ah,Ai]⟩
theorem Bd:ag Tryz.prog Fm.tab:=(ag.cons qp (ag.cons LQ (ag.cons LR ag.nil)))
abbrev zFc1:List PI:=[.code [1,1,1,0,1,0,0],.inLoop [1,1,1,0,1,0,0],.inBlock 0,.code [1,1,1,1]]
theorem Qn (Γ:Ctx) (hl:l.length≤32):∀(n k:Nat) (st:List Int),l.length - k≤n→k≤l.length→st.length≤k→cv (l.drop k) st.length=true →
 J Tryz.prog 215 (ar Tryz.f215) Γ (Eq2 (cL (gR vs ss (l.drop k) st)) []) zFc1 ({n:=86,fr:=[(1,.p (.lst .var vs)),(2,.p (.lst .str ss)),(6,.i 0),(7,.i 0),(8,.x (.c (.own 0))),(17,.p (.lst .cell l)),(18,.i l.length),(19,.i k)],ck:=[.own 3 .int st.reverse]}):=by
 intro n
 induction n with
 |zero=>?_
 |succ n ih=>?_
 all_goals
  intro k st hn hk hst hright
  refine jg Bd Tryz.func215 (let x1:=(↑((List.reverse st).length):Int);let x2:List (Nat×SV):=[(1,.p (.lst .var vs)),(2,.p (.lst .str ss)),(6,.i 0),(7,.i 0),(8,.x (.c (.own 0))),(17,.p (.lst .cell l)),(18,.i l.length),(19,.i (IntKind.wrap .i64 ((k:Int)+1)))];let x12:=(IntKind.wrap .i64 (x1 - 2));let x9:=(Cell.op (ETy.get .cell l k));let x16:=(ETy.get .int (List.reverse st) (x12.toNat));let x10:=(IntKind.wrap .i64 (x1 - 1));let x7:=(ETy.get .int (List.reverse st) (x10.toNat));let x3:=(List.take (x12.toNat) (List.reverse st)++[dq x9 x16 x7]);let x4:=(List.take (x10.toNat) (List.reverse st)++[dq x9 x7 (0:Int)]);let x5:List PI:=zFc1;let x6:=(b6 (ETy.get .cell l k) vs ss);let x8:Tree:=(.need (room ((List.reverse st++[x6.1]).length) 8) (.stop x5 {n:=86,fr:=x2,ck:=[.own 3 .int (List.reverse st++[x6.1])]}));let x11:Tree:=(.need (room (x4.length) 8) (.stop x5 {n:=86,fr:=x2,ck:=[.own 3 .int x4]}));let x13:Tree:=(.need (room (x3.length) 8) (.stop x5 {n:=86,fr:=x2,ck:=[.own 3 .int x3]}));let x14:=((0:Int)≤IntKind.wrap .i64 (x1 - 1)∧IntKind.wrap .i64 (x1 - 1)<x1);let x15:Tree:=(.ret (.tup [.i 0,.i 8]) []);let x17:=(x10.toNat<(List.reverse st).length);.ite (decide ((k:Int)<(l.length:Int))) (.need (inRg k l.length) (.ite (decide (Cell.op (ETy.get .cell l k)<(7:Int))) (.ite (x6.2==(0:Int)&&x6.1==(0:Int)) (.ite true x15 x8) (.ite (x6.2 != (0:Int)) (.ret (.tup [.i 0,.i (x6.2)]) []) x8)) (.ite (decide (Cell.op (ETy.get .cell l k)<(11:Int))) (.need x14 (.need x17 (.need ((0:Int)≤IntKind.wrap .i64 (x1 - 1)∧IntKind.wrap .i64 (x1 - 1)≤x1) (.ite (true&&dq x9 x7 (0:Int)==0) (.ite true x15 x11) (.ite false (.ret (.tup [.i 0,.i 0]) []) x11))))) (.need ((0:Int)≤IntKind.wrap .i64 (x1 - 2)∧IntKind.wrap .i64 (x1 - 2)<x1) (.need (x12.toNat<(List.reverse st).length) (.need x14 (.need x17 (.need ((0:Int)≤IntKind.wrap .i64 (x1 - 2)∧IntKind.wrap .i64 (x1 - 2)≤x1) (.ite (true&&dq x9 x16 x7==(0:Int)) (.ite true x15 x13) (.ite false (.ret (.tup [.i 0,.i 0]) []) x13)))))))))) (.need ((0:Int)≤0∧(0:Int)<x1) (.need (0<(List.reverse st).length) (.ret (.tup [.i (ETy.get .int (List.reverse st) 0),.i 0]) [])))) ?_
  conv=>zeta
  have next:∀(kd:Int) (st':List Int) (c:Cell),st'.length≤k→((st'.length:Int)+1=st.length+(1 - aV c))→k<l.length→cv (l.drop (k+1)) (st.length+(1 - aV c))=true →
   J Tryz.prog 215 (ar Tryz.f215) Γ (Eq2 (cL (gR vs ss (l.drop (k+1)) (kd::st'))) []) zFc1 ({n:=86,fr:=[(1,.p (.lst .var vs)),(2,.p (.lst .str ss)),(6,.i 0),(7,.i 0),(8,.x (.c (.own 0))),(17,.p (.lst .cell l)),(18,.i l.length),(19,.i (IntKind.wrap .i64 ((k:Int)+1)))],ck:=[.own 3 .int (st'.reverse++[kd])]}):=by
   intro kd st' c h1 h2 h3 h4
   rw[aZ (by omega),←bP]
   first
   |(exfalso;omega)
   |exact ih (k+1) (kd::st') (by omega) (by omega) (by simp only[ax];omega) (by rw[←h2]at h4;simpa using h4)
  refine⟨fun hlt=>?_,fun hge=>?_⟩
  · have hk':k<l.length:=by have:=of_decide_eq_true hlt;omega
    rw[bx (t:=.cell) hk']at hright ⊢
    refine⟨by omega,?_⟩
    generalize ETy.get .cell l k=c at hright ⊢
    have hw:(decide (aV c<0)||decide (aV c>(st.length:Int)))=false:=by
     simp only[cv]at hright
     cases hb:(decide (aV c<0)||decide (aV c>(st.length:Int)))
     ·rfl
     ·rw[hb]at hright;simp at hright
    have hrest:cv (l.drop (k+1)) (st.length+(1 - aV c))=true:=by
     simp only[cv,hw,cond_false]at hright;exact hright
    have hw2:0≤aV c∧aV c≤st.length:=by
     simp only[al,decide_eq_false_iff_not]at hw;omega
    refine⟨fun h7=>?_,fun h7=>⟨fun h11=>?_,fun h11=>?_⟩⟩
    · -- a leaf
      have hw0:aV c=0:=by rcases fx c hw2.1 with⟨h,_⟩ |⟨_,h,_⟩ |⟨_,h⟩ <;> first |exact h |(have:=of_decide_eq_true h7;omega)
      have hstep:gZ vs ss c st=((b6 c vs ss).1,(b6 c vs ss).2,st):=by simp only[gZ,h7,cond_true]
      simp only[gR,hstep]
      show Tree.J _ _ _ _ _ (Tree.ite ((b6 c vs ss).2==0&&(b6 c vs ss).1==0) _ _)
      generalize (b6 c vs ss).1=kd
      generalize (b6 c vs ss).2=e
      refine⟨fun h=>⟨fun _=>⟨by simp only[h];rfl,rfl⟩,fun h2=>Bool.noConfusion h2⟩,fun h=>⟨fun h2=>⟨by simp only[h,cond_false,h2];rfl,rfl⟩,fun h2=>⟨tT (by simp;omega),?_⟩⟩⟩
      simp only[h,h2,cond_false]
      exact next kd st c (by omega) (by omega) hk' hrest
    · -- one operand
      have hw1:aV c=1:=by
       have g1:=of_decide_eq_false h7
       have g2:=of_decide_eq_true h11
       rcases fx c hw2.1 with⟨_,h⟩ |⟨h,_⟩ |⟨_,h⟩ <;> first |exact h |omega
      obtain⟨t,st',rfl⟩:∃t st',st=t::st':=by
       cases st with
       |nil=>simp at hw2;omega
       |cons t st'=>exact⟨t,st',rfl⟩
      have hlen:(t::st').reverse.length=st'.length+1:=by simp
      have hl2:(t::st').length=st'.length+1:=rfl
      have e1:IntKind.wrap .i64 (((t::st').reverse.length:Int) - 1)=(st'.length:Int):=by
       simp only[bU,ax];rw[cg (by omega) (by omega)];omega
      have hstep:gZ vs ss c (t::st')=(dq c.op t 0,0,st'):=by simp[gZ,h7,h11]
      simp only[gR,hstep]
      rw[e1]
      simp only[ai]
      rw[B1,yA]
      refine⟨⟨by omega,by omega⟩,by omega,⟨by omega,by omega⟩,fun h=>⟨fun _=>⟨?_,rfl⟩,fun h2=>Bool.noConfusion h2⟩,fun h=>⟨fun h2=>Bool.noConfusion h2,fun _=>⟨tT (by simp;omega),?_⟩⟩⟩
      · have h':((0:Int)==0&&dq c.op t 0==0)=true:=h
        simp only[h'];rfl
      · have h':((0:Int)==0&&dq c.op t 0==0)=false:=h
        simp only[h',cond_false]
        exact next (dq c.op t 0) st' c (by omega) (by omega) hk' hrest
    · -- two operands
      have hw1:aV c=2:=by
       have g1:=of_decide_eq_false h7
       have g2:=of_decide_eq_false h11
       rcases fx c hw2.1 with⟨_,h⟩ |⟨_,h,_⟩ |⟨h,_⟩ <;> first |exact h |omega
      obtain⟨t,t2,st',rfl⟩:∃t t2 st',st=t::t2::st':=by
       cases st with
       |nil=>simp at hw2;omega
       | cons t st'=>cases st' with
         |nil=>simp at hw2;omega
         |cons t2 st'=>exact⟨t,t2,st',rfl⟩
      have hlen:(t::t2::st').reverse.length=st'.length+2:=by simp
      have hl2:(t::t2::st').length=st'.length+2:=rfl
      have hl3:(t2::st').length=st'.length+1:=rfl
      have e1:IntKind.wrap .i64 (((t::t2::st').reverse.length:Int) - 1)=((t2::st').length:Int):=by
       simp only[bU,ax];rw[cg (by omega) (by omega)];omega
      have e2:IntKind.wrap .i64 (((t::t2::st').reverse.length:Int) - 2)=(st'.length:Int):=by
       simp only[bU,ax];rw[cg (by omega) (by omega)];omega
      have hstep:gZ vs ss c (t::t2::st')=(dq c.op t2 t,0,st'):=by simp[gZ,h7,h11]
      simp only[gR,hstep]
      rw[e1,e2]
      simp only[ai]
      rw[B1,Jz,Hs]
      refine⟨⟨by omega,by omega⟩,by omega,⟨by omega,by omega⟩,by omega,⟨by omega,by omega⟩,fun h=>⟨fun _=>⟨?_,rfl⟩,fun h2=>Bool.noConfusion h2⟩,fun h=>⟨fun h2=>Bool.noConfusion h2,fun _=>⟨tT (by simp;omega),?_⟩⟩⟩
      · have h':((0:Int)==0&&dq c.op t2 t==0)=true:=h
        simp only[h'];rfl
      · have h':((0:Int)==0&&dq c.op t2 t==0)=false:=h
        simp only[h',cond_false]
        exact next (dq c.op t2 t) st' c (by omega) (by omega) hk' hrest
  · have hk':k=l.length:=by have:=of_decide_eq_false hge;omega
    rw[hk',List.drop_length]at hright ⊢
    simp only[cv]at hright
    have hone:st.length=1:=by have h1:(st.length:Int)=1:=(by simpa using hright);omega
    obtain⟨t,rfl⟩:∃t,st=[t]:=List.length_eq_one_iff.1 hone
    exact⟨by simp,by simp,rfl,rfl⟩
theorem GJ:ah Tryz.prog 215 [.l .cell l,.l .var vs,.l .str ss] [] (cL (cm l vs ss)) []:=by
 refine dg Bd Tryz.func215 (.ite (!dH l) (.ret (.tup [.i 0,.i 1]) []) (.stop zFc1 {n:=86,fr:=[(1,.p (.lst .var vs)),(2,.p (.lst .str ss)),(6,.i 0),(7,.i 0),(8,.p (.v (Value.slice none 0 0))),(17,.p (.lst .cell l)),(18,.i l.length),(19,.i 0)],ck:=[]})) fun Γ=>?_
 refine⟨fun h=>⟨by simp only[cm,h,cond_true];rfl,rfl⟩,fun h=>?_⟩
 have h':dH l=true:=by simpa using h
 have e:cm l vs ss=gR vs ss (l.drop 0) []:=by simp[cm,h']
 simp only[dH,af]at h'
 have h32:l.length≤32:=by have h1:=h'.1;simp at h1;omega
 rw[e]
 refine J.nilOwn 8 3 .int rfl rfl ?_
 exact Qn l vs ss Γ h32 l.length 0 [] (by omega) (by omega) (by simp) (by simpa using h'.2)
def eOf:Ent:=(215,fun
 |[.c (.pd (.lst .cell l)),.c (.pd (.lst .var vs)),.c (.pd (.lst .str ss))],[]=>some (none,cL (cm l vs ss),[])
 |_,_=>none)
theorem I8:EntOk Tryz.prog eOf:=entOk fun vs ck=>by
 unfold eOf;dsimp only;split
 ·rename_i l vs ss;exact entS fun hp=>GJ l vs ss
 ·exact entN
theorem iQ(c:Cell)(h:aV c≥0):(c.op<7∧aV c=0)∨(7≤c.op∧c.op<11∧aV c=1)∨(11≤c.op∧aV c=2):=by
 rcases fx c h with⟨h1,h2⟩ |⟨h1,h2,h3⟩ |⟨h1,h2⟩
 ·exact .inl ⟨h2,h1⟩
 ·exact .inr (.inl ⟨h2,h3,h1⟩)
 ·exact .inr (.inr ⟨h2,h1⟩)
inductive Tm where
 |leaf (c:Cell)
 |un (c:Cell) (t:Tm)
 |bin (c:Cell) (t u:Tm)
def Tm.flat:Tm→List Cell
 |.leaf c=>[c]
 |.un c t=>t.flat++[c]
 |.bin c t u=>t.flat++u.flat++[c]
def Tm.ok:Tm→Prop
 |.leaf c=>aV c=0
 |.un c t=>aV c=1∧t.ok
 |.bin c t u=>aV c=2∧t.ok∧u.ok
theorem Tm.flat_pos(t:Tm):1≤t.flat.length:=by cases t <;> simp only[Tm.flat,au,ax,bJ] <;> omega
def py:List Tm→List Cell
 |[]=>[]
 |t::r=>py r++t.flat
theorem lH:∀(rest:List Cell) (ts:List Tm),(∀t∈ts,t.ok)→cv rest ts.length=true→∃t:Tm,t.ok∧t.flat=py ts++rest
 | [],ts,hok,h=>by
   simp only[cv]at h
   have h1:ts.length=1:=by have h2:(ts.length:Int)=1:=(by simpa using h);omega
   obtain⟨t,rfl⟩:=List.length_eq_one_iff.1 h1
   exact⟨t,hok t (by simp),by simp[py]⟩
 | c :: rest,ts,hok,h=>by
   simp only[cv]at h
   cases hb:(decide (aV c<0)||decide (aV c>(ts.length:Int)))
   · rw [hb,cond_false]at h
     simp only[al]at hb
     have h1:=of_decide_eq_false hb.1
     have h2:=of_decide_eq_false hb.2
     rcases iQ c (by omega)with⟨_,hw⟩ |⟨_,_,hw⟩ |⟨_,hw⟩
     · obtain⟨t,q1,q2⟩:=lH rest (.leaf c::ts) (by intro t ht;rcases aI.1 ht with rfl |ht;exact hw;exact hok t ht) (by rw[←h];congr 1;simp only[ax];omega)
       exact⟨t,q1,by rw[q2];simp[py,Tm.flat]⟩
     · cases ts with
       |nil=>simp at h2;omega
       | cons a ts =>
         obtain⟨t,q1,q2⟩:=lH rest (.un c a::ts) (by intro t ht;rcases aI.1 ht with rfl |ht;exact⟨hw,hok a (by simp)⟩;exact hok t (by simp[ht])) (by rw[←h];congr 1;simp only[ax];omega)
         exact⟨t,q1,by rw[q2];simp[py,Tm.flat]⟩
     · cases ts with
       |nil=>simp at h2;omega
       | cons a ts=>cases ts with
         |nil=>simp at h2;omega
         | cons b ts =>
           obtain⟨t,q1,q2⟩:=lH rest (.bin c b a::ts) (by intro t ht;rcases aI.1 ht with rfl |ht;exact⟨hw,hok b (by simp),hok a (by simp)⟩;exact hok t (by simp[ht])) (by rw[←h];congr 1;simp only[ax];omega)
           exact⟨t,q1,by rw[q2];simp[py,Tm.flat]⟩
   ·rw[hb]at h;simp at h
theorem Nv{l:List Cell}(h:dH l=true):l.length≤32∧∃t:Tm,t.ok∧t.flat=l:=by
 simp only[dH,af,aK,decide_eq_false_iff_not]at h
 obtain⟨t,h1,h2⟩:=lH l [] (by simp) (by simpa using h.2)
 exact⟨by omega,t,h1,by simpa[py]using h2⟩
theorem kP(rest:List Cell):∀(t:Tm),t.ok→∀n:Int,0≤n→cv (t.flat++rest) n=cv rest (n+1)
 | .leaf c,h,n,hn=>by
   simp only[Tm.ok]at h
   simp[Tm.flat,cv,h,show ¬(n<0)from by omega]
 | .un c t,h,n,hn=>by
   obtain⟨hw,ht⟩:=h
   rw[Tm.flat,bD,kP _ t ht n hn]
   simp[cv,hw,show ¬(n+1<1)from by omega]
 | .bin c t u,h,n,hn=>by
   obtain⟨hw,ht,hu⟩:=h
   rw[Tm.flat,bD,bD,kP _ t ht n hn,kP _ u hu _ (by omega)]
   have:¬(n+1+1<2):=by omega
   simp only[bO,cd,cv,hw,show decide ((2:Int)<0)=false from rfl,bj,show decide ((2:Int)>n+1+1)=false from by simpa using this,cond_false]
   congr 1;omega
theorem N9{t:Tm}(h:t.ok)(hl:t.flat.length≤32):dH t.flat=true:=by
 have:=kP [] t h 0 (by omega)
 rw[aO]at this
 simp only[dH,this,cv,af,aK,decide_eq_false_iff_not]
 exact⟨by omega,rfl⟩
/-! ### kinds -/
def jT(k:Int):Int×Int:=bif k==0 then(0,8)else(k,0)
def unK(op a:Int):Int×Int:=jT (dq op a 0)
def K7(op a b:Int):Int×Int:=jT (dq op a b)
def Tm.kind(vars:List Var)(states:List (List UInt8)):Tm→Int×Int
 |.leaf c=>b6 c vars states
 |.un c t=>bif (t.kind vars states).2 != 0 then(0,(t.kind vars states).2)else unK c.op (t.kind vars states).1
 |.bin c t u=>bif (t.kind vars states).2 != 0 then(0,(t.kind vars states).2)else bif (u.kind vars states).2 != 0 then(0,(u.kind vars states).2)else K7 c.op (t.kind vars states).1 (u.kind vars states).1
def OneKind(p:Int×Int):Prop:=(p.2=0→1≤p.1∧p.1≤3)∧(p.2≠0→p.1=0)
theorem OneKind.ok{k:Int}(h1:1≤k)(h2:k≤3):OneKind (k,0):=⟨fun _=>⟨h1,h2⟩,fun h=>absurd rfl h⟩
theorem OneKind.err{e:Int}(h:e≠0):OneKind (0,e):=⟨fun h1=>absurd h1 h,fun _=>rfl⟩
theorem B8 (c:Cell) (vars:List Var) (states:List (List UInt8)):OneKind (b6 c vars states):=by
 unfold b6
 cases c.op==1
 · cases c.op==2
   · cases c.op==5
     · cases c.op==6
       ·exact .ok (by decide) (by decide)
       · cases !(states.any fun s=>s==c.name)
         ·exact .ok (by decide) (by decide)
         ·exact .err (by decide)
     · show OneKind (match ju vars c.name with
        |none=>(0,2)
        |some v=>bif decide (v.kind≥1)&&decide (v.kind≤3)then(v.kind,0)else(0,8))
       cases ju vars c.name with
       |none=>exact .err (by decide)
       | some v =>
         cases hk:(decide (v.kind≥1)&&decide (v.kind≤3))
         ·simp only[hk,cond_false];exact .err (by decide)
         · simp only[hk,cond_true]
           simp only[af,decide_eq_true_eq]at hk
           exact .ok (by omega) (by omega)
   ·exact .ok (by decide) (by decide)
 ·exact .ok (by decide) (by decide)
theorem vC(op l r:Int):0≤dq op l r∧dq op l r≤3:=by
 have h:∀rows:List KRow,(∀k∈rows,0≤k.out∧k.out≤3)→0≤jL op l r rows∧jL op l r rows≤3:=by
  intro rows
  induction rows with
  |nil=>intro _;exact⟨by simp[jL],by simp[jL]⟩
  | cons k rows ih =>
    intro hk
    simp only[jL]
    cases AB op l r k
    ·exact ih fun x hx=>hk x (aD _ hx)
    ·exact hk k az
 exact h sf (by decide)
theorem yk(k:Int)(h:0≤k∧k≤3):OneKind (jT k):=by
 unfold jT
 cases hk:(k==0)
 · have:k≠0:=by simpa using hk
   exact .ok (by omega) (by omega)
 ·exact .err (by decide)
theorem Tm.kind_one(vars:List Var)(states:List (List UInt8))(t:Tm):OneKind (t.kind vars states):=by
 cases t with
 |leaf c=>exact B8 c vars states
 | un c t =>
   simp only[Tm.kind]
   cases hb:((t.kind vars states).2 != 0)
   ·exact yk _ (vC _ _ _)
   ·exact .err (by simpa using hb)
 | bin c t u =>
   simp only[Tm.kind]
   cases hb:((t.kind vars states).2 != 0)
   · cases hb2:((u.kind vars states).2 != 0)
     ·exact yk _ (vC _ _ _)
     ·exact .err (by simpa using hb2)
   ·exact .err (by simpa using hb)
theorem vF(k:Int):(bif (0:Int)==0&&k==0 then(8:Int)else 0)=(jT k).2∧((jT k).2=0→(jT k).1=k):=by
 unfold jT
 cases hk:(k==0) <;> simp
theorem lC(vars:List Var)(states:List (List UInt8)):∀(t:Tm),t.ok→∀(rest:List Cell) (st:List Int),
 gR vars states (t.flat++rest) st=bif (t.kind vars states).2 != 0 then(0,(t.kind vars states).2)else gR vars states rest ((t.kind vars states).1::st)
 | .leaf c,h,rest,st=>by
   simp only[Tm.ok]at h
   have h7:decide (c.op<7)=true:=by rcases iQ c (by omega)with⟨h1,_⟩ |⟨_,_,h1⟩ |⟨_,h1⟩ <;> first |exact decide_eq_true h1 |omega
   have hl:=B8 c vars states
   have e:(bif (b6 c vars states).2==0&&(b6 c vars states).1==0 then(8:Int)else(b6 c vars states).2)=(b6 c vars states).2:=by
    cases hb:((b6 c vars states).2==0&&(b6 c vars states).1==0)
    ·rfl
    · simp only[af,beq_iff_eq]at hb
      have:=hl.1 hb.1;omega
   simp only[Tm.flat,bO,cd,gR,gZ,h7,cond_true,e,Tm.kind]
 | .un c t,⟨hw,ht⟩,rest,st=>by
   have h7:decide (c.op<7)=false∧decide (c.op<11)=true:=by rcases iQ c (by omega)with⟨_,h1⟩ |⟨h1,h2,_⟩ |⟨_,h1⟩ <;> first |exact⟨decide_eq_false (by omega),decide_eq_true (by omega)⟩ |omega
   rw[Tm.flat,bD,lC vars states t ht]
   simp only[Tm.kind]
   cases hb:((t.kind vars states).2 != 0)
   · have ho:=vF (dq c.op (t.kind vars states).1 0)
     simp only[cond_false,bO,cd,gR,gZ,h7.1,h7.2,cond_true,List.getD_cons_zero,ho.1,unK,gF,gh]
     cases hb2:((jT (dq c.op (t.kind vars states).1 0)).2 != 0)
     · have:(jT (dq c.op (t.kind vars states).1 0)).2=0:=by simpa using hb2
       simp only[cond_false,ho.2 this]
     ·rfl
   ·simp only[cond_true,hb]
 | .bin c t u,⟨hw,ht,hu⟩,rest,st=>by
   have h7:decide (c.op<7)=false∧decide (c.op<11)=false:=by rcases iQ c (by omega)with⟨_,h1⟩ |⟨_,_,h1⟩ |⟨h1,_⟩ <;> first |exact⟨decide_eq_false (by omega),decide_eq_false (by omega)⟩ |omega
   rw[Tm.flat,bD,bD,lC vars states t ht]
   simp only[Tm.kind]
   cases hb:((t.kind vars states).2 != 0)
   · simp only[cond_false]
     rw[lC vars states u hu]
     cases hb3:((u.kind vars states).2 != 0)
     · have ho:=vF (dq c.op (t.kind vars states).1 (u.kind vars states).1)
       simp only[cond_false,bO,cd,gR,gZ,h7.1,h7.2,List.getD_cons_zero,List.getD_cons_succ,ho.1,K7,List.drop_succ_cons,cA]
       cases hb2:((jT (dq c.op (t.kind vars states).1 (u.kind vars states).1)).2 != 0)
       · have:(jT (dq c.op (t.kind vars states).1 (u.kind vars states).1)).2=0:=by simpa using hb2
         simp only[cond_false,ho.2 this]
       ·rfl
     ·simp only[cond_true,hb3]
   ·simp only[cond_true,hb]
theorem GI(vars:List Var)(states:List (List UInt8)){t:Tm}(h:t.ok)(hl:t.flat.length≤32):cm t.flat vars states=t.kind vars states:=by
 have:=lC vars states t h [] []
 rw[aO]at this
 simp only[cm,N9 h hl,cq,cond_false,this,gR]
 have hk:=t.kind_one vars states
 cases hb:((t.kind vars states).2 != 0)
 · have h0:(t.kind vars states).2=0:=by simpa using hb
   simp only[cond_false,List.getLastD_cons,List.getLastD_nil];rw[←h0]
 · simp only[cond_true]
   have:=hk.2 (by simpa using hb)
   rw[←this]
/-! ### the document's rules -/
def OW(op a:Int):Int×Int :=
 bif op==7&&a != 2 then(a,0)else bif op==8&&a==2 then(a,0)else bif decide (op>8)&&a==3 then(1,0)else(0,8)
def iP(op k:Int):Int×Int :=
 bif op==16||op==17 then(2,0)
 else bif op==22||op==23 then(bif k==2 then(k,0)else(0,8))
 else bif decide (op≥18)then(bif k==1 then(2,0)else(0,8))
 else bif decide (op≥14)then(bif k==1 then(k,0)else(0,8))
 else bif k != 2 then(k,0)else(0,8)
def HO(op a b:Int):Int×Int:=bif a != b then(0,8)else iP op a
theorem Sh(op a:Int)(h1:7≤op)(h2:op<11)(h3:1≤a)(h4:a≤3):OW op a=unK op a:=by
 have ho:op=7∨op=8∨op=9∨op=10:=by omega
 have ha:a=1∨a=2∨a=3:=by omega
 rcases ho with rfl |rfl |rfl |rfl <;> rcases ha with rfl |rfl |rfl <;> rfl
theorem O3(op a b:Int)(h1:11≤op)(h2:op≤23)(h3:1≤a)(h4:a≤3)(h5:1≤b)(h6:b≤3):HO op a b=K7 op a b:=by
 have ho:op=11∨op=12∨op=13∨op=14∨op=15∨op=16∨op=17∨op=18∨op=19∨op=20∨op=21∨op=22∨op=23:=by omega
 have ha:a=1∨a=2∨a=3:=by omega
 have hb:b=1∨b=2∨b=3:=by omega
 rcases ho with rfl |rfl |rfl |rfl |rfl |rfl |rfl |rfl |rfl |rfl |rfl |rfl |rfl <;> rcases ha with rfl |rfl |rfl <;> rcases hb with rfl |rfl |rfl <;> rfl
end Go.Proofs.YtlhgnjmdopjpeaaGreatDoor
