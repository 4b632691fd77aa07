/- An executor for function bodies of the model over data, part PS: sums, differences, products of complex numbers: where their bits are not told, they are drawn. Conditions: none. An executor for function bodies of the model over data, part PM: one operation, whichever. Conditions: each operation's own, told as a proposition. An executor for function bodies of the model over data, part PN: a statement whose order Go leaves open, where no operation changes what another one sees. Conditions: each operation's own. An executor for function bodies of the model over data, part PO: a statement whose order Go leaves open, as one step. Conditions: each operation's own. -/
import Derived.Test.YtlhgnjmdopjpeaaGreatDoorPL
import Derived.Laws.ComplexArith
import Derived.Orders
namespace Go.Ev
open Go.RowKit
theorem Fr.trans0{w w1 w2:World}(h:Fr (fun _=>False) w w1)(k:Fr (fun _=>False) w1 w2):Fr (fun _=>False) w w2 :=
 ⟨k.os.trans h.os,k.tape.trans h.tape,k.output.trans h.output,aC h.size k.size,fun b hb _=>(k.block b (bW hb h.size) id).trans (h.block b hb id)⟩
def mN(P:Program){α:Type}(m:Sem α)(w:World)(Φ:α→Prop):Prop:=∃r w',m.run P w = .ok r w'∧Φ r∧Fr (fun _=>False) w w'
theorem mN.bind{P:Program}{α β:Type}{m:Sem α}{f:α→Sem β}{w:World}{Φ:α→Prop}{Ψ:β→Prop}(h:mN P m w Φ)(k:∀r w',Φ r→mN P (f r) w' Ψ):mN P (m >>= f) w Ψ:=by
 obtain⟨r,w1,h1,h2,h3⟩:=h
 obtain⟨s,w2,k1,k2,k3⟩:=k r w1 h2
 exact⟨s,w2,by simp only[Sem.run_bind,h1,Result.andThen_ok,k1],k2,h3.trans0 k3⟩
theorem mN.pure{P:Program}{α:Type}{a:α}{w:World}{Φ:α→Prop}(h:Φ a):mN P (Pure.pure a:Sem α) w Φ:=⟨a,w,rfl,h,Fr.refl _ _⟩
theorem gz{P:Program}{op:BinOp}(hop:op = .add∨op = .sub∨op = .mul)(x y:Nat)(w:World):mN P (Op.Complex.arith op .f64 x y) w (fun r=>∀r0,floatBits op .f64 x y=some r0→r=r0):=by
 cases hb:floatBits op .f64 x y with
 |some r=>exact⟨r,w,run_carith w hb,fun r0 h=>by cases h;rfl,Fr.refl _ _⟩
 | none =>
   have hc:(choose (.nanBits .f64 x y)).run P w = .ok ((Question.nanBits .f64 x y).cut (w.tape w.drawn (.nanBits .f64 x y))) w.drew:=rfl
   have e:∃n,(Op.floatArith op .f64 x y).run P w = .ok (.float .f64 n) w.drew:=by
    refine⟨(Question.nanBits .f64 x y).cut (w.tape w.drawn (.nanBits .f64 x y)),?_⟩
    unfold floatBits at hb
    rcases hop with rfl |rfl |rfl <;> simp only at hb <;> simp only[Op.floatArith,Sem.run_bind,run_pure',Result.andThen_ok,hb,hc]
   obtain⟨n,e⟩:=e
   refine⟨n,w.drew,?_,(fun r0 h=>by cases h),⟨rfl,rfl,rfl,av _,fun _ _ _=>rfl⟩⟩
   simp only[Op.Complex.arith,Sem.run_bind,e,Result.andThen_ok]
   rfl
theorem CL{P:Program}{op:BinOp}(hop:op = .add∨op = .sub)(t:TypeId)(a b c d:Nat)(w:World) :
 mN P (binOp op t (.complex .f64 a b) (.complex .f64 c d)) w (fun v=>∃re im,v = .complex .f64 re im∧∀p,cSumBits op .f64 a b c d=some p→p=(re,im)):=by
 have e:binOp op t (.complex .f64 a b) (.complex .f64 c d)=(Op.Complex.arith op .f64 a c >>= fun re=>Op.Complex.arith op .f64 b d >>= fun im=>Pure.pure (.complex .f64 re im)):=by
  rcases hop with rfl |rfl <;> rfl
 rw[e]
 have ho:op = .add∨op = .sub∨op = .mul:=by rcases hop with h |h <;> simp[h]
 refine(gz ho a c w).bind fun re w1 h1=>(gz ho b d w1).bind fun im w2 h2=>.pure ⟨re,im,rfl,fun p hp=>?_⟩
 unfold cSumBits at hp
 obtain⟨x,g1,hp⟩:=bind_some hp
 obtain⟨y,g2,hp⟩:=bind_some hp
 cases hp
 rw[h1 _ g1,h2 _ g2]
theorem NO{P:Program}(t:TypeId)(a b c d:Nat)(w:World) :
 mN P (binOp .mul t (.complex .f64 a b) (.complex .f64 c d)) w (fun v=>∃re im,v = .complex .f64 re im∧∀p,cMulBits a b c d=some p→p=(re,im)):=by
 have hp:mN P (Op.Complex.product a b c d) w (fun r=>∀p,cMulBits a b c d=some p→p=r):=by
  have e:Op.Complex.product a b c d=(Op.Complex.arith .mul .f64 a c >>= fun ac=>Op.Complex.arith .mul .f64 b d >>= fun bd=>Op.Complex.arith .sub .f64 ac bd >>= fun re =>
   Op.Complex.arith .mul .f64 a d >>= fun ad=>Op.Complex.arith .mul .f64 b c >>= fun bc=>Op.Complex.arith .add .f64 ad bc >>= fun im=>Pure.pure (re,im)):=rfl
  rw[e]
  refine(gz (.inr (.inr rfl)) a c w).bind fun ac w1 h1=>(gz (.inr (.inr rfl)) b d w1).bind fun bd w2 h2=>(gz (.inr (.inl rfl)) ac bd w2).bind fun re w3 h3 =>
   (gz (.inr (.inr rfl)) a d w3).bind fun ad w4 h4=>(gz (.inr (.inr rfl)) b c w4).bind fun bc w5 h5=>(gz (.inl rfl) ad bc w5).bind fun im w6 h6=>.pure fun p hp=>?_
  unfold cMulBits at hp
  obtain⟨x1,g1,hp⟩:=bind_some hp
  obtain⟨x2,g2,hp⟩:=bind_some hp
  obtain⟨x3,g3,hp⟩:=bind_some hp
  obtain⟨x4,g4,hp⟩:=bind_some hp
  obtain⟨x5,g5,hp⟩:=bind_some hp
  obtain⟨x6,g6,hp⟩:=bind_some hp
  cases hp
  have e1:=h1 _ g1;have e2:=h2 _ g2;subst e1;subst e2
  have e3:=h3 _ g3;have e4:=h4 _ g4;have e5:=h5 _ g5;subst e3;subst e4;subst e5
  rw[h6 _ g6]
 obtain⟨r,w',h1,h2,h3⟩:=hp
 refine⟨.complex .f64 r.1 r.2,w',?_,⟨_,_,rfl,fun p hp=>h2 p hp⟩,h3⟩
 have hk:¬(FloatKind.f64≠FloatKind.f64):=fun h=>h rfl
 simp only[binOp,Op.complexOp,Op.Complex.conv,if_neg hk,Sem.run_bind,run_pure',Result.andThen_ok,if_true,beq_self_eq_true,h1]
def opC(st:ST):Op→Option SX
 | .binOp op _ x y _=>match op,bt st none x,bt st none y with
   |.add,some (.c (.pd (.cx o))),some (.c (.pd (.cx o')))=>some (.c (.pd (.cx (o.bind fun p=>o'.bind fun q=>cSumBits .add .f64 p.1 p.2 q.1 q.2))))
   |.sub,some (.c (.pd (.cx o))),some (.c (.pd (.cx o')))=>some (.c (.pd (.cx (o.bind fun p=>o'.bind fun q=>cSumBits .sub .f64 p.1 p.2 q.1 q.2))))
   |.mul,some (.c (.pd (.cx o))),some (.c (.pd (.cx o')))=>some (.c (.pd (.cx (o.bind fun p=>o'.bind fun q=>cMulBits p.1 p.2 q.1 q.2))))
   |_,_,_=>none
 |_=>none
section
variable{Γ:Ctx}{P:Program}{st:ST}{V:Vn}{a:Act}{w:World}
theorem yf (r:Rel Γ st V a w) {o:Oper} {sx:SX} (h:opC st o.op=some sx):∃v w',(execOp a.eval o).run P w = .ok (.value v) w'∧sx.R V v∧Fr (fun _=>False) w w':=by
 obtain⟨dst,op,ty,pos,after,guard⟩:=o
 simp only at h
 cases op with
 | binOp op t x y yt =>
   simp only[opC]at h
   have main:∀(o o':Option (Nat×Nat)) (f:Nat×Nat→Nat×Nat→Option (Nat×Nat)),bt st none x=some (.c (.pd (.cx o)))→bt st none y=some (.c (.pd (.cx o'))) →
    (∀p q,mN P (binOp op t (.complex .f64 p.1 p.2) (.complex .f64 q.1 q.2)) w (fun v=>∃re im,v = .complex .f64 re im∧∀r,f p q=some r→r=(re,im))) →
    ∃v w',(execOp a.eval ⟨dst,.binOp op t x y yt,ty,pos,after,guard⟩).run P w = .ok (.value v) w'∧SX.R V (.c (.pd (.cx (o.bind fun p=>o'.bind fun q=>f p q)))) v∧Fr (fun _=>False) w w':=by
    intro o o' f hx hy hr
    have e1:PR V.H (.cx o) (a.eval x):=aJ r (g:=none) trivial hx
    have e2:PR V.H (.cx o') (a.eval y):=aJ r (g:=none) trivial hy
    generalize hq1:a.eval x=u1 at e1
    generalize hq2:a.eval y=u2 at e2
    cases e1 with |cx _ x1 x2 f1 =>
    cases e2 with |cx _ y1 y2 f2 =>
    obtain⟨v,w',h1,⟨re,im,rfl,h2⟩,h3⟩:=hr (x1,x2) (y1,y2)
    have hgd:(eqGuard op t x y (.complex .f64 x1 x2) (.complex .f64 y1 y2)).run P w = .ok () w:=gN op t x y ⟨by simp,by simp⟩
    refine⟨.complex .f64 re im,w',?_,.cx _ re im fun p hp=>?_,h3⟩
    · simp only[execOp,hq1,hq2]
      exact bo (by simp only[Sem.run_bind,hgd,Result.andThen_ok];exact h1)
    · cases o with
      |none=>simp at hp
      | some q1=>cases o' with
        |none=>simp at hp
        | some q2 =>
          simp only[Option.bind_some]at hp
          rw[f1 q1 rfl,f2 q2 rfl]at hp
          exact h2 p hp
   split at h
   · rename_i o o' hx hy
     simp only[aa]at h;subst h
     exact main o o' (fun p q=>cSumBits .add .f64 p.1 p.2 q.1 q.2) hx hy fun p q=>CL (.inl rfl) t _ _ _ _ w
   · rename_i o o' hx hy
     simp only[aa]at h;subst h
     exact main o o' (fun p q=>cSumBits .sub .f64 p.1 p.2 q.1 q.2) hx hy fun p q=>CL (.inr rfl) t _ _ _ _ w
   · rename_i o o' hx hy
     simp only[aa]at h;subst h
     exact main o o' (fun p q=>cMulBits p.1 p.2 q.1 q.2) hx hy fun p q=>NO t _ _ _ _ w
   ·simp at h
 |_=>simp[opC]at h
end
def lV(st:ST):Nat→Nat→Bool→Option Prop
 |0,_,_=>none
 | n+1,s,want=>match lookup st.fr s with
   |some (.x (.c (.pd (.bool b))))=>some (b=want)
   |some (.grd s0 w0 (.c (.pd (.bool b))))=>(lV st n s0 w0).map fun p=>p∧b=want
   |_=>none
def er(st:ST)(d:Option Tmp)(sv:SV):Option ST :=
 match d with
 |none=>some st
 |some t=>bif Nat.blt t st.n then some {st with fr:=bH t sv st.fr}else none
def Ce(P:Program)(st:ST)(g:Option (Nat×Bool))(op:Op):Option (Option Prop×SX) :=
 match opV P st g op with
 |some r=>some r
 |none=>(opB P st g op).map fun sx=>(none,sx)
def Cd(st:ST)(op:Op):List Nat:=op.operands.toList.flatMap fun x=>match bt st none x with |some sx=>sx.refs |none=>[]
def ra (P:Program) (cfg:Cfg) (o:Oper) (st:ST):Option (Option Prop×ST) :=
 match Ce P st none o.op with
 |some (p,sx)=>(er st o.dst (.x sx)).map fun s=>(p,s)
 | none => match opM P cfg.tys st o.op with
   |some (sx,ck')=>(er {st with ck:=ck'} o.dst (.x sx)).map fun s=>(none,s)
   | none => match opS P st o.op,o.dst with
     |some (p,ck'),none=>some (p,{st with ck:=ck'})
     | _,_=>match opX P st o.op with
       |some (p,sx,ck')=>(er {st with ck:=ck'} o.dst (.x sx)).map fun s=>(p,s)
       | none=>match callee P cfg.tys st none o.op with
         | some (f,args)=>match goA P cfg.tab st f args with
           |some (p,ret,ck')=>(er {st with ck:=ck'} o.dst ret).map fun s=>(p,s)
           | none=>match goB P cfg st f args with
             |some (p,ret)=>(er st o.dst ret).map fun s=>(p,s)
             |none=>none
         |none=>none
def M1 (P:Program) (cfg:Cfg) (ops:Array Oper) (o:Oper) (j:Nat) (want:Bool) (st:ST):Option (Option Prop×ST) :=
 match(ops[j]?).bind (·.dst),o.dst with
 | some s,some d=>match lV st 8 s want with
   | some q=>bif Nat.blt d st.n && !Nat.beq s d then
      match Ce P st (some (s,want)) o.op with
      |some (p,v)=>some (p.map (fun p=>q→p),{st with fr:=bH d (.grd s want v) st.fr})
      | none=>match callee P cfg.tys st (some (s,want)) o.op with
        | some (f,args)=>match goB P cfg st f args with
          |some (p,.x v)=>some (p.map (fun p=>q→p),{st with fr:=bH d (.grd s want v) st.fr})
          |_=>none
        |none=>none
     else none
   |none=>none
 |_,_=>none
def opT(st:ST):Op→Option (List SX)
 |.move x=>vm st x
 |.assign x=>vm st x
 |_=>none
def op1 (P:Program) (cfg:Cfg) (ops:Array Oper) (o:Oper) (st:ST):Option (Option Prop×ST) :=
 match o.guard with
 | none=>match ra P cfg o st with
   |some r=>some r
   | none=>match opT st o.op with
     |some l=>(er st o.dst (.tup l)).map fun s=>(none,s)
     | none=>match opC st o.op with
       |some sx=>(er st o.dst (.x sx)).map fun s=>(none,s)
       | none=>match tz cfg.tys st (order st.ck (Cd st o.op))with
         |some st'=>ra P cfg o st'
         |none=>none
 |some (j,want)=>M1 P cfg ops o j want st
section
variable{Γ:Ctx}{P:Program}{cfg:Cfg}{st:ST}{V:Vn}{a:Act}{w:World}
theorem pH(r:Rel Γ st V a w){g:Option (Nat×Bool)}(hg:fN a g)
 {o:Oper} {p:Option Prop} {sx:SX} (h:Ce P st g o.op=some (p,sx)) (hp:Holds p):∃v,(execOp a.eval o).run P w = .ok (.value v) w∧sx.R V v:=by
 unfold Ce at h
 split at h
 · rename_i r' h1
   simp only[aa]at h
   subst h
   exact J3 r hg h1 hp
 · simp only[aj,ae]at h
   obtain⟨sv',h1,rfl,rfl⟩:=h
   exact J1 r hg h1
theorem s8{a':Act}{d:Nat}{sv:SV}{v:Value}(h:sv.R V v)(hv:a'.tmps.getD d undef=v):cO V a' d sv:=by
 cases sv with
 |x s=>show s.R V _;rw[hv];exact h
 |tup l=>show ∃us,a'.tmps.getD d undef=_∧_;rw[hv];exact h
 |grd s b v=>exact h.elim
theorem dj(r:Rel Γ st V a w){d:Option Tmp}{sv:SV}{st':ST}(h:er st d sv=some st'){v:Value}(hv:sv.R V v):Rel Γ st' V (a.put d v) w:=by
 cases d with
 |none=>simp only[er,aa]at h;subst h;exact r
 | some t =>
   simp only[er]at h
   cases hb:Nat.blt t st.n
   ·rw[hb]at h;simp at h
   · rw[hb]at h
     simp only[cond_true,aa]at h
     subst h
     exact r.put t sv _ (aB hb) fun a' _ h2=>s8 hv h2
theorem kD(r:Rel Γ st V a w):∀(n s:Nat) (want:Bool) (q:Prop),lV st n s want=some q→a.tmps.getD s undef = .bool want→q
 |0,_,_,_,h,_=>by simp[lV]at h
 | n + 1,s,want,q,h,hs=>by
   simp only[lV]at h
   split at h
   · rename_i b hl
     simp only[aa]at h;subst h
     have h1:SX.R V (.c (.pd (.bool b))) (a.tmps.getD s undef):=r.slots s _ (cT hl)
     rw[hs]at h1
     cases h1
     rfl
   · rename_i s0 w0' b hl
     simp only[aj]at h
     obtain⟨q',h1,rfl⟩:=h
     have hk:=r.slots s _ (cT hl)
     by_cases hon:a.tmps.getD s0 undef = .bool w0'
     · have h2:=hk.1 hon
       rw[hs]at h2
       cases h2
       exact⟨kD r n s0 w0' q' h1 hon,rfl⟩
     · have h2:=hk.2 hon
       rw[hs]at h2
       simp[undef]at h2
   ·simp at h
theorem kv{ops:Array Oper}{o:Oper}{j s:Nat}{want:Bool}(hg:o.guard=some (j,want))(hs:(ops[j]?).bind (·.dst)=some s)(hon:a.tmps.getD s undef = .bool want):Region.wanted o (yielded ops a.tmps)=true:=by
 simp only[Region.wanted,hg]
 have:yielded ops a.tmps j=some want:=by
  unfold yielded
  rw[hs]
  simp only[Option.bind_some]
  have:a.tmps[s]?=some (.bool want):=by
   rw[Array.getD_eq_getD_getElem?]at hon
   cases h0:a.tmps[s]? with
   |none=>rw[h0]at hon;simp[undef]at hon
   |some x=>rw[h0]at hon;simpa using hon
  rw[this]
 rw[this];simp
theorem mG{ops:Array Oper}{o:Oper}{j s:Nat}{want:Bool}(hg:o.guard=some (j,want))(hs:(ops[j]?).bind (·.dst)=some s)(hon:¬a.tmps.getD s undef = .bool want):Region.wanted o (yielded ops a.tmps)=false:=by
 simp only[Region.wanted,hg]
 have:yielded ops a.tmps j≠some want:=by
  unfold yielded
  rw[hs]
  simp only[Option.bind_some]
  intro hc
  apply hon
  rw[Array.getD_eq_getD_getElem?]
  cases h0:a.tmps[s]? with
  |none=>rw[h0]at hc;simp at hc
  | some x =>
    rw[h0]at hc
    cases x <;> simp at hc
    subst hc
    rfl
 simpa using this
theorem jP{o:Oper}{ops:Array Oper}(h:o.guard=none):Region.wanted o (yielded ops a.tmps)=true:=by simp[Region.wanted,h]
theorem Rel.after(r:Rel Γ st V a w){w':World}{V':Vn}{ck':List Chunk}(hwf:st.wf=true)(hag:Agree st.ck.length V V')(hw:WOk Γ ck' V' w')(hl:st.ck.length≤ck'.length):Rel Γ {st with ck:=ck'} V' a w':=r.turn hwf hag hw hl
theorem RZ{f:Nat}{args:List SX}{p:Option Prop}{ret:SV}{ck':List Chunk}(h:goA P cfg.tab st f args=some (p,ret,ck')):st.wf=true∧st.ck.length≤ck'.length:=by
 unfold goA at h
 simp only at h
 split at h
 · rename_i ck0 hpk
   cases hb:(gD (c8 st.ck (args.flatMap SX.refs))&&within (c8 st.ck (args.flatMap SX.refs)) (args.flatMap SX.refs)&&within (c8 st.ck (args.flatMap SX.refs)) (ck0.flatMap Chunk.refs)&&iZ P f&&st.wf)
   ·rw[hb]at h;simp at h
   · rw [hb]at h
     simp only[cond_true]at h
     simp only[af]at hb
     split at h
     · rename_i p' ret' ck2 htab
       cases hl:(Nat.ble (c8 st.ck (args.flatMap SX.refs)).length ck2.length&&jM ret')
       ·rw[hl]at h;simp at h
       · rw[hl]at h
         simp only[cond_true,aa,ae]at h
         obtain⟨_,_,rfl⟩:=h
         exact⟨hb.2,by rw[au,cM];omega⟩
     ·simp at h
 ·simp at h
theorem B2{f:Nat}{args:List SX}{p:Option Prop}{ret:SV}{ck':List Chunk}(hA:goA P cfg.tab st f args=some (p,ret,ck')):iZ P f=true:=by
 unfold goA at hA
 simp only at hA
 split at hA
 · rename_i ck0 hpk
   cases hb:(gD (c8 st.ck (args.flatMap SX.refs))&&within (c8 st.ck (args.flatMap SX.refs)) (args.flatMap SX.refs)&&within (c8 st.ck (args.flatMap SX.refs)) (ck0.flatMap Chunk.refs)&&iZ P f&&st.wf)
   ·rw[hb]at hA;simp at hA
   ·simp only[af]at hb;exact hb.1.2
 ·simp at hA
theorem B3{f:Nat}{args:List SX}{p:Option Prop}{ret:SV}(hB:goB P cfg st f args=some (p,ret)):iZ P f=true:=by
 unfold goB at hB
 split at hB
 · rename_i st1 args1 _
   cases hn:within [] (args1.flatMap SX.refs)
   ·rw[hn]at hB;simp at hB
   · rw[hn]at hB
     simp only[cond_true]at hB
     split at hB
     · rename_i p1 r1 c1 hA
       exact B2 hA
     ·simp at hB
 ·simp at hB
theorem kH{f:Go.Sy.Md}{R:Ending→World→Prop}(ht:TOk P cfg.tab Γ)(r:Rel Γ st V a w){ops:Array Oper}{i:Nat}{o:Oper}(ho:ops[i]?=some o)(hw:Region.wanted o (yielded ops a.tmps)=true){p:Option Prop}{st':ST}(h:ra P cfg o st=some (p,st'))(hp:Holds p)
 {l:List Nat} {k:List Item} (hk:∀V' a' w',Rel Γ st' V' a' w'→Go.Sy.Fin P f R (.inRegion ops l::k) a' w'):Go.Sy.Fin P f R (.inRegion ops (i::l)::k) a w:=by
 unfold ra at h
 split at h
 · rename_i p' sx hv
   simp only[aj,ae]at h
   obtain⟨s,hs,rfl,rfl⟩:=h
   obtain⟨v,h1,h2⟩:=pH r (g:=none) trivial hv hp
   exact Go.Sy.Fin.op_value ho hw h1 (hk _ _ _ (dj r hs h2))
 · split at h
   · rename_i sx ck' hm
     simp only[aj,ae]at h
     obtain⟨s,hs,rfl,rfl⟩:=h
     obtain⟨v,w',V',h1,h2,r'⟩:=yg r hm
     exact Go.Sy.Fin.op_value ho hw h1 (hk _ _ _ (dj r' hs h2))
   · split at h
     · rename_i p' ck' hs hd
       simp only[aa,ae]at h
       obtain⟨rfl,rfl⟩:=h
       obtain⟨w',h1,r'⟩:=yh r hs hp
       refine Go.Sy.Fin.op_skip ho hw h1 (hk V _ _ ?_)
       rw[hd];exact r'
     · split at h
       · rename_i p' sx ck' hm
         simp only[aj,ae]at h
         obtain⟨s,hs,rfl,rfl⟩:=h
         obtain⟨v,w',V',h1,h2,r'⟩:=yj r hm hp
         exact Go.Sy.Fin.op_value ho hw h1 (hk _ _ _ (dj r' hs h2))
       · split at h
         · rename_i g args hc
           split at h
           · rename_i p' ret ck' hA
             simp only[aj,ae]at h
             obtain⟨s,hs,rfl,rfl⟩:=h
             obtain⟨vs,h1,h2⟩:=ja (P:=P) r (g:=none) trivial hc (B2 hA)
             obtain⟨_,_,h3⟩:=qL ht r hA hp h2
             obtain⟨hwf,hlen⟩:=RZ hA
             refine Go.Sy.Fin.op_call ho hw h1 (h3.mono fun e w2 hq=>?_)
             obtain⟨v,V',rfl,hr,hag,_,_,hwok⟩:=hq
             exact⟨v,rfl,hk _ _ _ (dj (r.turn hwf hag hwok hlen) hs hr)⟩
           · split at h
             · rename_i p' ret hB
               simp only[aj,ae]at h
               obtain⟨s,hs,rfl,rfl⟩:=h
               obtain⟨vs,h1,h2⟩:=ja (P:=P) r (g:=none) trivial hc (B3 hB)
               obtain⟨_,_,h3⟩:=qM ht r hB hp h2
               refine Go.Sy.Fin.op_call ho hw h1 (h3.mono fun e w2 hq=>?_)
               obtain⟨v,rfl,hr,hf,hwok⟩:=hq
               exact⟨v,rfl,hk _ _ _ (dj (V:=V) ⟨r.size,r.defers,r.slots,hwok,r.few⟩ hs hr)⟩
             ·simp at h
         ·simp at h
theorem GW {f:Go.Sy.Md} {R:Ending→World→Prop} (ht:TOk P cfg.tab Γ) (r:Rel Γ st V a w) {ops:Array Oper} {i:Nat} {o:Oper} (ho:ops[i]?=some o) {j:Nat} {want:Bool} (hg:o.guard=some (j,want)) {p:Option Prop} {st':ST} (h:M1 P cfg ops o j want st=some (p,st')) (hp:Holds p)
 {l:List Nat} {k:List Item} (hk:∀V' a' w',Rel Γ st' V' a' w'→Go.Sy.Fin P f R (.inRegion ops l::k) a' w'):Go.Sy.Fin P f R (.inRegion ops (i::l)::k) a w:=by
 unfold M1 at h
 split at h
 · rename_i s d hs hd
   split at h
   · rename_i q hq
     cases hb:(Nat.blt d st.n && !Nat.beq s d)
     ·rw[hb]at h;simp at h
     · rw [hb] at h
       simp only[cond_true]at h
       simp only[af,aK]at hb
       have hdn:d<st.n:=aB hb.1
       have hsd:s≠d:=fun e=>by rw[e]at hb;simp at hb
       have off:∀(v:SX) V1 w1,¬a.tmps.getD s undef = .bool want→Rel Γ st V1 a w1→Rel Γ {st with fr:=bH d (.grd s want v) st.fr} V1 (a.put (some d) undef) w1:=fun v V1 w1 hon r1 =>
        r1.put d (.grd s want v) _ hdn fun a' ha h2=>⟨fun h3=>absurd (by rw[←ha s hsd];exact h3) hon,fun _=>h2⟩
       have on:∀(v:SX) V1 w1 u,a.tmps.getD s undef = .bool want→v.R V1 u→Rel Γ st V1 a w1→Rel Γ {st with fr:=bH d (.grd s want v) st.fr} V1 (a.put (some d) u) w1:=fun v V1 w1 u hon hv r1 =>
        r1.put d (.grd s want v) _ hdn fun a' ha h2=>⟨fun _=>by rw[h2];exact hv,fun h3=>absurd (by rw[ha s hsd];exact hon) h3⟩
       split at h
       · rename_i p' v hv
         simp only[aa,ae]at h
         obtain⟨rfl,rfl⟩:=h
         by_cases hon:a.tmps.getD s undef = .bool want
         · obtain⟨u,h1,h2⟩:=pH r (g:=some (s,want)) hon hv (by
            cases p' with
            |none=>trivial
            |some p'=>exact hp (kD r 8 s want q hq hon))
           refine Go.Sy.Fin.op_value ho (kv hg hs hon) h1 ?_
           rw[hd]
           exact hk V _ _ (on v V w u hon h2 r)
         · refine Go.Sy.Fin.op_unwanted ho (mG hg hs hon) ?_
           rw[hd]
           exact hk V _ _ (off v V w hon r)
       · split at h
         · rename_i g args hc
           split at h
           · rename_i p' v hB
             simp only[aa,ae]at h
             obtain⟨rfl,rfl⟩:=h
             by_cases hon:a.tmps.getD s undef = .bool want
             · obtain⟨vs,h1,h2⟩:=ja (P:=P) r (g:=some (s,want)) hon hc (B3 hB)
               obtain⟨_,_,h3⟩:=qM ht r hB (by
                cases p' with
                |none=>trivial
                |some p'=>exact hp (kD r 8 s want q hq hon)) h2
               refine Go.Sy.Fin.op_call ho (kv hg hs hon) h1 (h3.mono fun e w2 hq=>?_)
               obtain⟨u,rfl,hr,hf,hwok⟩:=hq
               refine⟨u,rfl,?_⟩
               rw[hd]
               exact hk V _ _ (on v V w2 u hon hr ⟨r.size,r.defers,r.slots,hwok,r.few⟩)
             · refine Go.Sy.Fin.op_unwanted ho (mG hg hs hon) ?_
               rw[hd]
               exact hk V _ _ (off v V w hon r)
           ·simp at h
         ·simp at h
   ·simp at h
 ·simp at h
theorem yi(r:Rel Γ st V a w){o:Oper}{l:List SX}(h:opT st o.op=some l):∃v,(execOp a.eval o).run P w = .ok (.value v) w∧(SV.tup l).R V v:=by
 obtain⟨dst,op,ty,pos,after,guard⟩:=o
 simp only at h
 cases op <;> first |(simp[opT]at h;done) |skip
 all_goals
  obtain⟨us,e1,e2⟩:=sP r h
  exact⟨_,rfl,us,e1,e2⟩
theorem Dt{f:Go.Sy.Md}{R:Ending→World→Prop}(ht:TOk P cfg.tab Γ)(r:Rel Γ st V a w){ops:Array Oper}{i:Nat}{o:Oper}(ho:ops[i]?=some o){p:Option Prop}{st':ST}(h:op1 P cfg ops o st=some (p,st'))(hp:Holds p)
 {l:List Nat} {k:List Item} (hk:∀V' a' w',Rel Γ st' V' a' w'→Go.Sy.Fin P f R (.inRegion ops l::k) a' w'):Go.Sy.Fin P f R (.inRegion ops (i::l)::k) a w:=by
 unfold op1 at h
 split at h
 · rename_i hg
   split at h
   · rename_i x hx
     simp only[aa]at h
     subst h
     exact kH ht r ho (jP hg) hx hp hk
   · split at h
     · rename_i l hl
       simp only[aj,ae]at h
       obtain⟨s,hs,rfl,rfl⟩:=h
       obtain⟨v,h1,h2⟩:=yi (P:=P) r hl
       exact Go.Sy.Fin.op_value ho (jP hg) h1 (hk _ _ _ (dj r hs h2))
     · split at h
       · rename_i sx hc
         simp only[aj,ae]at h
         obtain⟨s,hs,rfl,rfl⟩:=h
         obtain⟨v,w',h1,h2,h3⟩:=yf (P:=P) r hc
         exact Go.Sy.Fin.op_value ho (jP hg) h1 (hk _ _ _ (dj (V:=V) ⟨r.size,r.defers,r.slots,r.wok.kept h3,r.few⟩ hs h2))
       · split at h
         · rename_i st1 hf
           obtain⟨V1,r1⟩:=tA r hf
           exact kH ht r1 ho (jP hg) h hp hk
         ·simp at h
 · rename_i j want hg
   exact GW ht r ho hg h hp hk
end
def cS(ops:Array Oper)(i:Nat):Option Nat:=(ops[i]?).bind (·.dst)
def bound(e:Edge):Bool:=match e.ground with |.textOnly _=>false |.gcOnly _=>false |_=>true
def cR(o:Oper):List Nat:=(o.after.toList.filter bound).map (·.on)
def nF:List Nat→Bool
 |[]=>true
 |x::r=>!r.any (Nat.beq x)&&nF r
def ka(ops:Array Oper):List Nat:=ops.toList.filterMap (·.dst)
def dO(ops:Array Oper)(st:ST):ST:={st with fr:=st.fr.filter (fun q=>!(ka ops).any (fun d=>q.2.onSlot d||Nat.beq q.1 d)),kn:=[]}
theorem Agree.trans{n:Nat}{V V1 V2:Vn}(h:Agree n V V1)(k:Agree n V1 V2):Agree n V V2:=⟨h.hle.trans k.hle,fun i hi=>⟨(k.same i hi).1.trans (h.same i hi).1,(k.same i hi).2.trans (h.same i hi).2⟩⟩
section
variable{Γ:Ctx}{P:Program}{st:ST}{V:Vn}{a:Act}{w:World}{ops:Array Oper}
theorem BX(r:Rel Γ st V a w)(ops:Array Oper):Rel Γ (dO ops st) V a w :=
 (r.weaken (fr':=st.fr.filter _) (fun p hp=>(aH.1 hp).1)).marks _
theorem Dm(hwf:st.wf=true):(dO ops st).wf=true:=by
 simp only[ST.wf,af]at hwf ⊢
 exact⟨an.2 fun p hp=>an.1 hwf.1 p (aH.1 hp).1,hwf.2⟩
end
section
variable{Γ:Ctx}{P:Program}{f:Go.Sy.Md}{R:Ending→World→Prop}{st:ST}{V:Vn}{ops:Array Oper}{kk:List Item}
def leftOf(ops:Array Oper)(listed:Array Bool):List Nat:=(List.range ops.size).filter fun i=>!listed.getD i true
theorem GK{listed:Array Bool}{i:Nat}(hs:listed.size=ops.size)(hi:i∈leftOf ops listed):(leftOf ops (listed.setIfInBounds i true)).length<(leftOf ops listed).length:=by
 have hi2:i<ops.size:=by have:=(aH.1 hi).1;simpa using this
 have hsub:leftOf ops (listed.setIfInBounds i true)=(leftOf ops listed).filter (fun x=>decide (x≠i)):=by
  unfold leftOf
  rw[List.filter_filter]
  apply gr
  intro x hx
  simp only[Array.getD_eq_getD_getElem?,Array.getElem?_setIfInBounds]
  by_cases e:i=x
  ·subst e;simp[hs,hi2]
  ·simp[e,Ne.symm e]
 rw[hsub]
 exact List.length_filter_lt_length_iff_exists.2 ⟨i,hi,by simp⟩
end
structure FO where
 sv:SV
 tight:Option TypeId
def o8(V:Vn)(e:TypeId)(t:ETy)(l:List t.den)(v:Value):Prop :=
 ∃g cur,v = .slice (some ⟨g,0,none⟩) l.length l.length∧V.H g=some (.cells cur e (0,0))∧cur.size=l.length * t.size∧l.length≤maxLen∧All2 (PR V.H) (l.flatMap t.enc) cur.toList
def FO.R(V:Vn)(fo:FO)(v:Value):Prop:=fo.sv.R V v∧∀e,fo.tight=some e→match fo.sv with
 |.x (.c (.pd (.lst t l)))=>o8 V e t l v
 |_=>False
theorem o8.lst{V:Vn}{e:TypeId}{t:ETy}{l:List t.den}{v:Value}(h:o8 V e t l v):PR V.H (.lst t l) v:=by
 obtain⟨g,cur,rfl,h1,h2,h3,h4⟩:=h
 refine .lst t l g 0 l.length cur e (0,0) h1 (av _) h3 (by omega) fun i x hx j p hp u hu=>?_
 obtain⟨u',h5,h6⟩:=h4.get (mX hx hp)
 rw[ba]at hu
 have:cur[i * t.size+j]?=some u':=by simpa using h5
 rw[hu]at this
 simp only[aa]at this
 subst this;exact h6
theorem SV.R_agree{n:Nat}{V V':Vn}(h:Agree n V V'){sv:SV}(hs:sv.lt n=true){v:Value}(hr:sv.R V v):sv.R V' v:=by
 cases sv with
 |x s=>exact SX.R_agree h hs hr
 |tup l=>obtain⟨us,e,h1⟩:=hr;exact⟨us,e,h1.mono fun a b ha hab=>SX.R_agree h (an.1 hs a ha) hab⟩
 |grd _ _ _=>exact hr
theorem o8.mono{V V':Vn}(hle:HLe V.H V'.H){e:TypeId}{t:ETy}{l:List t.den}{v:Value}(h:o8 V e t l v):o8 V' e t l v:=by
 obtain⟨g,cur,h0,h1,h2,h3,h4⟩:=h
 exact⟨g,cur,h0,hle _ _ h1,h2,h3,h4.mono fun _ _ _ hp=>hp.mono hle⟩
theorem FO.R_agree{n:Nat}{V V':Vn}(h:Agree n V V'){fo:FO}(hs:fo.sv.lt n=true){v:Value}(hr:fo.R V v):fo.R V' v:=by
 refine⟨SV.R_agree h hs hr.1,fun e he=>?_⟩
 have h2:=hr.2 e he
 split
 ·rename_i hsv;rw[hsv]at h2;exact o8.mono h.hle h2
 · rename_i hsv
   split at h2
   ·rename_i t l hsv2;exact absurd hsv2 (hsv t l)
   ·exact h2
theorem SV.R_frz{V:Vn}{z:Frz}(hz:z.ok V){sv:SV}{v:Value}(h:sv.R V v):(sv.frz z).R V v:=by
 cases sv with
 |x s=>exact SX.R_frz hz h
 |tup l=>obtain⟨us,e,h1⟩:=h;exact⟨us,e,by rw[All2.map_left];exact h1.mono fun _ _ _ hab=>SX.R_frz hz hab⟩
 |grd _ _ _=>exact h
section
variable{Γ:Ctx}{P:Program}{cfg:Cfg}{st:ST}{V:Vn}{a:Act}{w:World}{ops:Array Oper}{fs:List FO}{ck:List Chunk}
theorem WOk.chop(r:WOk Γ (ck++[.dead]) V w):WOk Γ ck V w:=by
 have hget:∀(i:Nat) (c:Chunk),ck[i]?=some c→(ck++[.dead])[i]?=some c:=fun i c h=>by rw[List.getElem?_append_left (List.getElem?_eq_some_iff.1 h).1];exact h
 exact{ext:=r.ext,imm:=r.imm,hle:=r.hle,frz:=r.frz,agr:=r.agr,own:=fun i c h=>r.own i c (hget i c h),base:=fun i c b h hb=>r.base i c b (hget i c h) hb,inj:=fun i j c d b hc hd hb1 hb2=>r.inj i j c d b (hget i c hc) (hget j d hd) hb1 hb2}
end
end Go.Ev
