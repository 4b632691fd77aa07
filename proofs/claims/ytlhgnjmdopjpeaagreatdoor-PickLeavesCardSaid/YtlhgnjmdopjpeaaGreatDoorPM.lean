/- An executor for function bodies of the model over data, part PS: sums, differences, products of complex numbers: where their bits are not told, they are drawn. Conditions: none. An executor for function bodies of the model over data, part PM: one operation, whichever. Conditions: each operation's own, told as a proposition. -/
import Derived.Test.YtlhgnjmdopjpeaaGreatDoorPL
import Derived.Laws.ComplexArith
namespace Go.Ev
open Go.RowKit
theorem Fr.trans0{w w1 w2:World}(h:Fr (fun _=>False) w w1)(k:Fr (fun _=>False) w1 w2):Fr (fun _=>False) w w2 :=
 ⟨k.os.trans h.os,k.tape.trans h.tape,k.output.trans h.output,aC h.size k.size,fun b hb _=>(k.block b (bW hb h.size) id).trans (h.block b hb id)⟩
def mD(P:Program){α:Type}(m:Sem α)(w:World)(Φ:α→Prop):Prop:=∃r w',m.run P w = .ok r w'∧Φ r∧Fr (fun _=>False) w w'
theorem mD.bind{P:Program}{α β:Type}{m:Sem α}{f:α→Sem β}{w:World}{Φ:α→Prop}{Ψ:β→Prop}(h:mD P m w Φ)(k:∀r w',Φ r→mD P (f r) w' Ψ):mD P (m >>= f) w Ψ:=by
 obtain⟨r,w1,h1,h2,h3⟩:=h
 obtain⟨s,w2,k1,k2,k3⟩:=k r w1 h2
 exact⟨s,w2,by simp only[Sem.run_bind,h1,Result.andThen_ok,k1],k2,h3.trans0 k3⟩
theorem mD.pure{P:Program}{α:Type}{a:α}{w:World}{Φ:α→Prop}(h:Φ a):mD P (Pure.pure a:Sem α) w Φ:=⟨a,w,rfl,h,Fr.refl _ _⟩
theorem gm{P:Program}{op:BinOp}(hop:op = .add∨op = .sub∨op = .mul)(x y:Nat)(w:World):mD P (Op.Complex.arith op .f64 x y) w (fun r=>∀r0,floatBits op .f64 x y=some r0→r=r0):=by
 cases hb:floatBits op .f64 x y with
 |some r=>exact⟨r,w,run_carith w hb,fun r0 h=>by cases h;rfl,Fr.refl _ _⟩
 | none =>
   have hc:(choose (.nanBits .f64 x y)).run P w = .ok ((Question.nanBits .f64 x y).cut (w.tape w.drawn (.nanBits .f64 x y))) w.drew:=rfl
   have e:∃n,(Op.floatArith op .f64 x y).run P w = .ok (.float .f64 n) w.drew:=by
    refine⟨(Question.nanBits .f64 x y).cut (w.tape w.drawn (.nanBits .f64 x y)),?_⟩
    unfold floatBits at hb
    rcases hop with rfl |rfl |rfl <;> simp only at hb <;> simp only[Op.floatArith,Sem.run_bind,run_pure',Result.andThen_ok,hb,hc]
   obtain⟨n,e⟩:=e
   refine⟨n,w.drew,?_,(fun r0 h=>by cases h),⟨rfl,rfl,rfl,ar _,fun _ _ _=>rfl⟩⟩
   simp only[Op.Complex.arith,Sem.run_bind,e,Result.andThen_ok]
   rfl
theorem B2{P:Program}{op:BinOp}(hop:op = .add∨op = .sub)(t:TypeId)(a b c d:Nat)(w:World) :
 mD P (binOp op t (.complex .f64 a b) (.complex .f64 c d)) w (fun v=>∃re im,v = .complex .f64 re im∧∀p,cSumBits op .f64 a b c d=some p→p=(re,im)):=by
 have e:binOp op t (.complex .f64 a b) (.complex .f64 c d)=(Op.Complex.arith op .f64 a c >>= fun re=>Op.Complex.arith op .f64 b d >>= fun im=>Pure.pure (.complex .f64 re im)):=by
  rcases hop with rfl |rfl <;> rfl
 rw[e]
 have ho:op = .add∨op = .sub∨op = .mul:=by rcases hop with h |h <;> simp[h]
 refine(gm ho a c w).bind fun re w1 h1=>(gm ho b d w1).bind fun im w2 h2=>.pure ⟨re,im,rfl,fun p hp=>?_⟩
 unfold cSumBits at hp
 obtain⟨x,g1,hp⟩:=bind_some hp
 obtain⟨y,g2,hp⟩:=bind_some hp
 cases hp
 rw[h1 _ g1,h2 _ g2]
theorem M3{P:Program}(t:TypeId)(a b c d:Nat)(w:World) :
 mD P (binOp .mul t (.complex .f64 a b) (.complex .f64 c d)) w (fun v=>∃re im,v = .complex .f64 re im∧∀p,cMulBits a b c d=some p→p=(re,im)):=by
 have hp:mD P (Op.Complex.product a b c d) w (fun r=>∀p,cMulBits a b c d=some p→p=r):=by
  have e:Op.Complex.product a b c d=(Op.Complex.arith .mul .f64 a c >>= fun ac=>Op.Complex.arith .mul .f64 b d >>= fun bd=>Op.Complex.arith .sub .f64 ac bd >>= fun re =>
   Op.Complex.arith .mul .f64 a d >>= fun ad=>Op.Complex.arith .mul .f64 b c >>= fun bc=>Op.Complex.arith .add .f64 ad bc >>= fun im=>Pure.pure (re,im)):=rfl
  rw[e]
  refine(gm (.inr (.inr rfl)) a c w).bind fun ac w1 h1=>(gm (.inr (.inr rfl)) b d w1).bind fun bd w2 h2=>(gm (.inr (.inl rfl)) ac bd w2).bind fun re w3 h3 =>
   (gm (.inr (.inr rfl)) a d w3).bind fun ad w4 h4=>(gm (.inr (.inr rfl)) b c w4).bind fun bc w5 h5=>(gm (.inl rfl) ad bc w5).bind fun im w6 h6=>.pure fun p hp=>?_
  unfold cMulBits at hp
  obtain⟨x1,g1,hp⟩:=bind_some hp
  obtain⟨x2,g2,hp⟩:=bind_some hp
  obtain⟨x3,g3,hp⟩:=bind_some hp
  obtain⟨x4,g4,hp⟩:=bind_some hp
  obtain⟨x5,g5,hp⟩:=bind_some hp
  obtain⟨x6,g6,hp⟩:=bind_some hp
  cases hp
  have e1:=h1 _ g1;have e2:=h2 _ g2;subst e1;subst e2
  have e3:=h3 _ g3;have e4:=h4 _ g4;have e5:=h5 _ g5;subst e3;subst e4;subst e5
  rw[h6 _ g6]
 obtain⟨r,w',h1,h2,h3⟩:=hp
 refine⟨.complex .f64 r.1 r.2,w',?_,⟨_,_,rfl,fun p hp=>h2 p hp⟩,h3⟩
 have hk:¬(FloatKind.f64≠FloatKind.f64):=fun h=>h rfl
 simp only[binOp,Op.complexOp,Op.Complex.conv,if_neg hk,Sem.run_bind,run_pure',Result.andThen_ok,if_true,beq_self_eq_true,h1]
def opC(st:ST):Op→Option SX
 | .binOp op _ x y _=>match op,bu st none x,bu st none y with
   |.add,some (.c (.pd (.cx o))),some (.c (.pd (.cx o')))=>some (.c (.pd (.cx (o.bind fun p=>o'.bind fun q=>cSumBits .add .f64 p.1 p.2 q.1 q.2))))
   |.sub,some (.c (.pd (.cx o))),some (.c (.pd (.cx o')))=>some (.c (.pd (.cx (o.bind fun p=>o'.bind fun q=>cSumBits .sub .f64 p.1 p.2 q.1 q.2))))
   |.mul,some (.c (.pd (.cx o))),some (.c (.pd (.cx o')))=>some (.c (.pd (.cx (o.bind fun p=>o'.bind fun q=>cMulBits p.1 p.2 q.1 q.2))))
   |_,_,_=>none
 |_=>none
section
variable{Γ:Ctx}{P:Program}{st:ST}{V:Vn}{a:Act}{w:World}
theorem qU (r:Rel Γ st V a w) {o:Oper} {sx:SX} (h:opC st o.op=some sx):∃v w',(execOp a.eval o).run P w = .ok (.value v) w'∧sx.R V v∧Fr (fun _=>False) w w':=by
 obtain⟨dst,op,ty,pos,after,guard⟩:=o
 simp only at h
 cases op with
 | binOp op t x y yt =>
   simp only[opC]at h
   have main:∀(o o':Option (Nat×Nat)) (f:Nat×Nat→Nat×Nat→Option (Nat×Nat)),bu st none x=some (.c (.pd (.cx o)))→bu st none y=some (.c (.pd (.cx o'))) →
    (∀p q,mD P (binOp op t (.complex .f64 p.1 p.2) (.complex .f64 q.1 q.2)) w (fun v=>∃re im,v = .complex .f64 re im∧∀r,f p q=some r→r=(re,im))) →
    ∃v w',(execOp a.eval ⟨dst,.binOp op t x y yt,ty,pos,after,guard⟩).run P w = .ok (.value v) w'∧SX.R V (.c (.pd (.cx (o.bind fun p=>o'.bind fun q=>f p q)))) v∧Fr (fun _=>False) w w':=by
    intro o o' f hx hy hr
    have e1:PR V.H (.cx o) (a.eval x):=aI r (g:=none) trivial hx
    have e2:PR V.H (.cx o') (a.eval y):=aI r (g:=none) trivial hy
    generalize hq1:a.eval x=u1 at e1
    generalize hq2:a.eval y=u2 at e2
    cases e1 with |cx _ x1 x2 f1 =>
    cases e2 with |cx _ y1 y2 f2 =>
    obtain⟨v,w',h1,⟨re,im,rfl,h2⟩,h3⟩:=hr (x1,x2) (y1,y2)
    have hgd:(eqGuard op t x y (.complex .f64 x1 x2) (.complex .f64 y1 y2)).run P w = .ok () w:=gF op t x y ⟨by simp,by simp⟩
    refine⟨.complex .f64 re im,w',?_,.cx _ re im fun p hp=>?_,h3⟩
    · simp only[execOp,hq1,hq2]
      exact bg (by simp only[Sem.run_bind,hgd,Result.andThen_ok];exact h1)
    · cases o with
      |none=>simp at hp
      | some q1=>cases o' with
        |none=>simp at hp
        | some q2 =>
          simp only[Option.bind_some]at hp
          rw[f1 q1 rfl,f2 q2 rfl]at hp
          exact h2 p hp
   split at h
   · rename_i o o' hx hy
     simp only[aa]at h;subst h
     exact main o o' (fun p q=>cSumBits .add .f64 p.1 p.2 q.1 q.2) hx hy fun p q=>B2 (.inl rfl) t _ _ _ _ w
   · rename_i o o' hx hy
     simp only[aa]at h;subst h
     exact main o o' (fun p q=>cSumBits .sub .f64 p.1 p.2 q.1 q.2) hx hy fun p q=>B2 (.inr rfl) t _ _ _ _ w
   · rename_i o o' hx hy
     simp only[aa]at h;subst h
     exact main o o' (fun p q=>cMulBits p.1 p.2 q.1 q.2) hx hy fun p q=>M3 t _ _ _ _ w
   ·simp at h
 |_=>simp[opC]at h
end
def lM(st:ST):Nat→Nat→Bool→Option Prop
 |0,_,_=>none
 | n+1,s,want=>match lookup st.fr s with
   |some (.x (.c (.pd (.bool b))))=>some (b=want)
   |some (.grd s0 w0 (.c (.pd (.bool b))))=>(lM st n s0 w0).map fun p=>p∧b=want
   |_=>none
def dY(st:ST)(d:Option Tmp)(sv:SV):Option ST :=
 match d with
 |none=>some st
 |some t=>bif Nat.blt t st.n then some {st with fr:=bJ t sv st.fr}else none
def wt(P:Program)(st:ST)(g:Option (Nat×Bool))(op:Op):Option (Option Prop×SX) :=
 match opV P st g op with
 |some r=>some r
 |none=>(opB P st g op).map fun sx=>(none,sx)
def BH(st:ST)(op:Op):List Nat:=op.operands.toList.flatMap fun x=>match bu st none x with |some sx=>sx.refs |none=>[]
def qT (P:Program) (cfg:Cfg) (o:Oper) (st:ST):Option (Option Prop×ST) :=
 match wt P st none o.op with
 |some (p,sx)=>(dY st o.dst (.x sx)).map fun s=>(p,s)
 | none => match opM P cfg.tys st o.op with
   |some (sx,ck')=>(dY {st with ck:=ck'} o.dst (.x sx)).map fun s=>(none,s)
   | none => match opS P st o.op,o.dst with
     |some (p,ck'),none=>some (p,{st with ck:=ck'})
     | _,_=>match opX P st o.op with
       |some (p,sx,ck')=>(dY {st with ck:=ck'} o.dst (.x sx)).map fun s=>(p,s)
       | none=>match callee P cfg.tys st none o.op with
         | some (f,args)=>match goA P cfg.tab st f args with
           |some (p,ret,ck')=>(dY {st with ck:=ck'} o.dst ret).map fun s=>(p,s)
           | none=>match goB P cfg st f args with
             |some (p,ret)=>(dY st o.dst ret).map fun s=>(p,s)
             |none=>none
         |none=>none
def Mj (P:Program) (cfg:Cfg) (ops:Array Oper) (o:Oper) (j:Nat) (want:Bool) (st:ST):Option (Option Prop×ST) :=
 match(ops[j]?).bind (·.dst),o.dst with
 | some s,some d=>match lM st 8 s want with
   | some q=>bif Nat.blt d st.n && !Nat.beq s d then
      match wt P st (some (s,want)) o.op with
      |some (p,v)=>some (p.map (fun p=>q→p),{st with fr:=bJ d (.grd s want v) st.fr})
      | none=>match callee P cfg.tys st (some (s,want)) o.op with
        | some (f,args)=>match goB P cfg st f args with
          |some (p,.x v)=>some (p.map (fun p=>q→p),{st with fr:=bJ d (.grd s want v) st.fr})
          |_=>none
        |none=>none
     else none
   |none=>none
 |_,_=>none
def opT(st:ST):Op→Option (List SX)
 |.move x=>uV st x
 |.assign x=>uV st x
 |_=>none
def op1 (P:Program) (cfg:Cfg) (ops:Array Oper) (o:Oper) (st:ST):Option (Option Prop×ST) :=
 match o.guard with
 | none=>match qT P cfg o st with
   |some r=>some r
   | none=>match opT st o.op with
     |some l=>(dY st o.dst (.tup l)).map fun s=>(none,s)
     | none=>match opC st o.op with
       |some sx=>(dY st o.dst (.x sx)).map fun s=>(none,s)
       | none=>match ti cfg.tys st (order st.ck (BH st o.op))with
         |some st'=>qT P cfg o st'
         |none=>none
 |some (j,want)=>Mj P cfg ops o j want st
section
variable{Γ:Ctx}{P:Program}{cfg:Cfg}{st:ST}{V:Vn}{a:Act}{w:World}
theorem mg(r:Rel Γ st V a w){g:Option (Nat×Bool)}(hg:fF a g)
 {o:Oper} {p:Option Prop} {sx:SX} (h:wt P st g o.op=some (p,sx)) (hp:Holds p):∃v,(execOp a.eval o).run P w = .ok (.value v) w∧sx.R V v:=by
 unfold wt at h
 split at h
 · rename_i r' h1
   simp only[aa]at h
   subst h
   exact Jm r hg h1 hp
 · simp only[ak,ae]at h
   obtain⟨sv',h1,rfl,rfl⟩:=h
   exact Jk r hg h1
theorem oa{a':Act}{d:Nat}{sv:SV}{v:Value}(h:sv.R V v)(hv:a'.tmps.getD d undef=v):cB V a' d sv:=by
 cases sv with
 |x s=>show s.R V _;rw[hv];exact h
 |tup l=>show ∃us,a'.tmps.getD d undef=_∧_;rw[hv];exact h
 |grd s b v=>exact h.elim
theorem di(r:Rel Γ st V a w){d:Option Tmp}{sv:SV}{st':ST}(h:dY st d sv=some st'){v:Value}(hv:sv.R V v):Rel Γ st' V (a.put d v) w:=by
 cases d with
 |none=>simp only[dY,aa]at h;subst h;exact r
 | some t =>
   simp only[dY]at h
   cases hb:Nat.blt t st.n
   ·rw[hb]at h;simp at h
   · rw[hb]at h
     simp only[cond_true,aa]at h
     subst h
     exact r.put t sv _ (ay hb) fun a' _ h2=>oa hv h2
theorem kp(r:Rel Γ st V a w):∀(n s:Nat) (want:Bool) (q:Prop),lM st n s want=some q→a.tmps.getD s undef = .bool want→q
 |0,_,_,_,h,_=>by simp[lM]at h
 | n + 1,s,want,q,h,hs=>by
   simp only[lM]at h
   split at h
   · rename_i b hl
     simp only[aa]at h;subst h
     have h1:SX.R V (.c (.pd (.bool b))) (a.tmps.getD s undef):=r.slots s _ (cO hl)
     rw[hs]at h1
     cases h1
     rfl
   · rename_i s0 w0' b hl
     simp only[ak]at h
     obtain⟨q',h1,rfl⟩:=h
     have hk:=r.slots s _ (cO hl)
     by_cases hon:a.tmps.getD s0 undef = .bool w0'
     · have h2:=hk.1 hon
       rw[hs]at h2
       cases h2
       exact⟨kp r n s0 w0' q' h1 hon,rfl⟩
     · have h2:=hk.2 hon
       rw[hs]at h2
       simp[undef]at h2
   ·simp at h
theorem kb{ops:Array Oper}{o:Oper}{j s:Nat}{want:Bool}(hg:o.guard=some (j,want))(hs:(ops[j]?).bind (·.dst)=some s)(hon:a.tmps.getD s undef = .bool want):Region.wanted o (yielded ops a.tmps)=true:=by
 simp only[Region.wanted,hg]
 have:yielded ops a.tmps j=some want:=by
  unfold yielded
  rw[hs]
  simp only[Option.bind_some]
  have:a.tmps[s]?=some (.bool want):=by
   rw[Array.getD_eq_getD_getElem?]at hon
   cases h0:a.tmps[s]? with
   |none=>rw[h0]at hon;simp[undef]at hon
   |some x=>rw[h0]at hon;simpa using hon
  rw[this]
 rw[this];simp
theorem mr{ops:Array Oper}{o:Oper}{j s:Nat}{want:Bool}(hg:o.guard=some (j,want))(hs:(ops[j]?).bind (·.dst)=some s)(hon:¬a.tmps.getD s undef = .bool want):Region.wanted o (yielded ops a.tmps)=false:=by
 simp only[Region.wanted,hg]
 have:yielded ops a.tmps j≠some want:=by
  unfold yielded
  rw[hs]
  simp only[Option.bind_some]
  intro hc
  apply hon
  rw[Array.getD_eq_getD_getElem?]
  cases h0:a.tmps[s]? with
  |none=>rw[h0]at hc;simp at hc
  | some x =>
    rw[h0]at hc
    cases x <;> simp at hc
    subst hc
    rfl
 simpa using this
theorem iL{o:Oper}{ops:Array Oper}(h:o.guard=none):Region.wanted o (yielded ops a.tmps)=true:=by simp[Region.wanted,h]
theorem Rel.after(r:Rel Γ st V a w){w':World}{V':Vn}{ck':List Chunk}(hwf:st.wf=true)(hag:Agree st.ck.length V V')(hw:WOk Γ ck' V' w')(hl:st.ck.length≤ck'.length):Rel Γ {st with ck:=ck'} V' a w':=r.turn hwf hag hw hl
theorem Rp{f:Nat}{args:List SX}{p:Option Prop}{ret:SV}{ck':List Chunk}(h:goA P cfg.tab st f args=some (p,ret,ck')):st.wf=true∧st.ck.length≤ck'.length:=by
 unfold goA at h
 simp only at h
 split at h
 · rename_i ck0 hpk
   cases hb:(fX (c8 st.ck (args.flatMap SX.refs))&&within (c8 st.ck (args.flatMap SX.refs)) (args.flatMap SX.refs)&&within (c8 st.ck (args.flatMap SX.refs)) (ck0.flatMap Chunk.refs)&&gI P f&&st.wf)
   ·rw[hb]at h;simp at h
   · rw [hb]at h
     simp only[cond_true]at h
     simp only[af]at hb
     split at h
     · rename_i p' ret' ck2 htab
       cases hl:(Nat.ble (c8 st.ck (args.flatMap SX.refs)).length ck2.length&&hZ ret')
       ·rw[hl]at h;simp at h
       · rw[hl]at h
         simp only[cond_true,aa,ae]at h
         obtain⟨_,_,rfl⟩:=h
         exact⟨hb.2,by rw[au,cI];omega⟩
     ·simp at h
 ·simp at h
theorem vc{f:Nat}{args:List SX}{p:Option Prop}{ret:SV}{ck':List Chunk}(hA:goA P cfg.tab st f args=some (p,ret,ck')):gI P f=true:=by
 unfold goA at hA
 simp only at hA
 split at hA
 · rename_i ck0 hpk
   cases hb:(fX (c8 st.ck (args.flatMap SX.refs))&&within (c8 st.ck (args.flatMap SX.refs)) (args.flatMap SX.refs)&&within (c8 st.ck (args.flatMap SX.refs)) (ck0.flatMap Chunk.refs)&&gI P f&&st.wf)
   ·rw[hb]at hA;simp at hA
   ·simp only[af]at hb;exact hb.1.2
 ·simp at hA
theorem ve{f:Nat}{args:List SX}{p:Option Prop}{ret:SV}(hB:goB P cfg st f args=some (p,ret)):gI P f=true:=by
 unfold goB at hB
 split at hB
 · rename_i st1 args1 _
   cases hn:within [] (args1.flatMap SX.refs)
   ·rw[hn]at hB;simp at hB
   · rw[hn]at hB
     simp only[cond_true]at hB
     split at hB
     · rename_i p1 r1 c1 hA
       exact vc hA
     ·simp at hB
 ·simp at hB
theorem kz{f:Go.Sy.Md}{R:Ending→World→Prop}(ht:TOk P cfg.tab Γ)(r:Rel Γ st V a w){ops:Array Oper}{i:Nat}{o:Oper}(ho:ops[i]?=some o)(hw:Region.wanted o (yielded ops a.tmps)=true){p:Option Prop}{st':ST}(h:qT P cfg o st=some (p,st'))(hp:Holds p)
 {l:List Nat} {k:List Item} (hk:∀V' a' w',Rel Γ st' V' a' w'→Go.Sy.Fin P f R (.inRegion ops l::k) a' w'):Go.Sy.Fin P f R (.inRegion ops (i::l)::k) a w:=by
 unfold qT at h
 split at h
 · rename_i p' sx hv
   simp only[ak,ae]at h
   obtain⟨s,hs,rfl,rfl⟩:=h
   obtain⟨v,h1,h2⟩:=mg r (g:=none) trivial hv hp
   exact Go.Sy.Fin.op_value ho hw h1 (hk _ _ _ (di r hs h2))
 · split at h
   · rename_i sx ck' hm
     simp only[ak,ae]at h
     obtain⟨s,hs,rfl,rfl⟩:=h
     obtain⟨v,w',V',h1,h2,r'⟩:=xF r hm
     exact Go.Sy.Fin.op_value ho hw h1 (hk _ _ _ (di r' hs h2))
   · split at h
     · rename_i p' ck' hs hd
       simp only[aa,ae]at h
       obtain⟨rfl,rfl⟩:=h
       obtain⟨w',h1,r'⟩:=xG r hs hp
       refine Go.Sy.Fin.op_skip ho hw h1 (hk V _ _ ?_)
       rw[hd];exact r'
     · split at h
       · rename_i p' sx ck' hm
         simp only[ak,ae]at h
         obtain⟨s,hs,rfl,rfl⟩:=h
         obtain⟨v,w',V',h1,h2,r'⟩:=xH r hm hp
         exact Go.Sy.Fin.op_value ho hw h1 (hk _ _ _ (di r' hs h2))
       · split at h
         · rename_i g args hc
           split at h
           · rename_i p' ret ck' hA
             simp only[ak,ae]at h
             obtain⟨s,hs,rfl,rfl⟩:=h
             obtain⟨vs,h1,h2⟩:=gY (P:=P) r (g:=none) trivial hc (vc hA)
             obtain⟨_,_,h3⟩:=nD ht r hA hp h2
             obtain⟨hwf,hlen⟩:=Rp hA
             refine Go.Sy.Fin.op_call ho hw h1 (h3.mono fun e w2 hq=>?_)
             obtain⟨v,V',rfl,hr,hag,_,_,hwok⟩:=hq
             exact⟨v,rfl,hk _ _ _ (di (r.turn hwf hag hwok hlen) hs hr)⟩
           · split at h
             · rename_i p' ret hB
               simp only[ak,ae]at h
               obtain⟨s,hs,rfl,rfl⟩:=h
               obtain⟨vs,h1,h2⟩:=gY (P:=P) r (g:=none) trivial hc (ve hB)
               obtain⟨_,_,h3⟩:=nE ht r hB hp h2
               refine Go.Sy.Fin.op_call ho hw h1 (h3.mono fun e w2 hq=>?_)
               obtain⟨v,rfl,hr,hf,hwok⟩:=hq
               exact⟨v,rfl,hk _ _ _ (di (V:=V) ⟨r.size,r.defers,r.slots,hwok,r.few⟩ hs hr)⟩
             ·simp at h
         ·simp at h
theorem F9 {f:Go.Sy.Md} {R:Ending→World→Prop} (ht:TOk P cfg.tab Γ) (r:Rel Γ st V a w) {ops:Array Oper} {i:Nat} {o:Oper} (ho:ops[i]?=some o) {j:Nat} {want:Bool} (hg:o.guard=some (j,want)) {p:Option Prop} {st':ST} (h:Mj P cfg ops o j want st=some (p,st')) (hp:Holds p)
 {l:List Nat} {k:List Item} (hk:∀V' a' w',Rel Γ st' V' a' w'→Go.Sy.Fin P f R (.inRegion ops l::k) a' w'):Go.Sy.Fin P f R (.inRegion ops (i::l)::k) a w:=by
 unfold Mj at h
 split at h
 · rename_i s d hs hd
   split at h
   · rename_i q hq
     cases hb:(Nat.blt d st.n && !Nat.beq s d)
     ·rw[hb]at h;simp at h
     · rw [hb] at h
       simp only[cond_true]at h
       simp only[af,aE]at hb
       have hdn:d<st.n:=ay hb.1
       have hsd:s≠d:=fun e=>by rw[e]at hb;simp at hb
       have off:∀(v:SX) V1 w1,¬a.tmps.getD s undef = .bool want→Rel Γ st V1 a w1→Rel Γ {st with fr:=bJ d (.grd s want v) st.fr} V1 (a.put (some d) undef) w1:=fun v V1 w1 hon r1 =>
        r1.put d (.grd s want v) _ hdn fun a' ha h2=>⟨fun h3=>absurd (by rw[←ha s hsd];exact h3) hon,fun _=>h2⟩
       have on:∀(v:SX) V1 w1 u,a.tmps.getD s undef = .bool want→v.R V1 u→Rel Γ st V1 a w1→Rel Γ {st with fr:=bJ d (.grd s want v) st.fr} V1 (a.put (some d) u) w1:=fun v V1 w1 u hon hv r1 =>
        r1.put d (.grd s want v) _ hdn fun a' ha h2=>⟨fun _=>by rw[h2];exact hv,fun h3=>absurd (by rw[ha s hsd];exact hon) h3⟩
       split at h
       · rename_i p' v hv
         simp only[aa,ae]at h
         obtain⟨rfl,rfl⟩:=h
         by_cases hon:a.tmps.getD s undef = .bool want
         · obtain⟨u,h1,h2⟩:=mg r (g:=some (s,want)) hon hv (by
            cases p' with
            |none=>trivial
            |some p'=>exact hp (kp r 8 s want q hq hon))
           refine Go.Sy.Fin.op_value ho (kb hg hs hon) h1 ?_
           rw[hd]
           exact hk V _ _ (on v V w u hon h2 r)
         · refine Go.Sy.Fin.op_unwanted ho (mr hg hs hon) ?_
           rw[hd]
           exact hk V _ _ (off v V w hon r)
       · split at h
         · rename_i g args hc
           split at h
           · rename_i p' v hB
             simp only[aa,ae]at h
             obtain⟨rfl,rfl⟩:=h
             by_cases hon:a.tmps.getD s undef = .bool want
             · obtain⟨vs,h1,h2⟩:=gY (P:=P) r (g:=some (s,want)) hon hc (ve hB)
               obtain⟨_,_,h3⟩:=nE ht r hB (by
                cases p' with
                |none=>trivial
                |some p'=>exact hp (kp r 8 s want q hq hon)) h2
               refine Go.Sy.Fin.op_call ho (kb hg hs hon) h1 (h3.mono fun e w2 hq=>?_)
               obtain⟨u,rfl,hr,hf,hwok⟩:=hq
               refine⟨u,rfl,?_⟩
               rw[hd]
               exact hk V _ _ (on v V w2 u hon hr ⟨r.size,r.defers,r.slots,hwok,r.few⟩)
             · refine Go.Sy.Fin.op_unwanted ho (mr hg hs hon) ?_
               rw[hd]
               exact hk V _ _ (off v V w hon r)
           ·simp at h
         ·simp at h
   ·simp at h
 ·simp at h
theorem qV(r:Rel Γ st V a w){o:Oper}{l:List SX}(h:opT st o.op=some l):∃v,(execOp a.eval o).run P w = .ok (.value v) w∧(SV.tup l).R V v:=by
 obtain⟨dst,op,ty,pos,after,guard⟩:=o
 simp only at h
 cases op <;> first |(simp[opT]at h;done) |skip
 all_goals
  obtain⟨us,e1,e2⟩:=sG r h
  exact⟨_,rfl,us,e1,e2⟩
theorem CN{f:Go.Sy.Md}{R:Ending→World→Prop}(ht:TOk P cfg.tab Γ)(r:Rel Γ st V a w){ops:Array Oper}{i:Nat}{o:Oper}(ho:ops[i]?=some o){p:Option Prop}{st':ST}(h:op1 P cfg ops o st=some (p,st'))(hp:Holds p)
 {l:List Nat} {k:List Item} (hk:∀V' a' w',Rel Γ st' V' a' w'→Go.Sy.Fin P f R (.inRegion ops l::k) a' w'):Go.Sy.Fin P f R (.inRegion ops (i::l)::k) a w:=by
 unfold op1 at h
 split at h
 · rename_i hg
   split at h
   · rename_i x hx
     simp only[aa]at h
     subst h
     exact kz ht r ho (iL hg) hx hp hk
   · split at h
     · rename_i l hl
       simp only[ak,ae]at h
       obtain⟨s,hs,rfl,rfl⟩:=h
       obtain⟨v,h1,h2⟩:=qV (P:=P) r hl
       exact Go.Sy.Fin.op_value ho (iL hg) h1 (hk _ _ _ (di r hs h2))
     · split at h
       · rename_i sx hc
         simp only[ak,ae]at h
         obtain⟨s,hs,rfl,rfl⟩:=h
         obtain⟨v,w',h1,h2,h3⟩:=qU (P:=P) r hc
         exact Go.Sy.Fin.op_value ho (iL hg) h1 (hk _ _ _ (di (V:=V) ⟨r.size,r.defers,r.slots,r.wok.kept h3,r.few⟩ hs h2))
       · split at h
         · rename_i st1 hf
           obtain⟨V1,r1⟩:=tj r hf
           exact kz ht r1 ho (iL hg) h hp hk
         ·simp at h
 · rename_i j want hg
   exact F9 ht r ho hg h hp hk
end
end Go.Ev
