/- An executor for function bodies of the model over data, part PQ: bodies by paths, the executor, and that it is sound. Conditions: those that its tree tells. -/
import Derived.Test.YtlhgnjmdopjpeaaGreatDoorPW
namespace Go.Ev
open Go.RowKit
/-! ### the body by paths -/
def sub:Code→List Nat→Code
 |c,[]=>c
 | c,s::p=>sub (match c,s with
   |.seq a _,0=>a
   |.seq _ b,1=>b
   |.cond _ a _,0=>a
   |.cond _ _ b,1=>b
   |.block _ a,0=>a
   |.loop a,0=>a
   |.scope a,0=>a
   |.rangeFunc _ _ a _,0=>a
   |.rangeFunc _ _ _ b,1=>b
   |c,n+2=>(findLabel c n).getD .skip
   |_,_=>.skip) p
theorem gW(c:Code)(p q:List Nat):sub c (p++q)=sub (sub c p) q:=by
 induction p generalizing c with
 |nil=>simp[sub]
 |cons s p ih=>simp only[bO,sub];exact ih _
inductive PI where
 |code (p:List Nat)
 |inBlock (id:Nat)
 |inLoop (p:List Nat)
 |inScope (p:List Nat)
 |ops (p:List Nat) (i:Nat)
 |opl (p:List Nat) (l:List Nat)
def opsOf:Code→Array Oper
 |.region _ ops _=>ops
 |_=>#[]
def PI.den(root:Code):PI→Item
 |.code p=>.code (sub root p)
 |.inBlock i=>.inBlock i
 |.inLoop p=>.inLoop (sub root p)
 |.inScope p=>.inScope (sub root p)
 |.ops p i=>.inRegion (opsOf (sub root p)) (List.range' i ((opsOf (sub root p)).size - i))
 |.opl p l=>.inRegion (opsOf (sub root p)) l
def lT(id:Nat):List PI→Option (List PI)
 |.inBlock i::k=>bif Nat.beq i id then some k else lT id k
 |_::k=>lT id k
 |[]=>none
def na(root:Code)(l:Nat):List PI→Option (List PI)
 | .inScope p::k=>match findLabel (sub root p) l with
   |some _=>some (.code (p++[l+2]) :: .inScope p::k)
   |none=>na root l k
 |_::k=>na root l k
 |[]=>none
theorem kC {root:Code} {id:Nat}:∀{k k':List PI},lT id k=some k'→exitTo id (k.map (PI.den root))=some (k'.map (PI.den root))
 |[],_,h=>by simp[lT]at h
 | x :: k,k',h=>by
   cases x with
   | inBlock i =>
     simp only[lT]at h
     simp only[aq,PI.den,exitTo]
     cases hb:Nat.beq i id
     · rw [hb]at h
       simp only[cond_false]at h
       have:(i==id)=false:=by
        cases hc:(i==id)
        ·rfl
        · have e:i=id:=by simpa using hc
          subst e;simp at hb
       simp only[this,dW,if_false]
       exact kC h
     · rw[hb]at h
       simp only[cond_true,aa]at h
       have:(i==id)=true:=by simpa using ak hb
       simp only[this,if_true,h]
   |_=>simp only[lT]at h;simp only[aq,PI.den,exitTo];exact kC h
theorem nc{root:Code}{l:Nat}:∀{k k':List PI},na root l k=some k'→gotoIn l (k.map (PI.den root))=some (k'.map (PI.den root))
 |[],_,h=>by simp[na]at h
 | x :: k,k',h=>by
   cases x with
   | inScope p =>
     simp only[na]at h
     simp only[aq,PI.den,gotoIn]
     split at h
     · rename_i c hc
       simp only[aa]at h
       subst h
       simp only[hc,aq,PI.den,gW]
       simp[sub,hc]
     · rename_i hc
       simp only[hc]
       exact nc h
   |_=>simp only[na]at h;simp only[aq,PI.den,gotoIn];exact nc h
inductive Tree where
 |ret (v:SV) (ck:List Chunk)
 |ite (b:Bool) (t e:Tree)
 |need (p:Prop) (t:Tree)
 |stop (todo:List PI) (st:ST)
def OT:Option Prop→Tree→Tree
 |none,t=>t
 |some p,t=>.need p t
def GS:List Prop→Tree→Tree
 |[],t=>t
 |p::r,t=>.need p (GS r t)
def iX(P:Program)(st:ST):List ResultVar→Option (List SX)
 |[]=>some []
 | .tmp t::r=>match bt st none (.tmp t),iX P st r with
   |some sv,some l=>some (sv::l)
   |_,_=>none
 | .cell t ty::r=>match bt st none (.tmp t),iX P st r with
   | some (.c (.loc i off)),some l=>match st.ck[i]? with
     |some (.cells cs _)=>(partOf P ty cs off).map fun sv=>sv::l
     |_=>none
   |_,_=>none
def w7(P:Program)(fn:Func)(st:ST):Option (List SX):=bif Nat.beq fn.endLine 999999999 then none else iX P st fn.results.toList
def iS(l:List SX):SV :=
 match l with
 |[sv]=>.x sv
 |l=>.tup l
def iG (st:ST) (v:SV):SV×List Chunk :=
 match fu st.ck (c8 st.ck (List.range st.m++v.refs))with
 | some ck'=>bif gD (c8 st.ck (List.range st.m++v.refs))&&within (c8 st.ck (List.range st.m++v.refs)) v.refs&&within (c8 st.ck (List.range st.m++v.refs)) (ck'.flatMap Chunk.refs)&&((c8 st.ck (List.range st.m++v.refs)).take st.m==List.range st.m)then
    (v.map (fun i=>c6 i (c8 st.ck (List.range st.m++v.refs)) 0),ck'.map (Chunk.map fun i=>c6 i (c8 st.ck (List.range st.m++v.refs)) 0))
   else(v,st.ck)
 |none=>(v,st.ck)
/-! which slots are still wanted: a weakening, so nothing hangs on its being exact -/
def Qp(o:Oper):List Nat:=o.op.operands.toList.filterMap fun |.tmp t=>some t |_=>none
def ins(x:Nat)(l:List Nat):List Nat:=bif l.any (Nat.beq x)then l else x::l
def vn(ops:Array Oper):List Oper→List Nat×List Nat→List Nat×List Nat
 |[],r=>r
 | o::l,(e,k) =>
   let gs:=(o.guard.bind fun j=>(ops[j.1]?).bind (·.dst)).toList
   let e':=(Qp o++gs).foldl (fun e x=>bif k.any (Nat.beq x)then e else ins x e) e
   vn ops l (e',match o.dst with |some d=>ins d k |none=>k)
def kZ:Code→List Nat→List Nat→List Nat×Option (List Nat)
 |.region _ ops _,e,k=>let r:=vn ops ops.toList (e,k);(r.1,some r.2)
 | .seq a b,e,k=>match kZ a e k with
   |(e',none)=>(kZ b e' k).1 |> fun e2=>(e2,none)
   |(e',some k')=>kZ b e' k'
 | .cond c a b,e,k =>
   let e0:=match c with |.tmp t=>bif k.any (Nat.beq t)then e else ins t e |_=>e
   match kZ a e0 k with
   | (e1,k1)=>match kZ b e1 k with
     |(e2,k2)=>(e2,match k1,k2 with |none,y=>y |some x,none=>some x |some x,some y=>some (x.filter fun z=>y.any (Nat.beq z)))
 |.block _ a,e,k=>match kZ a e k with |(e',k')=>(e',some (k'.getD k))
 |.loop a,e,k=>match kZ a e k with |(e',k')=>(e',some (k'.getD k))
 |.scope a,e,k=>match kZ a e k with |(e',k')=>(e',some (k'.getD k))
 |.rangeFunc (.tmp t) _ x y,e,k=>match kZ x (bif k.any (Nat.beq t)then e else ins t e) k with |(e1,_)=>(kZ y e1 k).1 |> fun e2=>(e2,some k)
 |.exit _,e,_=>(e,none)
 |.goto _,e,_=>(e,none)
 |.ret,e,_=>(e,none)
 |_,e,k=>(e,some k)
def tv(root:Code):List PI→List Nat→List Nat→List Nat
 |[],e,_=>e
 |.code p::r,e,k=>match kZ (sub root p) e k with |(e',k')=>tv root r e' (k'.getD k)
 |.ops p i::r,e,k=>match vn (opsOf (sub root p)) ((opsOf (sub root p)).toList.drop i) (e,k)with |(e',k')=>tv root r e' k'
 |.opl p _::r,e,k=>match vn (opsOf (sub root p)) (opsOf (sub root p)).toList (e,k)with |(e',k')=>tv root r e' k'
 |.inLoop p::r,e,k=>match kZ (sub root p) e k with |(e',_)=>tv root r e' k
 |.inScope p::r,e,k=>match kZ (sub root p) e []with |(e',_)=>tv root r e' k
 |.inBlock _::r,e,k=>tv root r e k
def Ns(fn:Func):List Nat:=fn.results.toList.map fun |.tmp t=>t |.cell t _=>t
def prune(fn:Func)(root:Code)(todo:List PI)(st:ST):ST :=
 let e:=(Ns fn).foldl (fun e x=>ins x e) (tv root todo [] [])
 gc {st with fr:=st.fr.filter fun p=>e.any (Nat.beq p.1),kn:=st.kn.filter fun x=>e.any (Nat.beq x)}
def refineSlot(c:Nat)(b:Bool)(fr:List (Nat×SV)):List (Nat×SV):=fr.map fun p=>bif Nat.beq p.1 c then(p.1,.x (.c (.pd (.bool b))))else p
def known (o:Oper) (st:ST):ST :=
 match o.dst with
 |none=>st
 | some d =>
   let l:=st.kn.filter fun x=>!Nat.beq x d
   {st with kn:=match o.op with
    |.move (.const (.bool _)) |.assign (.const (.bool _))=>d::l
    |.move (.tmp t) |.assign (.tmp t)=>bif st.kn.any (Nat.beq t)then d::l else l
    |_=>l}
def exec (P:Program) (cfg:Cfg) (fn:Func) (root:Code):Nat→List PI→ST→Tree
 |0,todo,st=>.stop todo st
 | n + 1,todo,st =>
   match todo with
   | []=>match w7 P fn st with
     |some l=>.ret (iG st (iS l)).1 (iG st (iS l)).2
     |none=>.stop todo (prune fn root todo st)
   |.inBlock _::k=>exec P cfg fn root n k st
   |.inScope _::k=>exec P cfg fn root n k st
   |.inLoop p::k=>.stop (.code p :: .inLoop p::k) (prune fn root (.code p :: .inLoop p::k) st)
   | .ops p i::k=>match(opsOf (sub root p))[i]? with
     |none=>exec P cfg fn root n k st
     | some o=>match op1 P cfg (opsOf (sub root p)) o st with
       |some (q,st')=>OT q (exec P cfg fn root n (.ops p (i+1)::k) (known o st'))
       |none=>.stop todo (prune fn root todo st)
   |.opl p l::k=>.stop todo st
   | .code p::k=>match sub root p with
     | .ret=>match w7 P fn st with
       |some l=>.ret (iG st (iS l)).1 (iG st (iS l)).2
       |none=>.stop todo (prune fn root todo st)
     |.skip=>exec P cfg fn root n k st
     |.label _=>exec P cfg fn root n k st
     |.seq _ _=>exec P cfg fn root n (.code (p++[0]) :: .code (p++[1])::k) st
     | .cond c _ _=>match bt st none c with
       | some (.c (.pd (.bool b)))=>match c with
         | .tmp t=>bif st.kn.any (Nat.beq t)then(match b with |true=>exec P cfg fn root n (.code (p++[0])::k) st |false=>exec P cfg fn root n (.code (p++[1])::k) st)
           else .ite b (exec P cfg fn root n (.code (p++[0])::k) {st with fr:=refineSlot t true st.fr,kn:=t::st.kn}) (exec P cfg fn root n (.code (p++[1])::k) {st with fr:=refineSlot t false st.fr,kn:=t::st.kn})
         |_=>.ite b (exec P cfg fn root n (.code (p++[0])::k) st) (exec P cfg fn root n (.code (p++[1])::k) st)
       |_=>.stop todo st
     |.block id _=>exec P cfg fn root n (.code (p++[0]) :: .inBlock id::k) st
     |.scope _=>exec P cfg fn root n (.code (p++[0]) :: .inScope (p++[0])::k) st
     |.loop _=>.stop (.code (p++[0]) :: .inLoop (p++[0])::k) (prune fn root (.code (p++[0]) :: .inLoop (p++[0])::k) st)
     | .exit id=>match lT id k with
       |some k'=>exec P cfg fn root n k' st
       |none=>.stop todo st
     | .goto l=>match na root l k with
       |some k'=>.stop k' (prune fn root k' st)
       |none=>.stop todo st
     | .region _ ops draw=>match draw with
       |false=>exec P cfg fn root n (.ops p 0::k) st
       | true=>match(bif P.follows .mixedOrders&&(jw ops&&(ka ops).all (fun d=>Nat.blt d st.n)&&st.wf)then AD P cfg (dz ops st) ops (cX ops.toList []) st.ck.length st.fr else none)with
         |some (ps,fs,E)=>GS ps (exec P cfg fn root n k (Et ops st fs E))
         |none=>.stop todo (prune fn root todo st)
     |_=>.stop todo (prune fn root todo st)
abbrev Out:=SV→List Chunk→Prop
def jr(Γ:Ctx)(Q:Out)(e:Ending)(w':World):Prop:=(∃v V' ret ck',e = .returned v∧Q ret ck'∧ret.R V' v∧WOk Γ.base ck' V' w')∨Γ.base.alt e w'
def J(P:Program)(f:Go.Sy.Md)(root:Code)(Γ:Ctx)(Q:Out)(todo:List PI)(st:ST):Prop :=
 hZ P Γ.H0→∀V a w,Rel Γ st V a w→Go.Sy.Fin P f (jr Γ Q) (todo.map (PI.den root)) a w
def Tree.J(P:Program)(f:Go.Sy.Md)(root:Code)(Γ:Ctx)(Q:Out):Tree→Prop
 |.ret v ck=>Q v ck
 |.ite b t e=>(b=true→t.J P f root Γ Q)∧(b=false→e.J P f root Γ Q)
 |.need p t=>p∧t.J P f root Γ Q
 |.stop todo st=>Ev.J P f root Γ Q todo st
section
variable{P:Program}{cfg:Cfg}{Γ:Ctx}{Q:Out}{f:Go.Sy.Md}{fn:Func}{root:Code}
theorem Qg{q:Option Prop}{t:Tree}(h:(OT q t).J P f root Γ Q):Holds q∧t.J P f root Γ Q:=by
 cases q with
 |none=>exact⟨trivial,h⟩
 |some p=>exact h
theorem EH:∀{ps:List Prop} {t:Tree},(GS ps t).J P f root Γ Q→(∀q∈ps,q)∧t.J P f root Γ Q
 |[],t,h=>⟨by simp,h⟩
 | p::ps,t,h=>by
   obtain⟨h1,h2⟩:=EH h.2
   exact⟨fun q hq=>by rcases aI.1 hq with rfl |hq;exact h.1;exact h1 q hq,h2⟩
def G7(tmps:Array Value):ResultVar→Sem Value
 |.tmp t=>pure (tmps.getD t undef)
 |.cell x t=>do loadVar t (←asAddr (tmps.getD x undef))
theorem Hg{w:World}(x:Addr):(asAddr (.pointer (some x))).run P w = .ok x w:=rfl
theorem oo{st:ST}{V:Vn}{a:Act}{w:World}(r:Rel Γ st V a w):∀(l:List ResultVar) (svs:List SX),iX P st l=some svs →
 ∃us,(l.mapM (G7 a.tmps)).run P w = .ok us w∧All2 (SX.R V) svs us
 |[],svs,h=>by simp[iX]at h;subst h;exact⟨[],rfl,.nil⟩
 | .tmp t::l,svs,h=>by
   simp only[iX]at h
   split at h
   · rename_i sv l' h1 h2
     simp only[aa]at h;subst h
     obtain⟨us,h3,h4⟩:=oo r l l' h2
     have e1:sv.R V (a.tmps.getD t undef):=aJ r (g:=none) trivial h1
     refine⟨a.tmps.getD t undef::us,?_,.cons e1 h4⟩
     simp only[List.mapM_cons,G7,Sem.run_bind,run_pure',Result.andThen_ok,h3]
   ·simp at h
 | .cell t ty::l,svs,h=>by
   simp only[iX]at h
   split at h
   · rename_i i off l' h1 h2
     split at h
     · rename_i cs e hck
       simp only[aj]at h
       obtain⟨sv,hv,rfl⟩:=h
       obtain⟨us,h3,h4⟩:=oo r l l' h2
       have e1:a.tmps.getD t undef = .pointer (some ⟨V.σ i,off,none⟩):=aJ r (g:=none) trivial h1
       obtain⟨cells,g1,g2⟩:=r.wok.own i _ hck
       obtain⟨v,hl,hR⟩:=om (P:=P) (o0:=0) g1 (fun j u hu=>by simpa using hu) g2 hv
       rw[ba]at hl
       refine⟨v::us,?_,.cons hR h4⟩
       simp only[List.mapM_cons,G7,Sem.run_bind,e1,Hg,run_pure',Result.andThen_ok,hl,h3]
     ·simp at h
   ·simp at h
theorem EP{st:ST}{V:Vn}{a:Act}{w:World}(r:Rel Γ st V a w){l:List SX}(h:iX P st fn.results.toList=some l) :
 ∃v,(results fn a.tmps).run P w = .ok v w∧(iS l).R V v:=by
 obtain⟨us,h1,h2⟩:=oo r _ _ h
 have hres:results fn a.tmps=(do let vs ←fn.results.mapM (G7 a.tmps);pure (if h:vs.size=1 then vs[0]else .tuple vs)):=rfl
 refine⟨if h:us.toArray.size=1 then us.toArray[0]else .tuple us.toArray,?_,?_⟩
 · rw[hres,Array.mapM_eq_mapM_toList]
   simp only[map_eq_pure_bind,Sem.run_bind]
   rw[h1]
   simp only[Result.andThen_ok,run_pure']
 · unfold iS
   split
   · rename_i sv
     cases h2 with
     |cons g1 g2=>cases g2;simp;exact g1
   · rename_i hne
     rw[dif_neg]
     ·exact⟨us,rfl,h2⟩
     · intro hsz
       have:l.length=1:=by rw[h2.length];simpa using hsz
       match l,this with
       |[x],_=>exact hne x rfl
theorem WOk.pick{ck:List Chunk}{V:Vn}{w:World}(r:WOk Γ ck V w){m:List Nat}{ck':List Chunk}{k:Nat}(hp:fu ck m=some ck')(h1:gD m=true)(h3:within m (ck'.flatMap Chunk.refs)=true)(h4:m.take k=List.range k)(hk:Γ.m≤k) :
 WOk Γ (ck'.map (Chunk.map fun i=>c6 i m 0)) (iy m V) w:=by
 have hpo:=nn (ck:=ck) (V:=V) (w:=w) r.own hp h3 h1
 refine{ext:=r.ext,imm:=r.imm,hle:=r.hle,frz:=r.frz,agr:=?_,own:=fun j c hc=>(hpo j c hc).1,base:=?_,inj:=?_}
 · intro i hi
   have hi2:i<k:=bW hi hk
   have:m[i]?=some i:=by
    have h6:(m.take k)[i]?=some i:=by rw[h4];simp[hi2]
    rw[List.getElem?_take,if_pos hi2]at h6;exact h6
   have h7:m.getD i 0=i:=by simp[List.getD_eq_getElem?_getD,this]
   simp only[iy,h7]
   exact r.agr i hi
 · intro j c b hc hb
   obtain⟨_,i,c0,h5,h6,h7⟩:=hpo j c hc
   rw[h7]at hb
   exact r.base i c0 b h6 hb
 · intro j k c d b hc hd hb1 hb2
   obtain⟨_,i,c0,h5,h6,h7⟩:=hpo j c hc
   obtain⟨_,i',d0,g5,g6,g7⟩:=hpo k d hd
   rw[h7]at hb1
   rw[g7]at hb2
   have:=r.inj i i' c0 d0 b h6 g6 hb1 hb2
   subst this
   exact eS h1 j k i h5 g5
theorem Q4{m:List Nat}{V:Vn}{sv:SV}(h:within m sv.refs=true){v:Value}(hr:sv.R V v):(sv.map fun i=>c6 i m 0).R (iy m V) v:=by
 cases sv with
 |x s=>exact SX.R_map (hU h) hr
 |tup l=>obtain⟨us,e,h1⟩:=hr;exact⟨us,e,lg (hU h) h1⟩
 |grd s b v=>exact hr.elim
theorem vQ{st:ST}{V:Vn}{a:Act}{w:World}(r:Rel Γ st V a w){sv:SV}{v:Value}(hr:sv.R V v):∃V',(iG st sv).1.R V' v∧WOk Γ (iG st sv).2 V' w:=by
 unfold iG
 generalize c8 st.ck (List.range st.m++sv.refs)=m
 split
 · rename_i ck' hp
   cases hb:(gD m&&within m sv.refs&&within m (ck'.flatMap Chunk.refs)&&(m.take st.m==List.range st.m))
   ·exact⟨V,hr,r.wok⟩
   · simp only[af,beq_iff_eq]at hb
     exact⟨iy m V,Q4 hb.1.1.2 hr,r.wok.pick hp hb.1.1.1 hb.1.2 hb.2 r.few.1⟩
 ·exact⟨V,hr,r.wok⟩
theorem Rel.prune{fn:Func}{root:Code}{todo:List PI}{st:ST}{V:Vn}{a:Act}{w:World}(r:Rel Γ st V a w):∃V',Rel Γ (prune fn root todo st) V' a w :=
 ((r.weaken (fr':=st.fr.filter _) (fun p hp=>(aH.1 hp).1)).marks _).gc
theorem Rel.known{o:Oper}{st:ST}{V:Vn}{a:Act}{w:World}(r:Rel Γ st V a w):Rel Γ (known o st) V a w:=by
 unfold Ev.known;split
 ·exact r
 ·exact r.marks _
theorem Rel.refineSlot{st:ST}{V:Vn}{a:Act}{w:World}(r:Rel Γ st V a w){c:Nat}{b:Bool}(hb:a.tmps.getD c undef = .bool b):Rel Γ {st with fr:=refineSlot c b st.fr} V a w:=by
 refine{size:=r.size,defers:=r.defers,slots:=?_,wok:=r.wok,few:=r.few}
 intro t sv hm
 obtain⟨⟨t',sv'⟩,h1,h2⟩:=aM.1 hm
 cases hbb:Nat.beq t' c
 · rw[hbb]at h2
   simp only[cond_false,ae]at h2
   obtain⟨rfl,rfl⟩:=h2
   exact r.slots _ _ h1
 · rw[hbb]at h2
   simp only[cond_true,ae]at h2
   obtain⟨rfl,rfl⟩:=h2
   rw[ak hbb]
   show SX.R V (.c (.pd (.bool b))) _
   rw[hb];exact .bool b
theorem Jp{st:ST}{V:Vn}{a:Act}{w:World}(r:Rel Γ st V a w){c:Operand}{b:Bool}(h:bt st none c=some (.c (.pd (.bool b)))):a.eval c = .bool b:=by
 have:=aJ r (g:=none) trivial h
 generalize a.eval c=u at this ⊢
 cases this;rfl
theorem cO.keep{V V':Vn}(h1:V'.σ=V.σ)(h2:V'.ov=V.ov)(hk:HKe V.H V'.H){a a':Act}(ht:a'.tmps=a.tmps){t:Nat}{sv:SV}(h:cO V a t sv):cO V' a' t sv:=by
 cases sv with
 |x s=>show s.R V' (a'.tmps.getD t undef);rw[ht];exact SX.R_keep h1 h2 hk h
 |tup l=>obtain⟨us,e,g⟩:=h;exact⟨us,by rw[ht];exact e,g.mono fun _ _ _ hab=>SX.R_keep h1 h2 hk hab⟩
 |grd s want v=>exact⟨fun hb=>by rw[ht];exact SX.R_keep h1 h2 hk (h.1 (by rw[ht]at hb;exact hb)),fun hb=>by rw[ht];exact h.2 (by rw[ht]at hb;exact hb)⟩
theorem Ob.mem_keep{V V':Vn}(h1:V'.σ=V.σ)(o:Ob):o.mem V'=o.mem V:=by cases o <;> simp[Ob.mem,h1]
theorem Chunk.holds_keep{V V':Vn}(h1:V'.σ=V.σ)(h2:V'.ov=V.ov)(hk:HKe V.H V'.H){w:World}{i:Nat}{c:Chunk}(h:c.holds V w i):c.holds V' w i:=by
 cases c with
 |dead=>trivial
 |cells cs e=>obtain⟨us,g1,g2⟩:=h;exact⟨us,by rw[h1];exact g1,g2.mono fun _ _ _ hab=>SC.R_keep h1 h2 hk hab⟩
 |own e t l=>obtain⟨xs,g1,g2,g3⟩:=h;exact⟨xs,by rw[h2];exact g1,g2.mono fun _ _ _ hab=>PR.keep hk hab,by rw[h1,h2];exact g3⟩
 |obj o=>exact⟨by rw[h1,Ob.mem_keep h1];exact h.1,by rw[h1,h2];exact h.2⟩
theorem Rel.take{st:ST}{V:Vn}{a:Act}{w:World}(r:Rel Γ st V a w):∃V',Rel Γ.base st V' {a with defers:=[]} (Go.Sy.took w Γ.ds):=by
 have hd:=r.defers
 cases hds:Γ.ds with
 | nil =>
   have e1:Γ.base=Γ:=by unfold Ctx.base;rw[hds]
   have e2:({a with defers:=[]}:Act)=a:=by
    have:=hd.eq
    rw[hds]at this
    cases a;simp only[cb]at this;simp[this]
   rw[e1,e2]
   exact⟨V,r⟩
 | cons D ds =>
   have e1:Γ.base={Γ with ds:=[],H0:=fun k=>if k∈D::ds then none else Γ.H0 k}:=by unfold Ctx.base;rw[hds]
   have hm:∀E∈D::ds,V.H E=some (.deferred (some []))∧Γ.w0.heap.size≤E:=fun E hE=>by
    have h:=hd.at' E (by rw[hds];exact hE)
    exact⟨r.wok.hle _ _ h.1,h.2⟩
   have hin:∀{k o},(if k∈D::ds then none else V.H k)=some o→k ∉ D::ds∧V.H k=some o:=fun{k o} h=>by
    split at h
    ·cases h
    ·rename_i hk;exact⟨hk,h⟩
   have hke:HKe V.H (fun k=>if k∈D::ds then none else V.H k):=fun k o h hq=>by
    show(if k∈D::ds then none else V.H k)=some o
    rw[if_neg fun hE=>?_]
    ·exact h
    · rw[(hm k hE).1]at h
      simp only[aa]at h
      exact hq _ h.symm
   have hs:=Go.Sy.took_same (D::ds) w
   have ho:=fun k hk=>Go.Sy.took_other (D::ds) w k hk
   refine⟨⟨fun k=>if k∈D::ds then none else V.H k,V.σ,V.ov⟩,?_⟩
   rw[e1]
   refine{size:=r.size,defers:=.nil rfl,slots:=fun t sv h=>cO.keep (V:=V) (V':=⟨fun k=>if k∈D::ds then none else V.H k,V.σ,V.ov⟩) (a:=a) rfl rfl hke rfl (r.slots t sv h),wok:=?_,few:=r.few}
   have hb:∀(i:Nat) (c:Chunk) (b:Nat),st.ck[i]?=some c→c.blk V i=some b→b ∉ D::ds:=fun i c b hc hbk hE=>by
    have:=(r.wok.base i c b hc hbk).2
    rw[(hm b hE).1]at this;cases this
   refine{ext:=⟨hs.1.trans r.wok.ext.os,hs.2.1.trans r.wok.ext.tape,hs.2.2.1.trans r.wok.ext.output,by rw[hs.2.2.2];exact r.wok.ext.size,fun k hk hn=>?_⟩,imm:=fun k o h=>?_,hle:=fun k o h=>?_,frz:=fun k h=>?_,agr:=r.wok.agr,own:=fun i c hc=>?_,base:=fun i c b hc hbk=>⟨(r.wok.base i c b hc hbk).1,?_⟩,inj:=r.wok.inj}
   · have hk':k<Γ.w0.heap.size:=hk
     rw[ho k fun hE=>by have:=(hm k hE).2;omega];exact r.wok.ext.block k hk hn
   · obtain⟨g1,g2⟩:=hin h
     rw[ho k g1];exact r.wok.imm k o g2
   · have h':(if k∈D::ds then none else Γ.H0 k)=some o:=h
     show(if k∈D::ds then none else V.H k)=some o
     split at h'
     ·cases h'
     ·rename_i hk;rw[if_neg hk];exact r.wok.hle k o h'
   · have h':(if k∈D::ds then none else V.H k)≠none:=h
     split at h'
     ·exact absurd rfl h'
     · rename_i hk
       rcases r.wok.frz k h' with g |g
       · left;show(if k∈D::ds then none else Γ.H0 k)≠none
         rw[if_neg hk];exact g
       ·exact .inr g
   ·exact Chunk.holds_keep (V:=V) (V':=⟨fun k=>if k∈D::ds then none else V.H k,V.σ,V.ov⟩) rfl rfl hke (Chunk.holds_kept (r.wok.own i c hc) fun b hbk=>ho b (hb i c b hc hbk))
   · show(if b∈D::ds then none else V.H b)=none
     split
     ·rfl
     ·exact(r.wok.base i c b hc hbk).2
def Sk(P:Program)(f:Go.Sy.Md)(fn:Func):Prop:=(f.rd=none∧P.funcs[f.fn]?=some fn)∨Nat.beq fn.endLine 999999999=true
theorem dA (ht:ag P cfg.tab) (hf:Sk P f fn):∀(n:Nat) (todo:List PI) (st:ST),(exec P cfg fn root n todo st).J P f root Γ Q→J P f root Γ Q todo st
 |0,todo,st,h=>h
 | n + 1, todo,st,h=>by
   intro hT V a w r
   have hto:TOk P cfg.tab Γ:=⟨ht,hT⟩
   have fin:∀{l:List SX},w7 P fn st=some l→Q (iG st (iS l)).1 (iG st (iS l)).2→∃v,(results fn a.tmps).run P (Go.Sy.took w Γ.ds) = .ok v (Go.Sy.took w Γ.ds)∧jr Γ Q (.returned v) (Go.Sy.took w Γ.ds):=by
    intro l hl0 hq
    have hl:iX P st fn.results.toList=some l:=by
     unfold w7 at hl0
     cases hb:Nat.beq fn.endLine 999999999
     ·rw[hb]at hl0;exact hl0
     ·rw[hb]at hl0;cases hl0
    obtain⟨V1,r1⟩:=r.take
    obtain⟨v,h1,h2⟩:=EP r1 hl
    obtain⟨V',h3,h4⟩:=vQ r1 h2
    exact⟨v,h1,.inl ⟨v,V',_,_,rfl,hq,h3,h4⟩⟩
   have hmk:∀D∈Γ.ds,w.heap[D]?=some (.deferred (some [])):=fun D hD=>r.wok.imm _ _ (r.wok.hle _ _ (r.defers.at' D hD).1)
   unfold exec at h
   split at h
   · split at h
     · rename_i l hl
       obtain⟨v,h1,h2⟩:=fin hl h
       exact hf.elim (fun hq=>Go.Sy.Fin.endM hq.1 hq.2 r.defers.eq r.defers.nodup hmk h1 h2) fun hn=>by unfold w7 at hl;rw[hn]at hl;cases hl
     · obtain⟨V',r'⟩:=r.prune (fn:=fn) (root:=root)
       exact h hT _ a w r'
   ·exact Go.Sy.Fin.inBlock (dA ht hf n _ st h hT V a w r)
   ·exact Go.Sy.Fin.inScope (dA ht hf n _ st h hT V a w r)
   · obtain⟨V',r'⟩:=r.prune (fn:=fn) (root:=root)
     exact Go.Sy.Fin.inLoop (h hT _ a w r')
   · rename_i p i k
     split at h
     · rename_i hn
       have hz:(opsOf (sub root p)).size - i=0:=by
        have:=Array.getElem?_eq_none_iff.1 hn;omega
       simp only[aq,PI.den,hz,List.range'_zero]
       exact Go.Sy.Fin.region_end (dA ht hf n _ st h hT V a w r)
     · rename_i o ho
       split at h
       · rename_i q st' hq
         obtain⟨hqp,hj⟩:=Qg h
         have hi:i<(opsOf (sub root p)).size:=(Array.getElem?_eq_some_iff.1 ho).1
         have hs:(opsOf (sub root p)).size - i=((opsOf (sub root p)).size - (i+1))+1:=by omega
         simp only[aq,PI.den]
         rw[hs,bG]
         exact Dt hto r ho hq hqp fun V' a' w' r'=>dA ht hf n (.ops p (i+1)::k) _ hj hT V' a' w' r'.known
       · obtain⟨V',r'⟩:=r.prune (fn:=fn) (root:=root)
         exact h hT _ a w r'
   ·exact h hT V a w r
   · rename_i p k
     simp only[aq,PI.den]
     split at h
     · rename_i hc
       rw[hc]
       split at h
       · rename_i l hl
         obtain⟨v,h1,h2⟩:=fin hl h
         exact hf.elim (fun hq=>Go.Sy.Fin.retM hq.1 hq.2 r.defers.eq r.defers.nodup hmk h1 h2) fun hn=>by unfold w7 at hl;rw[hn]at hl;cases hl
       · obtain⟨V',r'⟩:=r.prune (fn:=fn) (root:=root)
         have:=h hT _ a w r'
         simpa only[aq,PI.den,hc]using this
     ·rename_i hc;rw[hc];exact Go.Sy.Fin.skip (dA ht hf n _ st h hT V a w r)
     ·rename_i l hc;rw[hc];exact Go.Sy.Fin.label (dA ht hf n _ st h hT V a w r)
     · rename_i x y hc
       rw[hc]
       have:=dA ht hf n _ st h hT V a w r
       simp only[aq,PI.den,gW,hc]at this
       exact Go.Sy.Fin.seq this
     · rename_i c x y hc
       rw[hc]
       split at h
       · rename_i b hb
         have e1:a.eval c = .bool b:=Jp r hb
         refine Go.Sy.Fin.cond e1 ?_
         have go:∀(st1:ST) (j:Nat) (c':Code),sub (sub root p) [j]=c'→Rel Γ st1 V a w→(exec P cfg fn root n (.code (p++[j])::k) st1).J P f root Γ Q→Go.Sy.Fin P f (jr Γ Q) (.code c'::k.map (PI.den root)) a w:=by
          intro st1 j c' hc' r1 hj
          have:=dA ht hf n _ st1 hj hT V a w r1
          simp only[aq,PI.den,gW,hc']at this
          exact this
         have s0:sub (sub root p) [0]=x:=by rw[hc];rfl
         have s1:sub (sub root p) [1]=y:=by rw[hc];rfl
         split at h
         · rename_i t
           have e2:a.tmps.getD t undef = .bool b:=e1
           cases hkn:st.kn.any (Nat.beq t)
           · rw[hkn]at h
             simp only[cond_false]at h
             cases b
             ·exact go _ 1 y s1 ((r.refineSlot e2).marks _) (h.2 rfl)
             ·exact go _ 0 x s0 ((r.refineSlot e2).marks _) (h.1 rfl)
           · rw[hkn]at h
             simp only[cond_true]at h
             cases b
             ·exact go _ 1 y s1 r h
             ·exact go _ 0 x s0 r h
         · cases b
           ·exact go _ 1 y s1 r (h.2 rfl)
           ·exact go _ 0 x s0 r (h.1 rfl)
       · have:=h hT V a w r
         simpa only[aq,PI.den,hc]using this
     · rename_i id x hc
       rw[hc]
       have:=dA ht hf n _ st h hT V a w r
       simp only[aq,PI.den,gW,hc]at this
       exact Go.Sy.Fin.block this
     · rename_i x hc
       rw[hc]
       have:=dA ht hf n _ st h hT V a w r
       simp only[aq,PI.den,gW,hc]at this
       exact Go.Sy.Fin.scope this
     · rename_i x hc
       rw[hc]
       obtain⟨V',r'⟩:=r.prune (fn:=fn) (root:=root)
       have:=h hT _ a w r'
       simp only[aq,PI.den,gW,hc]at this
       exact Go.Sy.Fin.loop this
     · rename_i id hc
       rw[hc]
       split at h
       · rename_i k' hk
         exact Go.Sy.Fin.exit (kC hk) (dA ht hf n _ st h hT V a w r)
       · have:=h hT V a w r
         simpa only[aq,PI.den,hc]using this
     · rename_i l hc
       rw[hc]
       split at h
       · rename_i k' hk
         obtain⟨V',r'⟩:=r.prune (fn:=fn) (root:=root)
         exact Go.Sy.Fin.goto (nc hk) (h hT _ a w r')
       · have:=h hT V a w r
         simpa only[aq,PI.den,hc]using this
     · rename_i id ops draw hc
       rw[hc]
       split at h
       · refine Go.Sy.Fin.region ?_
         have:=dA ht hf n _ st h hT V a w r
         simp only[aq,PI.den,hc,opsOf,Nat.sub_zero]at this
         rw[List.range_eq_range']
         exact this
       · split at h
         · rename_i ps fs E hrun
           cases hb:(P.follows .mixedOrders&&(jw ops&&(ka ops).all (fun d=>Nat.blt d st.n)&&st.wf))
           ·rw[hb]at hrun;simp at hrun
           · rw[hb]at hrun
             simp only[cond_true]at hrun
             rw[af]at hb
             obtain⟨hps,hj⟩:=EH h
             exact Dl hto hb.1 hb.2 hrun hps r fun V' a' w' r'=>dA ht hf n _ _ hj hT V' a' w' r'
         · obtain⟨V',r'⟩:=r.prune (fn:=fn) (root:=root)
           have:=h hT _ a w r'
           simpa only[aq,PI.den,hc]using this
     · obtain⟨V',r'⟩:=r.prune (fn:=fn) (root:=root)
       have:=h hT _ a w r'
       simpa only[aq,PI.den]using this
end
end Go.Ev
