/- An executor for function bodies of the model over data, part PQ: bodies by paths, the executor, and that it is sound. Conditions: those that its tree tells. -/
import Derived.Test.YtpfidgnkokidoaaGreatDoorPW
namespace Go.Ev
open Go.RowKit
/-! ### the body by paths -/
def sub:Code→List Nat→Code
 | c,[]=>c
 | c,s::p=>sub (match c,s with
   | .seq a _,0=>a
   | .seq _ b,1=>b
   | .cond _ a _,0=>a
   | .cond _ _ b,1=>b
   | .block _ a,0=>a
   | .loop a,0=>a
   | .scope a,0=>a
   | c,n+2=>(findLabel c n).getD .skip
   | _,_=>.skip) p
theorem jx (c:Code) (p q:List Nat):sub c (p++q)=sub (sub c p) q:=by
 induction p generalizing c with
 | nil=>simp [sub]
 | cons s p ih=>simp only [bC,sub]; exact ih _
inductive PI where
 | code (p:List Nat)
 | inBlock (id:Nat)
 | inLoop (p:List Nat)
 | inScope (p:List Nat)
 | ops (p:List Nat) (i:Nat)
 | opl (p:List Nat) (l:List Nat)
def opsOf:Code→Array Oper
 | .region _ ops _=>ops
 | _=>#[]
def PI.den (root:Code):PI→Item
 | .code p=>.code (sub root p)
 | .inBlock i=>.inBlock i
 | .inLoop p=>.inLoop (sub root p)
 | .inScope p=>.inScope (sub root p)
 | .ops p i=>.inRegion (opsOf (sub root p)) (List.range' i ((opsOf (sub root p)).size - i))
 | .opl p l=>.inRegion (opsOf (sub root p)) l
def mo (id:Nat):List PI→Option (List PI)
 | .inBlock i::k=>bif Nat.beq i id then some k else mo id k
 | _::k=>mo id k
 | []=>none
def mG (root:Code) (l:Nat):List PI→Option (List PI)
 | .inScope p::k=>match findLabel (sub root p) l with
   | some _=>some (.code (p++[l+2]) :: .inScope p::k)
   | none=>mG root l k
 | _::k=>mG root l k
 | []=>none
theorem mP {root:Code} {id:Nat}:∀ {k k':List PI},mo id k=some k'→exitTo id (k.map (PI.den root))=some (k'.map (PI.den root))
 | [],_,h=>by simp [mo] at h
 | x :: k,k',h=>by
   cases x with
   | inBlock i =>
     simp only [mo] at h
     simp only [ay,PI.den,exitTo]
     cases hb:Nat.beq i id
     · rw [hb] at h
       simp only [cond_false] at h
       have:(i==id)=false:=by
        cases hc:(i==id)
        · rfl
        · have e:i=id:=by simpa using hc
          subst e; simp at hb
       simp only [this,cD,if_false]
       exact mP h
     · rw [hb] at h
       simp only [cond_true,aa] at h
       have:(i==id)=true:=by simpa using ar hb
       simp only [this,if_true,h]
   | _=>simp only [mo] at h; simp only [ay,PI.den,exitTo]; exact mP h
theorem mQ {root:Code} {l:Nat}:∀ {k k':List PI},mG root l k=some k'→gotoIn l (k.map (PI.den root))=some (k'.map (PI.den root))
 | [],_,h=>by simp [mG] at h
 | x :: k,k',h=>by
   cases x with
   | inScope p =>
     simp only [mG] at h
     simp only [ay,PI.den,gotoIn]
     split at h
     · rename_i c hc
       simp only [aa] at h
       subst h
       simp only [hc,ay,PI.den,jx]
       simp [sub,hc]
     · rename_i hc
       simp only [hc]
       exact mQ h
   | _=>simp only [mG] at h; simp only [ay,PI.den,gotoIn]; exact mQ h
inductive Tree where
 | ret (v:SV) (ck:List Chunk)
 | ite (b:Bool) (t e:Tree)
 | need (p:Prop) (t:Tree)
 | stop (todo:List PI) (st:ST)
def Lh:Option Prop→Tree→Tree
 | none,t=>t
 | some p,t=>.need p t
def yT:List Prop→Tree→Tree
 | [],t=>t
 | p::r,t=>.need p (yT r t)
def kM (P:Program) (st:ST):List ResultVar→Option (List SX)
 | []=>some []
 | .tmp t::r=>match bR st none (.tmp t),kM P st r with
   | some sv,some l=>some (sv::l)
   | _,_=>none
 | .cell t ty::r=>match bR st none (.tmp t),kM P st r with
   | some (.c (.loc i off)),some l=>match st.ck[i]? with
     | some (.cells cs _)=>(partOf P ty cs off).map fun sv=>sv::l
     | _=>none
   | _,_=>none
def qC (l:List SX):SV :=
 match l with
 | [sv]=>.x sv
 | l=>.tup l
def oG (st:ST) (v:SV):SV×List Chunk :=
 match fL st.ck (dz st.ck (List.range st.m++v.refs)) with
 | some ck'=>bif gE (dz st.ck (List.range st.m++v.refs))&&within (dz st.ck (List.range st.m++v.refs)) v.refs&&within (dz st.ck (List.range st.m++v.refs)) (ck'.flatMap Chunk.refs)&&((dz st.ck (List.range st.m++v.refs)).take st.m==List.range st.m) then
    (v.map (fun i=>dx i (dz st.ck (List.range st.m++v.refs)) 0),ck'.map (Chunk.map fun i=>dx i (dz st.ck (List.range st.m++v.refs)) 0))
   else (v,st.ck)
 | none=>(v,st.ck)
/-! which slots are still wanted: a weakening, so nothing hangs on its being exact -/
def Nr (o:Oper):List Nat:=o.op.operands.toList.filterMap fun | .tmp t=>some t | _=>none
def ins (x:Nat) (l:List Nat):List Nat:=bif l.any (Nat.beq x) then l else x::l
def uR (ops:Array Oper):List Oper→List Nat×List Nat→List Nat×List Nat
 | [],r=>r
 | o::l,(e,k) =>
   let gs:=(o.guard.bind fun j=>(ops[j.1]?).bind (·.dst)).toList
   let e':=(Nr o++gs).foldl (fun e x=>bif k.any (Nat.beq x) then e else ins x e) e
   uR ops l (e',match o.dst with | some d=>ins d k | none=>k)
def kz:Code→List Nat→List Nat→List Nat×Option (List Nat)
 | .region _ ops _,e,k=>let r:=uR ops ops.toList (e,k); (r.1,some r.2)
 | .seq a b,e,k=>match kz a e k with
   | (e',none)=>(kz b e' k).1 |> fun e2=>(e2,none)
   | (e',some k')=>kz b e' k'
 | .cond c a b,e,k =>
   let e0:=match c with | .tmp t=>bif k.any (Nat.beq t) then e else ins t e | _=>e
   match kz a e0 k with
   | (e1,k1)=>match kz b e1 k with
     | (e2,k2)=>(e2,match k1,k2 with | none,y=>y | some x,none=>some x | some x,some y=>some (x.filter fun z=>y.any (Nat.beq z)))
 | .block _ a,e,k=>match kz a e k with | (e',k')=>(e',some (k'.getD k))
 | .loop a,e,k=>match kz a e k with | (e',k')=>(e',some (k'.getD k))
 | .scope a,e,k=>match kz a e k with | (e',k')=>(e',some (k'.getD k))
 | .rangeFunc (.tmp t) _ x y,e,k=>match kz x (ins t e) k with | (e1,_)=>(kz y e1 k).1 |> fun e2=>(e2,some k)
 | .exit _,e,_=>(e,none)
 | .goto _,e,_=>(e,none)
 | .ret,e,_=>(e,none)
 | _,e,k=>(e,some k)
def sS (root:Code):List PI→List Nat→List Nat→List Nat
 | [],e,_=>e
 | .code p::r,e,k=>match kz (sub root p) e k with | (e',k')=>sS root r e' (k'.getD k)
 | .ops p i::r,e,k=>match uR (opsOf (sub root p)) ((opsOf (sub root p)).toList.drop i) (e,k) with | (e',k')=>sS root r e' k'
 | .opl p _::r,e,k=>match uR (opsOf (sub root p)) (opsOf (sub root p)).toList (e,k) with | (e',k')=>sS root r e' k'
 | .inLoop p::r,e,k=>match kz (sub root p) e k with | (e',_)=>sS root r e' k
 | .inScope p::r,e,k=>match kz (sub root p) e [] with | (e',_)=>sS root r e' k
 | .inBlock _::r,e,k=>sS root r e k
def KE (fn:Func):List Nat:=fn.results.toList.map fun | .tmp t=>t | .cell t _=>t
def prune (fn:Func) (root:Code) (todo:List PI) (st:ST):ST :=
 let e:=(KE fn).foldl (fun e x=>ins x e) (sS root todo [] [])
 gc { st with fr:=st.fr.filter fun p=>e.any (Nat.beq p.1),kn:=st.kn.filter fun x=>e.any (Nat.beq x) }
def refineSlot (c:Nat) (b:Bool) (fr:List (Nat×SV)):List (Nat×SV):=fr.map fun p=>bif Nat.beq p.1 c then (p.1,.x (.c (.pd (.bool b)))) else p
def known (o:Oper) (st:ST):ST :=
 match o.dst with
 | none=>st
 | some d =>
   let l:=st.kn.filter fun x=>!Nat.beq x d
   { st with kn:=match o.op with
    | .move (.const (.bool _)) | .assign (.const (.bool _))=>d::l
    | .move (.tmp t) | .assign (.tmp t)=>bif st.kn.any (Nat.beq t) then d::l else l
    | _=>l }
def exec (P:Program) (cfg:Cfg) (fn:Func) (root:Code):Nat→List PI→ST→Tree
 | 0,todo,st=>.stop todo st
 | n + 1,todo,st =>
   match todo with
   | []=>match kM P st fn.results.toList with
     | some l=>.ret (oG st (qC l)).1 (oG st (qC l)).2
     | none=>.stop todo st
   | .inBlock _::k=>exec P cfg fn root n k st
   | .inScope _::k=>exec P cfg fn root n k st
   | .inLoop p::k=>.stop (.code p :: .inLoop p::k) (prune fn root (.code p :: .inLoop p::k) st)
   | .ops p i::k=>match (opsOf (sub root p))[i]? with
     | none=>exec P cfg fn root n k st
     | some o=>match op1 P cfg (opsOf (sub root p)) o st with
       | some (q,st')=>Lh q (exec P cfg fn root n (.ops p (i+1)::k) (known o st'))
       | none=>.stop todo (prune fn root todo st)
   | .opl p l::k=>.stop todo st
   | .code p::k=>match sub root p with
     | .ret=>match kM P st fn.results.toList with
       | some l=>.ret (oG st (qC l)).1 (oG st (qC l)).2
       | none=>.stop todo st
     | .skip=>exec P cfg fn root n k st
     | .label _=>exec P cfg fn root n k st
     | .seq _ _=>exec P cfg fn root n (.code (p++[0]) :: .code (p++[1])::k) st
     | .cond c _ _=>match bR st none c with
       | some (.c (.pd (.bool b)))=>match c with
         | .tmp t=>bif st.kn.any (Nat.beq t) then (match b with | true=>exec P cfg fn root n (.code (p++[0])::k) st | false=>exec P cfg fn root n (.code (p++[1])::k) st)
           else .ite b (exec P cfg fn root n (.code (p++[0])::k) { st with fr:=refineSlot t true st.fr,kn:=t::st.kn }) (exec P cfg fn root n (.code (p++[1])::k) { st with fr:=refineSlot t false st.fr,kn:=t::st.kn })
         | _=>.ite b (exec P cfg fn root n (.code (p++[0])::k) st) (exec P cfg fn root n (.code (p++[1])::k) st)
       | _=>.stop todo st
     | .block id _=>exec P cfg fn root n (.code (p++[0]) :: .inBlock id::k) st
     | .scope _=>exec P cfg fn root n (.code (p++[0]) :: .inScope (p++[0])::k) st
     | .loop _=>.stop (.code (p++[0]) :: .inLoop (p++[0])::k) (prune fn root (.code (p++[0]) :: .inLoop (p++[0])::k) st)
     | .exit id=>match mo id k with
       | some k'=>exec P cfg fn root n k' st
       | none=>.stop todo st
     | .goto l=>match mG root l k with
       | some k'=>.stop k' (prune fn root k' st)
       | none=>.stop todo st
     | .region _ ops draw=>match draw with
       | false=>exec P cfg fn root n (.ops p 0::k) st
       | true=>match (bif P.follows .mixedOrders&&(jC ops&&(fO ops).all (fun d=>Nat.blt d st.n)&&st.wf) then lV P cfg (bS ops st) ops st.fr ops.toList [] else none) with
         | some (ps,fs)=>yT ps (exec P cfg fn root n k (kI (bS ops st) ops fs (List.range ops.size)))
         | none=>match (bif P.follows .mixedOrders&&(jt ops&&(fO ops).all (fun d=>Nat.blt d st.n)&&st.wf) then yy P cfg (dS ops st) ops (dr ops.toList []) st.ck.length else none) with
           | some (ps,fs,E)=>yT ps (exec P cfg fn root n k (Dp ops st fs E))
           | none=>.stop todo (prune fn root todo st)
     | _=>.stop todo (prune fn root todo st)
abbrev Out:=SV→List Chunk→Prop
def yo (Γ:Ctx) (Q:Out) (e:Ending) (w':World):Prop:=∃ v V' ret ck',e = .returned v∧Q ret ck'∧ret.R V' v∧WOk Γ ck' V' w'
def J (P:Program) (f:FuncId) (root:Code) (Γ:Ctx) (Q:Out) (todo:List PI) (st:ST):Prop :=
 lD P Γ.H0→∀ V a w,Rel Γ st V a w→Go.Sy.Fin P f (yo Γ Q) (todo.map (PI.den root)) a w
def Tree.J (P:Program) (f:FuncId) (root:Code) (Γ:Ctx) (Q:Out):Tree→Prop
 | .ret v ck=>Q v ck
 | .ite b t e=>(b=true→t.J P f root Γ Q)∧(b=false→e.J P f root Γ Q)
 | .need p t=>p∧t.J P f root Γ Q
 | .stop todo st=>Ev.J P f root Γ Q todo st
section
variable {P:Program} {cfg:Cfg} {Γ:Ctx} {Q:Out} {f:FuncId} {fn:Func} {root:Code}
theorem LP {q:Option Prop} {t:Tree} (h:(Lh q t).J P f root Γ Q):Holds q∧t.J P f root Γ Q:=by
 cases q with
 | none=>exact ⟨trivial,h⟩
 | some p=>exact h
theorem wv:∀ {ps:List Prop} {t:Tree},(yT ps t).J P f root Γ Q→(∀ q∈ps,q)∧t.J P f root Γ Q
 | [],t,h=>⟨by simp,h⟩
 | p::ps,t,h=>by
   obtain ⟨h1,h2⟩:=wv h.2
   exact ⟨fun q hq=>by rcases aN.1 hq with rfl | hq; exact h.1; exact h1 q hq,h2⟩
def FY (tmps:Array Value):ResultVar→Sem Value
 | .tmp t=>pure (tmps.getD t undef)
 | .cell x t=>do loadVar t (← asAddr (tmps.getD x undef))
theorem FE {w:World} (x:Addr):(asAddr (.pointer (some x))).run P w = .ok x w:=rfl
theorem nD {st:ST} {V:Vn} {a:Act} {w:World} (r:Rel Γ st V a w):∀ (l:List ResultVar) (svs:List SX),kM P st l=some svs →
 ∃ us,(l.mapM (FY a.tmps)).run P w = .ok us w∧All2 (SX.R V) svs us
 | [],svs,h=>by simp [kM] at h; subst h; exact ⟨[],rfl,.nil⟩
 | .tmp t::l,svs,h=>by
   simp only [kM] at h
   split at h
   · rename_i sv l' h1 h2
     simp only [aa] at h; subst h
     obtain ⟨us,h3,h4⟩:=nD r l l' h2
     have e1:sv.R V (a.tmps.getD t undef):=aK r (g:=none) trivial h1
     refine ⟨a.tmps.getD t undef::us,?_,.cons e1 h4⟩
     simp only [List.mapM_cons,FY,Sem.run_bind,run_pure',Result.andThen_ok,h3]
   · simp at h
 | .cell t ty::l,svs,h=>by
   simp only [kM] at h
   split at h
   · rename_i i off l' h1 h2
     split at h
     · rename_i cs e hck
       simp only [av] at h
       obtain ⟨sv,hv,rfl⟩:=h
       obtain ⟨us,h3,h4⟩:=nD r l l' h2
       have e1:a.tmps.getD t undef = .pointer (some ⟨V.σ i,off,none⟩):=aK r (g:=none) trivial h1
       obtain ⟨cells,g1,g2⟩:=r.wok.own i _ hck
       obtain ⟨v,hl,hR⟩:=ss (P:=P) (o0:=0) g1 (fun j u hu=>by simpa using hu) g2 hv
       rw [bG] at hl
       refine ⟨v::us,?_,.cons hR h4⟩
       simp only [List.mapM_cons,FY,Sem.run_bind,e1,FE,run_pure',Result.andThen_ok,hl,h3]
     · simp at h
   · simp at h
theorem MZ {st:ST} {V:Vn} {a:Act} {w:World} (r:Rel Γ st V a w) {l:List SX} (h:kM P st fn.results.toList=some l) :
 ∃ v,(results fn a.tmps).run P w = .ok v w∧(qC l).R V v:=by
 obtain ⟨us,h1,h2⟩:=nD r _ _ h
 have hres:results fn a.tmps=(do let vs ← fn.results.mapM (FY a.tmps); pure (if h:vs.size=1 then vs[0] else .tuple vs)):=rfl
 refine ⟨if h:us.toArray.size=1 then us.toArray[0] else .tuple us.toArray,?_,?_⟩
 · rw [hres,Array.mapM_eq_mapM_toList]
   simp only [map_eq_pure_bind,Sem.run_bind]
   rw [h1]
   simp only [Result.andThen_ok,run_pure']
 · unfold qC
   split
   · rename_i sv
     cases h2 with
     | cons g1 g2=>cases g2; simp; exact g1
   · rename_i hne
     rw [dif_neg]
     · exact ⟨us,rfl,h2⟩
     · intro hsz
       have:l.length=1:=by rw [h2.length]; simpa using hsz
       match l,this with
       | [x],_=>exact hne x rfl
theorem WOk.pick {ck:List Chunk} {V:Vn} {w:World} (r:WOk Γ ck V w) {m:List Nat} {ck':List Chunk} {k:Nat} (hp:fL ck m=some ck') (h1:gE m=true) (h3:within m (ck'.flatMap Chunk.refs)=true) (h4:m.take k=List.range k) (hk:Γ.m≤k) :
 WOk Γ (ck'.map (Chunk.map fun i=>dx i m 0)) (iB m V) w:=by
 have hpo:=mh (ck:=ck) (V:=V) (w:=w) r.own hp h3 h1
 refine { ext:=r.ext,imm:=r.imm,hle:=r.hle,frz:=r.frz,agr:=?_,own:=fun j c hc=>(hpo j c hc).1,base:=?_,inj:=?_ }
 · intro i hi
   have hi2:i<k:=dI hi hk
   have:m[i]?=some i:=by
    have h6:(m.take k)[i]?=some i:=by rw [h4]; simp [hi2]
    rw [List.getElem?_take,if_pos hi2] at h6; exact h6
   have h7:m.getD i 0=i:=by simp [List.getD_eq_getElem?_getD,this]
   simp only [iB,h7]
   exact r.agr i hi
 · intro j c b hc hb
   obtain ⟨_,i,c0,h5,h6,h7⟩:=hpo j c hc
   rw [h7] at hb
   exact r.base i c0 b h6 hb
 · intro j k c d b hc hd hb1 hb2
   obtain ⟨_,i,c0,h5,h6,h7⟩:=hpo j c hc
   obtain ⟨_,i',d0,g5,g6,g7⟩:=hpo k d hd
   rw [h7] at hb1
   rw [g7] at hb2
   have:=r.inj i i' c0 d0 b h6 g6 hb1 hb2
   subst this
   exact fF h1 j k i h5 g5
theorem LO {m:List Nat} {V:Vn} {sv:SV} (h:within m sv.refs=true) {v:Value} (hr:sv.R V v):(sv.map fun i=>dx i m 0).R (iB m V) v:=by
 cases sv with
 | x s=>exact SX.R_map (hP h) hr
 | tup l=>obtain ⟨us,e,h1⟩:=hr; exact ⟨us,e,kA (hP h) h1⟩
 | grd s b v=>exact hr.elim
theorem Em {st:ST} {V:Vn} {a:Act} {w:World} (r:Rel Γ st V a w) {sv:SV} {v:Value} (hr:sv.R V v):∃ V',(oG st sv).1.R V' v∧WOk Γ (oG st sv).2 V' w:=by
 unfold oG
 generalize dz st.ck (List.range st.m++sv.refs)=m
 split
 · rename_i ck' hp
   cases hb:(gE m&&within m sv.refs&&within m (ck'.flatMap Chunk.refs)&&(m.take st.m==List.range st.m))
   · exact ⟨V,hr,r.wok⟩
   · simp only [ab,beq_iff_eq] at hb
     exact ⟨iB m V,LO hb.1.1.2 hr,r.wok.pick hp hb.1.1.1 hb.1.2 hb.2 r.few.1⟩
 · exact ⟨V,hr,r.wok⟩
theorem Rel.prune {fn:Func} {root:Code} {todo:List PI} {st:ST} {V:Vn} {a:Act} {w:World} (r:Rel Γ st V a w):∃ V',Rel Γ (prune fn root todo st) V' a w :=
 ((r.weaken (fr':=st.fr.filter _) (fun p hp=>(aP.1 hp).1)).marks _).gc
theorem Rel.known {o:Oper} {st:ST} {V:Vn} {a:Act} {w:World} (r:Rel Γ st V a w):Rel Γ (known o st) V a w:=by
 unfold Ev.known; split
 · exact r
 · exact r.marks _
theorem Rel.refineSlot {st:ST} {V:Vn} {a:Act} {w:World} (r:Rel Γ st V a w) {c:Nat} {b:Bool} (hb:a.tmps.getD c undef = .bool b):Rel Γ { st with fr:=refineSlot c b st.fr } V a w:=by
 refine { size:=r.size,defers:=r.defers,slots:=?_,wok:=r.wok,few:=r.few }
 intro t sv hm
 obtain ⟨⟨t',sv'⟩,h1,h2⟩:=bo.1 hm
 cases hbb:Nat.beq t' c
 · rw [hbb] at h2
   simp only [cond_false,ae] at h2
   obtain ⟨rfl,rfl⟩:=h2
   exact r.slots _ _ h1
 · rw [hbb] at h2
   simp only [cond_true,ae] at h2
   obtain ⟨rfl,rfl⟩:=h2
   rw [ar hbb]
   show SX.R V (.c (.pd (.bool b))) _
   rw [hb]; exact .bool b
theorem HJ {st:ST} {V:Vn} {a:Act} {w:World} (r:Rel Γ st V a w) {c:Operand} {b:Bool} (h:bR st none c=some (.c (.pd (.bool b)))):a.eval c = .bool b:=by
 have:=aK r (g:=none) trivial h
 generalize a.eval c=u at this ⊢
 cases this; rfl
theorem dR (ht:ai P cfg.tab) (hf:P.funcs[f]?=some fn):∀ (n:Nat) (todo:List PI) (st:ST),(exec P cfg fn root n todo st).J P f root Γ Q→J P f root Γ Q todo st
 | 0,todo,st,h=>h
 | n + 1, todo,st,h=>by
   intro hT V a w r
   have hto:TOk P cfg.tab Γ:=⟨ht,hT⟩
   have fin:∀ {l:List SX},kM P st fn.results.toList=some l→Q (oG st (qC l)).1 (oG st (qC l)).2→∃ v,(results fn a.tmps).run P w = .ok v w∧yo Γ Q (.returned v) w:=by
    intro l hl hq
    obtain ⟨v,h1,h2⟩:=MZ r hl
    obtain ⟨V',h3,h4⟩:=Em r h2
    exact ⟨v,h1,v,V',_,_,rfl,hq,h3,h4⟩
   unfold exec at h
   split at h
   · split at h
     · rename_i l hl
       obtain ⟨v,h1,h2⟩:=fin hl h
       exact Go.Sy.Fin.end hf r.defers h1 h2
     · exact h hT V a w r
   · exact Go.Sy.Fin.inBlock (dR ht hf n _ st h hT V a w r)
   · exact Go.Sy.Fin.inScope (dR ht hf n _ st h hT V a w r)
   · obtain ⟨V',r'⟩:=r.prune (fn:=fn) (root:=root)
     exact Go.Sy.Fin.inLoop (h hT _ a w r')
   · rename_i p i k
     split at h
     · rename_i hn
       have hz:(opsOf (sub root p)).size - i=0:=by
        have:=Array.getElem?_eq_none_iff.1 hn; omega
       simp only [ay,PI.den,hz,List.range'_zero]
       exact Go.Sy.Fin.region_end (dR ht hf n _ st h hT V a w r)
     · rename_i o ho
       split at h
       · rename_i q st' hq
         obtain ⟨hqp,hj⟩:=LP h
         have hi:i<(opsOf (sub root p)).size:=(Array.getElem?_eq_some_iff.1 ho).1
         have hs:(opsOf (sub root p)).size - i=((opsOf (sub root p)).size - (i+1))+1:=by omega
         simp only [ay,PI.den]
         rw [hs,cv]
         exact Cv hto r ho hq hqp fun V' a' w' r'=>dR ht hf n (.ops p (i+1)::k) _ hj hT V' a' w' r'.known
       · obtain ⟨V',r'⟩:=r.prune (fn:=fn) (root:=root)
         exact h hT _ a w r'
   · exact h hT V a w r
   · rename_i p k
     simp only [ay,PI.den]
     split at h
     · rename_i hc
       rw [hc]
       split at h
       · rename_i l hl
         obtain ⟨v,h1,h2⟩:=fin hl h
         exact Go.Sy.Fin.ret hf r.defers h1 h2
       · have:=h hT V a w r
         simpa only [ay,PI.den,hc] using this
     · rename_i hc; rw [hc]; exact Go.Sy.Fin.skip (dR ht hf n _ st h hT V a w r)
     · rename_i l hc; rw [hc]; exact Go.Sy.Fin.label (dR ht hf n _ st h hT V a w r)
     · rename_i x y hc
       rw [hc]
       have:=dR ht hf n _ st h hT V a w r
       simp only [ay,PI.den,jx,hc] at this
       exact Go.Sy.Fin.seq this
     · rename_i c x y hc
       rw [hc]
       split at h
       · rename_i b hb
         have e1:a.eval c = .bool b:=HJ r hb
         refine Go.Sy.Fin.cond e1 ?_
         have go:∀ (st1:ST) (j:Nat) (c':Code),sub (sub root p) [j]=c'→Rel Γ st1 V a w→(exec P cfg fn root n (.code (p++[j])::k) st1).J P f root Γ Q→Go.Sy.Fin P f (yo Γ Q) (.code c'::k.map (PI.den root)) a w:=by
          intro st1 j c' hc' r1 hj
          have:=dR ht hf n _ st1 hj hT V a w r1
          simp only [ay,PI.den,jx,hc'] at this
          exact this
         have s0:sub (sub root p) [0]=x:=by rw [hc]; rfl
         have s1:sub (sub root p) [1]=y:=by rw [hc]; rfl
         split at h
         · rename_i t
           have e2:a.tmps.getD t undef = .bool b:=e1
           cases hkn:st.kn.any (Nat.beq t)
           · rw [hkn] at h
             simp only [cond_false] at h
             cases b
             · exact go _ 1 y s1 ((r.refineSlot e2).marks _) (h.2 rfl)
             · exact go _ 0 x s0 ((r.refineSlot e2).marks _) (h.1 rfl)
           · rw [hkn] at h
             simp only [cond_true] at h
             cases b
             · exact go _ 1 y s1 r h
             · exact go _ 0 x s0 r h
         · cases b
           · exact go _ 1 y s1 r (h.2 rfl)
           · exact go _ 0 x s0 r (h.1 rfl)
       · have:=h hT V a w r
         simpa only [ay,PI.den,hc] using this
     · rename_i id x hc
       rw [hc]
       have:=dR ht hf n _ st h hT V a w r
       simp only [ay,PI.den,jx,hc] at this
       exact Go.Sy.Fin.block this
     · rename_i x hc
       rw [hc]
       have:=dR ht hf n _ st h hT V a w r
       simp only [ay,PI.den,jx,hc] at this
       exact Go.Sy.Fin.scope this
     · rename_i x hc
       rw [hc]
       obtain ⟨V',r'⟩:=r.prune (fn:=fn) (root:=root)
       have:=h hT _ a w r'
       simp only [ay,PI.den,jx,hc] at this
       exact Go.Sy.Fin.loop this
     · rename_i id hc
       rw [hc]
       split at h
       · rename_i k' hk
         exact Go.Sy.Fin.exit (mP hk) (dR ht hf n _ st h hT V a w r)
       · have:=h hT V a w r
         simpa only [ay,PI.den,hc] using this
     · rename_i l hc
       rw [hc]
       split at h
       · rename_i k' hk
         obtain ⟨V',r'⟩:=r.prune (fn:=fn) (root:=root)
         exact Go.Sy.Fin.goto (mQ hk) (h hT _ a w r')
       · have:=h hT V a w r
         simpa only [ay,PI.den,hc] using this
     · rename_i id ops draw hc
       rw [hc]
       split at h
       · refine Go.Sy.Fin.region ?_
         have:=dR ht hf n _ st h hT V a w r
         simp only [ay,PI.den,hc,opsOf,Nat.sub_zero] at this
         rw [List.range_eq_range']
         exact this
       · split at h
         · rename_i ps fs hrun
           cases hb:(P.follows .mixedOrders&&(jC ops&&(fO ops).all (fun d=>Nat.blt d st.n)&&st.wf))
           · rw [hb] at hrun; simp at hrun
           · rw [hb] at hrun
             simp only [cond_true] at hrun
             rw [ab] at hb
             obtain ⟨hps,hj⟩:=wv h
             exact FG hto hb.1 hb.2 hrun hps r fun V' a' w' r'=>dR ht hf n _ _ hj hT V' a' w' r'
         · split at h
           · rename_i ps fs E hrun
             cases hb:(P.follows .mixedOrders&&(jt ops&&(fO ops).all (fun d=>Nat.blt d st.n)&&st.wf))
             · rw [hb] at hrun; simp at hrun
             · rw [hb] at hrun
               simp only [cond_true] at hrun
               rw [ab] at hb
               obtain ⟨hps,hj⟩:=wv h
               exact B5 hto hb.1 hb.2 hrun hps r fun V' a' w' r'=>dR ht hf n _ _ hj hT V' a' w' r'
           · obtain ⟨V',r'⟩:=r.prune (fn:=fn) (root:=root)
             have:=h hT _ a w r'
             simpa only [ay,PI.den,hc] using this
     · obtain ⟨V',r'⟩:=r.prune (fn:=fn) (root:=root)
       have:=h hT _ a w r'
       simpa only [ay,PI.den] using this
end
end Go.Ev
