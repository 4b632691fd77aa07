/- An executor for function bodies of the model over data, part PQ: bodies by paths, the executor, and that it is sound. Conditions: those that its tree tells. -/
import Derived.Test.YtgfifkhbfdacjaaGreatDoorPW
namespace Go.Ev
open Go.RowKit
/-! ### the body by paths -/
def sub:Code→List Nat→Code
 | c,[]=>c
 | c,s::p=>sub (match c,s with
   | .seq a _,0=>a
   | .seq _ b,1=>b
   | .cond _ a _,0=>a
   | .cond _ _ b,1=>b
   | .block _ a,0=>a
   | .loop a,0=>a
   | .scope a,0=>a
   | .rangeFunc _ _ a _,0=>a
   | .rangeFunc _ _ _ b,1=>b
   | c,n+2=>(findLabel c n).getD .skip
   | _,_=>.skip) p
theorem fv (c:Code) (p q:List Nat):sub c (p++q)=sub (sub c p) q:=by
 induction p generalizing c with
 | nil=>simp [sub]
 | cons s p ih=>simp only [bA,sub]; exact ih _
inductive PI where
 | code (p:List Nat)
 | inBlock (id:Nat)
 | inLoop (p:List Nat)
 | inScope (p:List Nat)
 | ops (p:List Nat) (i:Nat)
 | opl (p:List Nat) (l:List Nat)
def opsOf:Code→Array Oper
 | .region _ ops _=>ops
 | _=>#[]
def PI.den (root:Code):PI→Item
 | .code p=>.code (sub root p)
 | .inBlock i=>.inBlock i
 | .inLoop p=>.inLoop (sub root p)
 | .inScope p=>.inScope (sub root p)
 | .ops p i=>.inRegion (opsOf (sub root p)) (List.range' i ((opsOf (sub root p)).size - i))
 | .opl p l=>.inRegion (opsOf (sub root p)) l
def iP (id:Nat):List PI→Option (List PI)
 | .inBlock i::k=>bif Nat.beq i id then some k else iP id k
 | _::k=>iP id k
 | []=>none
def kH (root:Code) (l:Nat):List PI→Option (List PI)
 | .inScope p::k=>match findLabel (sub root p) l with
   | some _=>some (.code (p++[l+2]) :: .inScope p::k)
   | none=>kH root l k
 | _::k=>kH root l k
 | []=>none
theorem iR {root:Code} {id:Nat}:∀ {k k':List PI},iP id k=some k'→exitTo id (k.map (PI.den root))=some (k'.map (PI.den root))
 | [],_,h=>by simp [iP] at h
 | x :: k,k',h=>by
   cases x with
   | inBlock i =>
     simp only [iP] at h
     simp only [aw,PI.den,exitTo]
     cases hb:Nat.beq i id
     · rw [hb] at h
       simp only [cond_false] at h
       have:(i==id)=false:=by
        cases hc:(i==id)
        · rfl
        · have e:i=id:=by simpa using hc
          subst e; simp at hb
       simp only [this,eE,if_false]
       exact iR h
     · rw [hb] at h
       simp only [cond_true,aa] at h
       have:(i==id)=true:=by simpa using aj hb
       simp only [this,if_true,h]
   | _=>simp only [iP] at h; simp only [aw,PI.den,exitTo]; exact iR h
theorem kQ {root:Code} {l:Nat}:∀ {k k':List PI},kH root l k=some k'→gotoIn l (k.map (PI.den root))=some (k'.map (PI.den root))
 | [],_,h=>by simp [kH] at h
 | x :: k,k',h=>by
   cases x with
   | inScope p =>
     simp only [kH] at h
     simp only [aw,PI.den,gotoIn]
     split at h
     · rename_i c hc
       simp only [aa] at h
       subst h
       simp only [hc,aw,PI.den,fv]
       simp [sub,hc]
     · rename_i hc
       simp only [hc]
       exact kQ h
   | _=>simp only [kH] at h; simp only [aw,PI.den,gotoIn]; exact kQ h
inductive Tree where
 | ret (v:SV) (ck:List Chunk)
 | ite (b:Bool) (t e:Tree)
 | need (p:Prop) (t:Tree)
 | stop (todo:List PI) (st:ST)
def I9:Option Prop→Tree→Tree
 | none,t=>t
 | some p,t=>.need p t
def uC:List Prop→Tree→Tree
 | [],t=>t
 | p::r,t=>.need p (uC r t)
def gp (P:Program) (st:ST):List ResultVar→Option (List SX)
 | []=>some []
 | .tmp t::r=>match bx st none (.tmp t),gp P st r with
   | some sv,some l=>some (sv::l)
   | _,_=>none
 | .cell t ty::r=>match bx st none (.tmp t),gp P st r with
   | some (.c (.loc i off)),some l=>match st.ck[i]? with
     | some (.cells cs _)=>(partOf P ty cs off).map fun sv=>sv::l
     | _=>none
   | _,_=>none
def r9 (P:Program) (fn:Func) (st:ST):Option (List SX):=bif Nat.beq fn.endLine 999999999 then none else gp P st fn.results.toList
def gm (l:List SX):SV :=
 match l with
 | [sv]=>.x sv
 | l=>.tup l
def fV (st:ST) (v:SV):SV×List Chunk :=
 match dD st.ck (cE st.ck (List.range st.m++v.refs)) with
 | some ck'=>bif eZ (cE st.ck (List.range st.m++v.refs))&&within (cE st.ck (List.range st.m++v.refs)) v.refs&&within (cE st.ck (List.range st.m++v.refs)) (ck'.flatMap Chunk.refs)&&((cE st.ck (List.range st.m++v.refs)).take st.m==List.range st.m) then
    (v.map (fun i=>cD i (cE st.ck (List.range st.m++v.refs)) 0),ck'.map (Chunk.map fun i=>cD i (cE st.ck (List.range st.m++v.refs)) 0))
   else (v,st.ck)
 | none=>(v,st.ck)
/-! which slots are still wanted: a weakening, so nothing hangs on its being exact -/
def K6 (o:Oper):List Nat:=o.op.operands.toList.filterMap fun | .tmp t=>some t | _=>none
def ins (x:Nat) (l:List Nat):List Nat:=bif l.any (Nat.beq x) then l else x::l
def qt (ops:Array Oper):List Oper→List Nat×List Nat→List Nat×List Nat
 | [],r=>r
 | o::l,(e,k) =>
   let gs:=(o.guard.bind fun j=>(ops[j.1]?).bind (·.dst)).toList
   let e':=(K6 o++gs).foldl (fun e x=>bif k.any (Nat.beq x) then e else ins x e) e
   qt ops l (e',match o.dst with | some d=>ins d k | none=>k)
def jd:Code→List Nat→List Nat→List Nat×Option (List Nat)
 | .region _ ops _,e,k=>let r:=qt ops ops.toList (e,k); (r.1,some r.2)
 | .seq a b,e,k=>match jd a e k with
   | (e',none)=>(jd b e' k).1 |> fun e2=>(e2,none)
   | (e',some k')=>jd b e' k'
 | .cond c a b,e,k =>
   let e0:=match c with | .tmp t=>bif k.any (Nat.beq t) then e else ins t e | _=>e
   match jd a e0 k with
   | (e1,k1)=>match jd b e1 k with
     | (e2,k2)=>(e2,match k1,k2 with | none,y=>y | some x,none=>some x | some x,some y=>some (x.filter fun z=>y.any (Nat.beq z)))
 | .block _ a,e,k=>match jd a e k with | (e',k')=>(e',some (k'.getD k))
 | .loop a,e,k=>match jd a e k with | (e',k')=>(e',some (k'.getD k))
 | .scope a,e,k=>match jd a e k with | (e',k')=>(e',some (k'.getD k))
 | .rangeFunc (.tmp t) _ x y,e,k=>match jd x (bif k.any (Nat.beq t) then e else ins t e) k with | (e1,_)=>(jd y e1 k).1 |> fun e2=>(e2,some k)
 | .exit _,e,_=>(e,none)
 | .goto _,e,_=>(e,none)
 | .ret,e,_=>(e,none)
 | _,e,k=>(e,some k)
def pJ (root:Code):List PI→List Nat→List Nat→List Nat
 | [],e,_=>e
 | .code p::r,e,k=>match jd (sub root p) e k with | (e',k')=>pJ root r e' (k'.getD k)
 | .ops p i::r,e,k=>match qt (opsOf (sub root p)) ((opsOf (sub root p)).toList.drop i) (e,k) with | (e',k')=>pJ root r e' k'
 | .opl p _::r,e,k=>match qt (opsOf (sub root p)) (opsOf (sub root p)).toList (e,k) with | (e',k')=>pJ root r e' k'
 | .inLoop p::r,e,k=>match jd (sub root p) e k with | (e',_)=>pJ root r e' k
 | .inScope p::r,e,k=>match jd (sub root p) e [] with | (e',_)=>pJ root r e' k
 | .inBlock _::r,e,k=>pJ root r e k
def G2 (fn:Func):List Nat:=fn.results.toList.map fun | .tmp t=>t | .cell t _=>t
def prune (fn:Func) (root:Code) (todo:List PI) (st:ST):ST :=
 let e:=(G2 fn).foldl (fun e x=>ins x e) (pJ root todo [] [])
 gc { st with fr:=st.fr.filter fun p=>e.any (Nat.beq p.1),kn:=st.kn.filter fun x=>e.any (Nat.beq x) }
def refineSlot (c:Nat) (b:Bool) (fr:List (Nat×SV)):List (Nat×SV):=fr.map fun p=>bif Nat.beq p.1 c then (p.1,.x (.c (.pd (.bool b)))) else p
def known (o:Oper) (st:ST):ST :=
 match o.dst with
 | none=>st
 | some d =>
   let l:=st.kn.filter fun x=>!Nat.beq x d
   { st with kn:=match o.op with
    | .move (.const (.bool _)) | .assign (.const (.bool _))=>d::l
    | .move (.tmp t) | .assign (.tmp t)=>bif st.kn.any (Nat.beq t) then d::l else l
    | _=>l }
def exec (P:Program) (cfg:Cfg) (fn:Func) (root:Code):Nat→List PI→ST→Tree
 | 0,todo,st=>.stop todo st
 | n + 1,todo,st =>
   match todo with
   | []=>match r9 P fn st with
     | some l=>.ret (fV st (gm l)).1 (fV st (gm l)).2
     | none=>.stop todo (prune fn root todo st)
   | .inBlock _::k=>exec P cfg fn root n k st
   | .inScope _::k=>exec P cfg fn root n k st
   | .inLoop p::k=>.stop (.code p :: .inLoop p::k) (prune fn root (.code p :: .inLoop p::k) st)
   | .ops p i::k=>match (opsOf (sub root p))[i]? with
     | none=>exec P cfg fn root n k st
     | some o=>match op1 P cfg (opsOf (sub root p)) o st with
       | some (q,st')=>I9 q (exec P cfg fn root n (.ops p (i+1)::k) (known o st'))
       | none=>.stop todo (prune fn root todo st)
   | .opl p l::k=>.stop todo st
   | .code p::k=>match sub root p with
     | .ret=>match r9 P fn st with
       | some l=>.ret (fV st (gm l)).1 (fV st (gm l)).2
       | none=>.stop todo (prune fn root todo st)
     | .skip=>exec P cfg fn root n k st
     | .label _=>exec P cfg fn root n k st
     | .seq _ _=>exec P cfg fn root n (.code (p++[0]) :: .code (p++[1])::k) st
     | .cond c _ _=>match bx st none c with
       | some (.c (.pd (.bool b)))=>match c with
         | .tmp t=>bif st.kn.any (Nat.beq t) then (match b with | true=>exec P cfg fn root n (.code (p++[0])::k) st | false=>exec P cfg fn root n (.code (p++[1])::k) st)
           else .ite b (exec P cfg fn root n (.code (p++[0])::k) { st with fr:=refineSlot t true st.fr,kn:=t::st.kn }) (exec P cfg fn root n (.code (p++[1])::k) { st with fr:=refineSlot t false st.fr,kn:=t::st.kn })
         | _=>.ite b (exec P cfg fn root n (.code (p++[0])::k) st) (exec P cfg fn root n (.code (p++[1])::k) st)
       | _=>.stop todo st
     | .block id _=>exec P cfg fn root n (.code (p++[0]) :: .inBlock id::k) st
     | .scope _=>exec P cfg fn root n (.code (p++[0]) :: .inScope (p++[0])::k) st
     | .loop _=>.stop (.code (p++[0]) :: .inLoop (p++[0])::k) (prune fn root (.code (p++[0]) :: .inLoop (p++[0])::k) st)
     | .exit id=>match iP id k with
       | some k'=>exec P cfg fn root n k' st
       | none=>.stop todo st
     | .goto l=>match kH root l k with
       | some k'=>.stop k' (prune fn root k' st)
       | none=>.stop todo st
     | .region _ ops draw=>match draw with
       | false=>exec P cfg fn root n (.ops p 0::k) st
       | true=>match (bif P.follows .mixedOrders&&(gX ops&&(dO ops).all (fun d=>Nat.blt d st.n)&&st.wf) then kA P cfg (bI ops st) ops st.fr ops.toList [] else none) with
         | some (ps,fs)=>uC ps (exec P cfg fn root n k (jf (bI ops st) ops fs (List.range ops.size)))
         | none=>match (bif P.follows .mixedOrders&&(gL ops&&(dO ops).all (fun d=>Nat.blt d st.n)&&st.wf) then vj P cfg (cT ops st) ops (cC ops.toList []) st.ck.length st.fr else none) with
           | some (ps,fs,E)=>uC ps (exec P cfg fn root n k (Aj ops st fs E))
           | none=>.stop todo (prune fn root todo st)
     | _=>.stop todo (prune fn root todo st)
abbrev Out:=SV→List Chunk→Prop
def gM (Γ:Ctx) (Q:Out) (e:Ending) (w':World):Prop:=(∃ v V' ret ck',e = .returned v∧Q ret ck'∧ret.R V' v∧WOk Γ.base ck' V' w')∨Γ.base.alt e w'
def J (P:Program) (f:Go.Sy.Md) (root:Code) (Γ:Ctx) (Q:Out) (todo:List PI) (st:ST):Prop :=
 fG P Γ.H0→∀ V a w,Rel Γ st V a w→Go.Sy.Fin P f (gM Γ Q) (todo.map (PI.den root)) a w
def Tree.J (P:Program) (f:Go.Sy.Md) (root:Code) (Γ:Ctx) (Q:Out):Tree→Prop
 | .ret v ck=>Q v ck
 | .ite b t e=>(b=true→t.J P f root Γ Q)∧(b=false→e.J P f root Γ Q)
 | .need p t=>p∧t.J P f root Γ Q
 | .stop todo st=>Ev.J P f root Γ Q todo st
section
variable {P:Program} {cfg:Cfg} {Γ:Ctx} {Q:Out} {f:Go.Sy.Md} {fn:Func} {root:Code}
theorem K9 {q:Option Prop} {t:Tree} (h:(I9 q t).J P f root Γ Q):Holds q∧t.J P f root Γ Q:=by
 cases q with
 | none=>exact ⟨trivial,h⟩
 | some p=>exact h
theorem su:∀ {ps:List Prop} {t:Tree},(uC ps t).J P f root Γ Q→(∀ q∈ps,q)∧t.J P f root Γ Q
 | [],t,h=>⟨by simp,h⟩
 | p::ps,t,h=>by
   obtain ⟨h1,h2⟩:=su h.2
   exact ⟨fun q hq=>by rcases aJ.1 hq with rfl | hq; exact h.1; exact h1 q hq,h2⟩
def B3 (tmps:Array Value):ResultVar→Sem Value
 | .tmp t=>pure (tmps.getD t undef)
 | .cell x t=>do loadVar t (← asAddr (tmps.getD x undef))
theorem Bg {w:World} (x:Addr):(asAddr (.pointer (some x))).run P w = .ok x w:=rfl
theorem lI {st:ST} {V:Vn} {a:Act} {w:World} (r:Rel Γ st V a w):∀ (l:List ResultVar) (svs:List SX),gp P st l=some svs →
 ∃ us,(l.mapM (B3 a.tmps)).run P w = .ok us w∧All2 (SX.R V) svs us
 | [],svs,h=>by simp [gp] at h; subst h; exact ⟨[],rfl,.nil⟩
 | .tmp t::l,svs,h=>by
   simp only [gp] at h
   split at h
   · rename_i sv l' h1 h2
     simp only [aa] at h; subst h
     obtain ⟨us,h3,h4⟩:=lI r l l' h2
     have e1:sv.R V (a.tmps.getD t undef):=aG r (g:=none) trivial h1
     refine ⟨a.tmps.getD t undef::us,?_,.cons e1 h4⟩
     simp only [List.mapM_cons,B3,Sem.run_bind,run_pure',Result.andThen_ok,h3]
   · simp at h
 | .cell t ty::l,svs,h=>by
   simp only [gp] at h
   split at h
   · rename_i i off l' h1 h2
     split at h
     · rename_i cs e hck
       simp only [al] at h
       obtain ⟨sv,hv,rfl⟩:=h
       obtain ⟨us,h3,h4⟩:=lI r l l' h2
       have e1:a.tmps.getD t undef = .pointer (some ⟨V.σ i,off,none⟩):=aG r (g:=none) trivial h1
       obtain ⟨cells,g1,g2⟩:=r.wok.own i _ hck
       obtain ⟨v,hl,hR⟩:=lG (P:=P) (o0:=0) g1 (fun j u hu=>by simpa using hu) g2 hv
       rw [a8] at hl
       refine ⟨v::us,?_,.cons hR h4⟩
       simp only [List.mapM_cons,B3,Sem.run_bind,e1,Bg,run_pure',Result.andThen_ok,hl,h3]
     · simp at h
   · simp at h
theorem yM {st:ST} {V:Vn} {a:Act} {w:World} (r:Rel Γ st V a w) {l:List SX} (h:gp P st fn.results.toList=some l) :
 ∃ v,(results fn a.tmps).run P w = .ok v w∧(gm l).R V v:=by
 obtain ⟨us,h1,h2⟩:=lI r _ _ h
 have hres:results fn a.tmps=(do let vs ← fn.results.mapM (B3 a.tmps); pure (if h:vs.size=1 then vs[0] else .tuple vs)):=rfl
 refine ⟨if h:us.toArray.size=1 then us.toArray[0] else .tuple us.toArray,?_,?_⟩
 · rw [hres,Array.mapM_eq_mapM_toList]
   simp only [map_eq_pure_bind,Sem.run_bind]
   rw [h1]
   simp only [Result.andThen_ok,run_pure']
 · unfold gm
   split
   · rename_i sv
     cases h2 with
     | cons g1 g2=>cases g2; simp; exact g1
   · rename_i hne
     rw [dif_neg]
     · exact ⟨us,rfl,h2⟩
     · intro hsz
       have:l.length=1:=by rw [h2.length]; simpa using hsz
       match l,this with
       | [x],_=>exact hne x rfl
theorem WOk.pick {ck:List Chunk} {V:Vn} {w:World} (r:WOk Γ ck V w) {m:List Nat} {ck':List Chunk} {k:Nat} (hp:dD ck m=some ck') (h1:eZ m=true) (h3:within m (ck'.flatMap Chunk.refs)=true) (h4:m.take k=List.range k) (hk:Γ.m≤k) :
 WOk Γ (ck'.map (Chunk.map fun i=>cD i m 0)) (fJ m V) w:=by
 have hpo:=kU (ck:=ck) (V:=V) (w:=w) r.own hp h3 h1
 refine { ext:=r.ext,imm:=r.imm,hle:=r.hle,frz:=r.frz,agr:=?_,own:=fun j c hc=>(hpo j c hc).1,base:=?_,inj:=?_ }
 · intro i hi
   have hi2:i<k:=bN hi hk
   have:m[i]?=some i:=by
    have h6:(m.take k)[i]?=some i:=by rw [h4]; simp [hi2]
    rw [List.getElem?_take,if_pos hi2] at h6; exact h6
   have h7:m.getD i 0=i:=by simp [List.getD_eq_getElem?_getD,this]
   simp only [fJ,h7]
   exact r.agr i hi
 · intro j c b hc hb
   obtain ⟨_,i,c0,h5,h6,h7⟩:=hpo j c hc
   rw [h7] at hb
   exact r.base i c0 b h6 hb
 · intro j k c d b hc hd hb1 hb2
   obtain ⟨_,i,c0,h5,h6,h7⟩:=hpo j c hc
   obtain ⟨_,i',d0,g5,g6,g7⟩:=hpo k d hd
   rw [h7] at hb1
   rw [g7] at hb2
   have:=r.inj i i' c0 d0 b h6 g6 hb1 hb2
   subst this
   exact dG h1 j k i h5 g5
theorem K0 {m:List Nat} {V:Vn} {sv:SV} (h:within m sv.refs=true) {v:Value} (hr:sv.R V v):(sv.map fun i=>cD i m 0).R (fJ m V) v:=by
 cases sv with
 | x s=>exact SX.R_map (fE h) hr
 | tup l=>obtain ⟨us,e,h1⟩:=hr; exact ⟨us,e,jm (fE h) h1⟩
 | grd s b v=>exact hr.elim
theorem rB {st:ST} {V:Vn} {a:Act} {w:World} (r:Rel Γ st V a w) {sv:SV} {v:Value} (hr:sv.R V v):∃ V',(fV st sv).1.R V' v∧WOk Γ (fV st sv).2 V' w:=by
 unfold fV
 generalize cE st.ck (List.range st.m++sv.refs)=m
 split
 · rename_i ck' hp
   cases hb:(eZ m&&within m sv.refs&&within m (ck'.flatMap Chunk.refs)&&(m.take st.m==List.range st.m))
   · exact ⟨V,hr,r.wok⟩
   · simp only [af,beq_iff_eq] at hb
     exact ⟨fJ m V,K0 hb.1.1.2 hr,r.wok.pick hp hb.1.1.1 hb.1.2 hb.2 r.few.1⟩
 · exact ⟨V,hr,r.wok⟩
theorem Rel.prune {fn:Func} {root:Code} {todo:List PI} {st:ST} {V:Vn} {a:Act} {w:World} (r:Rel Γ st V a w):∃ V',Rel Γ (prune fn root todo st) V' a w :=
 ((r.weaken (fr':=st.fr.filter _) (fun p hp=>(aA.1 hp).1)).marks _).gc
theorem Rel.known {o:Oper} {st:ST} {V:Vn} {a:Act} {w:World} (r:Rel Γ st V a w):Rel Γ (known o st) V a w:=by
 unfold Ev.known; split
 · exact r
 · exact r.marks _
theorem Rel.refineSlot {st:ST} {V:Vn} {a:Act} {w:World} (r:Rel Γ st V a w) {c:Nat} {b:Bool} (hb:a.tmps.getD c undef = .bool b):Rel Γ { st with fr:=refineSlot c b st.fr } V a w:=by
 refine { size:=r.size,defers:=r.defers,slots:=?_,wok:=r.wok,few:=r.few }
 intro t sv hm
 obtain ⟨⟨t',sv'⟩,h1,h2⟩:=aT.1 hm
 cases hbb:Nat.beq t' c
 · rw [hbb] at h2
   simp only [cond_false,ae] at h2
   obtain ⟨rfl,rfl⟩:=h2
   exact r.slots _ _ h1
 · rw [hbb] at h2
   simp only [cond_true,ae] at h2
   obtain ⟨rfl,rfl⟩:=h2
   rw [aj hbb]
   show SX.R V (.c (.pd (.bool b))) _
   rw [hb]; exact .bool b
theorem EU {st:ST} {V:Vn} {a:Act} {w:World} (r:Rel Γ st V a w) {c:Operand} {b:Bool} (h:bx st none c=some (.c (.pd (.bool b)))):a.eval c = .bool b:=by
 have:=aG r (g:=none) trivial h
 generalize a.eval c=u at this ⊢
 cases this; rfl
theorem b4.keep {V V':Vn} (h1:V'.σ=V.σ) (h2:V'.ov=V.ov) (hk:HKe V.H V'.H) {a a':Act} (ht:a'.tmps=a.tmps) {t:Nat} {sv:SV} (h:b4 V a t sv):b4 V' a' t sv:=by
 cases sv with
 | x s=>show s.R V' (a'.tmps.getD t undef); rw [ht]; exact SX.R_keep h1 h2 hk h
 | tup l=>obtain ⟨us,e,g⟩:=h; exact ⟨us,by rw [ht]; exact e,g.mono fun _ _ _ hab=>SX.R_keep h1 h2 hk hab⟩
 | grd s want v=>exact ⟨fun hb=>by rw [ht]; exact SX.R_keep h1 h2 hk (h.1 (by rw [ht] at hb; exact hb)),fun hb=>by rw [ht]; exact h.2 (by rw [ht] at hb; exact hb)⟩
theorem Chunk.holds_keep {V V':Vn} (h1:V'.σ=V.σ) (h2:V'.ov=V.ov) (hk:HKe V.H V'.H) {w:World} {i:Nat} {c:Chunk} (h:c.holds V w i):c.holds V' w i:=by
 cases c with
 | dead=>trivial
 | cells cs e=>obtain ⟨us,g1,g2⟩:=h; exact ⟨us,by rw [h1]; exact g1,g2.mono fun _ _ _ hab=>SC.R_keep h1 h2 hk hab⟩
 | own e t l=>obtain ⟨xs,g1,g2,g3⟩:=h; exact ⟨xs,by rw [h2]; exact g1,g2.mono fun _ _ _ hab=>PR.keep hk hab,by rw [h1,h2]; exact g3⟩
theorem Rel.take {st:ST} {V:Vn} {a:Act} {w:World} (r:Rel Γ st V a w):∃ V',Rel Γ.base st V' { a with defers:=[] } (Go.Sy.took w Γ.ds):=by
 have hd:=r.defers
 cases hds:Γ.ds with
 | nil =>
   have e1:Γ.base=Γ:=by unfold Ctx.base; rw [hds]
   have e2:({ a with defers:=[] }:Act)=a:=by
    have:=hd.eq
    rw [hds] at this
    cases a; simp only [cd] at this; simp [this]
   rw [e1,e2]
   exact ⟨V,r⟩
 | cons D ds =>
   have e1:Γ.base={ Γ with ds:=[],H0:=fun k=>if k∈D::ds then none else Γ.H0 k }:=by unfold Ctx.base; rw [hds]
   have hm:∀ E∈D::ds,V.H E=some (.deferred (some []))∧Γ.w0.heap.size≤E:=fun E hE=>by
    have h:=hd.at' E (by rw [hds]; exact hE)
    exact ⟨r.wok.hle _ _ h.1,h.2⟩
   have hin:∀ {k o},(if k∈D::ds then none else V.H k)=some o→k ∉ D::ds∧V.H k=some o:=fun {k o} h=>by
    split at h
    · cases h
    · rename_i hk; exact ⟨hk,h⟩
   have hke:HKe V.H (fun k=>if k∈D::ds then none else V.H k):=fun k o h hq=>by
    show (if k∈D::ds then none else V.H k)=some o
    rw [if_neg fun hE=>?_]
    · exact h
    · rw [(hm k hE).1] at h
      simp only [aa] at h
      exact hq _ h.symm
   have hs:=Go.Sy.took_same (D::ds) w
   have ho:=fun k hk=>Go.Sy.took_other (D::ds) w k hk
   refine ⟨⟨fun k=>if k∈D::ds then none else V.H k,V.σ,V.ov⟩,?_⟩
   rw [e1]
   refine { size:=r.size,defers:=.nil rfl,slots:=fun t sv h=>b4.keep (V:=V) (V':=⟨fun k=>if k∈D::ds then none else V.H k,V.σ,V.ov⟩) (a:=a) rfl rfl hke rfl (r.slots t sv h),wok:=?_,few:=r.few }
   have hb:∀ (i:Nat) (c:Chunk) (b:Nat),st.ck[i]?=some c→c.blk V i=some b→b ∉ D::ds:=fun i c b hc hbk hE=>by
    have:=(r.wok.base i c b hc hbk).2
    rw [(hm b hE).1] at this; cases this
   refine { ext:=⟨hs.1.trans r.wok.ext.os,hs.2.1.trans r.wok.ext.tape,hs.2.2.1.trans r.wok.ext.output,by rw [hs.2.2.2]; exact r.wok.ext.size,fun k hk hn=>?_⟩,imm:=fun k o h=>?_,hle:=fun k o h=>?_,frz:=fun k h=>?_,agr:=r.wok.agr,own:=fun i c hc=>?_,base:=fun i c b hc hbk=>⟨(r.wok.base i c b hc hbk).1,?_⟩,inj:=r.wok.inj }
   · have hk':k<Γ.w0.heap.size:=hk
     rw [ho k fun hE=>by have:=(hm k hE).2; omega]; exact r.wok.ext.block k hk hn
   · obtain ⟨g1,g2⟩:=hin h
     rw [ho k g1]; exact r.wok.imm k o g2
   · have h':(if k∈D::ds then none else Γ.H0 k)=some o:=h
     show (if k∈D::ds then none else V.H k)=some o
     split at h'
     · cases h'
     · rename_i hk; rw [if_neg hk]; exact r.wok.hle k o h'
   · have h':(if k∈D::ds then none else V.H k)≠none:=h
     split at h'
     · exact absurd rfl h'
     · rename_i hk
       rcases r.wok.frz k h' with g | g
       · left; show (if k∈D::ds then none else Γ.H0 k)≠none
         rw [if_neg hk]; exact g
       · exact .inr g
   · exact Chunk.holds_keep (V:=V) (V':=⟨fun k=>if k∈D::ds then none else V.H k,V.σ,V.ov⟩) rfl rfl hke (Chunk.holds_kept (r.wok.own i c hc) fun b hbk=>ho b (hb i c b hc hbk))
   · show (if b∈D::ds then none else V.H b)=none
     split
     · rfl
     · exact (r.wok.base i c b hc hbk).2
def Mx (P:Program) (f:Go.Sy.Md) (fn:Func):Prop:=(f.rd=none∧P.funcs[f.fn]?=some fn)∨Nat.beq fn.endLine 999999999=true
theorem cG (ht:ag P cfg.tab) (hf:Mx P f fn):∀ (n:Nat) (todo:List PI) (st:ST),(exec P cfg fn root n todo st).J P f root Γ Q→J P f root Γ Q todo st
 | 0,todo,st,h=>h
 | n + 1, todo,st,h=>by
   intro hT V a w r
   have hto:TOk P cfg.tab Γ:=⟨ht,hT⟩
   have fin:∀ {l:List SX},r9 P fn st=some l→Q (fV st (gm l)).1 (fV st (gm l)).2→∃ v,(results fn a.tmps).run P (Go.Sy.took w Γ.ds) = .ok v (Go.Sy.took w Γ.ds)∧gM Γ Q (.returned v) (Go.Sy.took w Γ.ds):=by
    intro l hl0 hq
    have hl:gp P st fn.results.toList=some l:=by
     unfold r9 at hl0
     cases hb:Nat.beq fn.endLine 999999999
     · rw [hb] at hl0; exact hl0
     · rw [hb] at hl0; cases hl0
    obtain ⟨V1,r1⟩:=r.take
    obtain ⟨v,h1,h2⟩:=yM r1 hl
    obtain ⟨V',h3,h4⟩:=rB r1 h2
    exact ⟨v,h1,.inl ⟨v,V',_,_,rfl,hq,h3,h4⟩⟩
   have hmk:∀ D∈Γ.ds,w.heap[D]?=some (.deferred (some [])):=fun D hD=>r.wok.imm _ _ (r.wok.hle _ _ (r.defers.at' D hD).1)
   unfold exec at h
   split at h
   · split at h
     · rename_i l hl
       obtain ⟨v,h1,h2⟩:=fin hl h
       exact hf.elim (fun hq=>Go.Sy.Fin.endM hq.1 hq.2 r.defers.eq r.defers.nodup hmk h1 h2) fun hn=>by unfold r9 at hl; rw [hn] at hl; cases hl
     · obtain ⟨V',r'⟩:=r.prune (fn:=fn) (root:=root)
       exact h hT _ a w r'
   · exact Go.Sy.Fin.inBlock (cG ht hf n _ st h hT V a w r)
   · exact Go.Sy.Fin.inScope (cG ht hf n _ st h hT V a w r)
   · obtain ⟨V',r'⟩:=r.prune (fn:=fn) (root:=root)
     exact Go.Sy.Fin.inLoop (h hT _ a w r')
   · rename_i p i k
     split at h
     · rename_i hn
       have hz:(opsOf (sub root p)).size - i=0:=by
        have:=Array.getElem?_eq_none_iff.1 hn; omega
       simp only [aw,PI.den,hz,List.range'_zero]
       exact Go.Sy.Fin.region_end (cG ht hf n _ st h hT V a w r)
     · rename_i o ho
       split at h
       · rename_i q st' hq
         obtain ⟨hqp,hj⟩:=K9 h
         have hi:i<(opsOf (sub root p)).size:=(Array.getElem?_eq_some_iff.1 ho).1
         have hs:(opsOf (sub root p)).size - i=((opsOf (sub root p)).size - (i+1))+1:=by omega
         simp only [aw,PI.den]
         rw [hs,bB]
         exact xQ hto r ho hq hqp fun V' a' w' r'=>cG ht hf n (.ops p (i+1)::k) _ hj hT V' a' w' r'.known
       · obtain ⟨V',r'⟩:=r.prune (fn:=fn) (root:=root)
         exact h hT _ a w r'
   · exact h hT V a w r
   · rename_i p k
     simp only [aw,PI.den]
     split at h
     · rename_i hc
       rw [hc]
       split at h
       · rename_i l hl
         obtain ⟨v,h1,h2⟩:=fin hl h
         exact hf.elim (fun hq=>Go.Sy.Fin.retM hq.1 hq.2 r.defers.eq r.defers.nodup hmk h1 h2) fun hn=>by unfold r9 at hl; rw [hn] at hl; cases hl
       · obtain ⟨V',r'⟩:=r.prune (fn:=fn) (root:=root)
         have:=h hT _ a w r'
         simpa only [aw,PI.den,hc] using this
     · rename_i hc; rw [hc]; exact Go.Sy.Fin.skip (cG ht hf n _ st h hT V a w r)
     · rename_i l hc; rw [hc]; exact Go.Sy.Fin.label (cG ht hf n _ st h hT V a w r)
     · rename_i x y hc
       rw [hc]
       have:=cG ht hf n _ st h hT V a w r
       simp only [aw,PI.den,fv,hc] at this
       exact Go.Sy.Fin.seq this
     · rename_i c x y hc
       rw [hc]
       split at h
       · rename_i b hb
         have e1:a.eval c = .bool b:=EU r hb
         refine Go.Sy.Fin.cond e1 ?_
         have go:∀ (st1:ST) (j:Nat) (c':Code),sub (sub root p) [j]=c'→Rel Γ st1 V a w→(exec P cfg fn root n (.code (p++[j])::k) st1).J P f root Γ Q→Go.Sy.Fin P f (gM Γ Q) (.code c'::k.map (PI.den root)) a w:=by
          intro st1 j c' hc' r1 hj
          have:=cG ht hf n _ st1 hj hT V a w r1
          simp only [aw,PI.den,fv,hc'] at this
          exact this
         have s0:sub (sub root p) [0]=x:=by rw [hc]; rfl
         have s1:sub (sub root p) [1]=y:=by rw [hc]; rfl
         split at h
         · rename_i t
           have e2:a.tmps.getD t undef = .bool b:=e1
           cases hkn:st.kn.any (Nat.beq t)
           · rw [hkn] at h
             simp only [cond_false] at h
             cases b
             · exact go _ 1 y s1 ((r.refineSlot e2).marks _) (h.2 rfl)
             · exact go _ 0 x s0 ((r.refineSlot e2).marks _) (h.1 rfl)
           · rw [hkn] at h
             simp only [cond_true] at h
             cases b
             · exact go _ 1 y s1 r h
             · exact go _ 0 x s0 r h
         · cases b
           · exact go _ 1 y s1 r (h.2 rfl)
           · exact go _ 0 x s0 r (h.1 rfl)
       · have:=h hT V a w r
         simpa only [aw,PI.den,hc] using this
     · rename_i id x hc
       rw [hc]
       have:=cG ht hf n _ st h hT V a w r
       simp only [aw,PI.den,fv,hc] at this
       exact Go.Sy.Fin.block this
     · rename_i x hc
       rw [hc]
       have:=cG ht hf n _ st h hT V a w r
       simp only [aw,PI.den,fv,hc] at this
       exact Go.Sy.Fin.scope this
     · rename_i x hc
       rw [hc]
       obtain ⟨V',r'⟩:=r.prune (fn:=fn) (root:=root)
       have:=h hT _ a w r'
       simp only [aw,PI.den,fv,hc] at this
       exact Go.Sy.Fin.loop this
     · rename_i id hc
       rw [hc]
       split at h
       · rename_i k' hk
         exact Go.Sy.Fin.exit (iR hk) (cG ht hf n _ st h hT V a w r)
       · have:=h hT V a w r
         simpa only [aw,PI.den,hc] using this
     · rename_i l hc
       rw [hc]
       split at h
       · rename_i k' hk
         obtain ⟨V',r'⟩:=r.prune (fn:=fn) (root:=root)
         exact Go.Sy.Fin.goto (kQ hk) (h hT _ a w r')
       · have:=h hT V a w r
         simpa only [aw,PI.den,hc] using this
     · rename_i id ops draw hc
       rw [hc]
       split at h
       · refine Go.Sy.Fin.region ?_
         have:=cG ht hf n _ st h hT V a w r
         simp only [aw,PI.den,hc,opsOf,Nat.sub_zero] at this
         rw [List.range_eq_range']
         exact this
       · split at h
         · rename_i ps fs hrun
           cases hb:(P.follows .mixedOrders&&(gX ops&&(dO ops).all (fun d=>Nat.blt d st.n)&&st.wf))
           · rw [hb] at hrun; simp at hrun
           · rw [hb] at hrun
             simp only [cond_true] at hrun
             rw [af] at hb
             obtain ⟨hps,hj⟩:=su h
             exact Cz hto hb.1 hb.2 hrun hps r fun V' a' w' r'=>cG ht hf n _ _ hj hT V' a' w' r'
         · split at h
           · rename_i ps fs E hrun
             cases hb:(P.follows .mixedOrders&&(gL ops&&(dO ops).all (fun d=>Nat.blt d st.n)&&st.wf))
             · rw [hb] at hrun; simp at hrun
             · rw [hb] at hrun
               simp only [cond_true] at hrun
               rw [af] at hb
               obtain ⟨hps,hj⟩:=su h
               exact yr hto hb.1 hb.2 hrun hps r fun V' a' w' r'=>cG ht hf n _ _ hj hT V' a' w' r'
           · obtain ⟨V',r'⟩:=r.prune (fn:=fn) (root:=root)
             have:=h hT _ a w r'
             simpa only [aw,PI.den,hc] using this
     · obtain ⟨V',r'⟩:=r.prune (fn:=fn) (root:=root)
       have:=h hT _ a w r'
       simpa only [aw,PI.den] using this
end
end Go.Ev
