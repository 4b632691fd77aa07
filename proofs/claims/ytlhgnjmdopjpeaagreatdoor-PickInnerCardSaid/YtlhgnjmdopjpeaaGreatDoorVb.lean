/- An executor for function bodies of the model over data, part PR: how a contract is proved, and the rules where the executor stops. Conditions: each rule's own. An executor for function bodies of the model over data, part PX: a slice moved to a number of its own; a nil slice in a lent block. Conditions: none. An executor for function bodies of the model over data, part PY: blocks renumbered behind a call; a nil slice in a block of the call's own. Conditions: none. An executor for function bodies of the model over data, part PZ: a slice set against nil; a contract told otherwise. Conditions: none. An executor for function bodies of the model over data, part VA: a slice of the caller's own, lent to one that only reads. Conditions: each rule's own. An executor for function bodies of the model over data, part VB: a function looked up in a map that nobody writes. Conditions: each rule's own. -/
import Derived.Test.YtlhgnjmdopjpeaaGreatDoorPQ
import Derived.Lib.SliceRun
import Derived.MapKept
namespace Go.Ev
open Go.RowKit
/-! ### short forms -/
abbrev SX.p(p:PD):SX:=.c (.pd p)
abbrev SX.i(n:Int):SX:=.c (.pd (.int .i64 n))
abbrev SX.b(b:Bool):SX:=.c (.pd (.bool b))
abbrev SX.s(s:Str):SX:=.c (.pd (.str s))
abbrev SX.l(t:ETy)(l:List t.den):SX:=.c (.pd (.lst t l))
abbrev SX.e(t:ETy)(x:t.den):SX:=.agg ((t.enc x).map .pd)
abbrev ar(fn:Func):Code:=fn.body.getD .skip
theorem nB{fn:Func}(h:fn.body.isSome=true):fn.body=some (ar fn):=by
 unfold ar;cases hb:fn.body <;> simp_all
theorem cg{n:Int}(h0 : -9223372036854775808≤n)(h1:n≤9223372036854775807):IntKind.wrap .i64 n=n:=by
 unfold IntKind.wrap
 simp only[IntKind.bits,IntKind.signed]
 simp
 omega
theorem aZ{k:Nat}(h:k<9223372036854775807):IntKind.wrap .i64 ((k:Int)+1)=((k+1:Nat):Int):=by
 rw[cg (by omega) (by omega)];omega
/-! ### a call's beginning -/
def vv:List SX→Nat→List (Nat×SV)
 |[],_=>[]
 |v::r,i=>(i,.x v)::vv r (i+1)
def il(n:Nat)(vs:List SX)(ck:List Chunk):ST:={n:=n,fr:=vv vs 0,ck:=ck,m:=ck.length}
theorem vw:∀{vs:List SX} {i t:Nat} {sv:SV},(t,sv)∈vv vs i→∃v,sv = .x v∧i≤t∧vs[t - i]?=some v
 |[],_,_,_,h=>by simp[vv]at h
 | v :: r,i,t,sv,h=>by
   rcases aI.1 h with h |h
   ·simp only[ae]at h;obtain⟨rfl,rfl⟩:=h;exact⟨v,rfl,av _,by simp⟩
   · obtain⟨u,h1,h2,h3⟩:=vw h
     exact⟨u,h1,by omega,by rw[show t - i=(t - (i+1))+1 from by omega,List.getElem?_cons_succ];exact h3⟩
def Eq2(ret:SV)(ck':List Chunk):Out:=fun v ck=>v=ret∧ck=ck'
theorem mi{P:Program}{f:FuncId}{fn:Func}{root:Code}{args:List SX}{ck:List Chunk}{Q:Out}(hf:P.funcs[f]?=some fn)(hb:fn.body=some root)(hn:Nat.ble args.length fn.ntmps=true){Γ:Ctx}(hm:Γ.m=ck.length)
 (h:J P f root Γ Q [.code []] (il fn.ntmps args ck)) {w:World} {V:Vn} {vs:List Value} (hw:WOk Γ ck V w) (hT:hZ P Γ.H0) (hv:All2 (SX.R V) args vs) (hds:Γ.ds=[]:=by rfl):Calls P f vs.toArray w (jr Γ Q):=by
 refine Go.Sy.calls_of_fin hf hb ?_
 have hn':=aB hn
 have hl:=hv.length
 refine h hT V _ w {size:=?_,defers:=.nil hds,slots:=?_,wok:=hw,few:=⟨by rw[hm];exact av _,av _⟩}
 ·simp[il];omega
 · intro t sv hm
   obtain⟨v,rfl,_,h2⟩:=vw hm
   simp only[Nat.sub_zero]at h2
   obtain⟨u,h3,h4⟩:=hv.get h2
   have ht:t<vs.length:=(List.getElem?_eq_some_iff.1 h3).1
   show v.R V ((vs.toArray++Array.replicate (fn.ntmps - vs.toArray.size) undef).getD t undef)
   rw[Array.getD_eq_getD_getElem?,Array.getElem?_append_left (by simpa using ht)]
   simpa[h3]using h4
theorem ah.of{P:Program}{f:FuncId}{fn:Func}{args:List SX}{ck:List Chunk}{ret:SV}{ck':List Chunk}(hf:P.funcs[f]?=some fn)(hb:fn.body.isSome=true)(hn:Nat.ble args.length fn.ntmps=true)
 (h:∀Γ,J P f (ar fn) Γ (Eq2 ret ck') [.code []] (il fn.ntmps args ck)):ah P f args ck ret ck':=by
 intro w V vs hw hT hv
 refine(mi hf (nB hb) hn (Γ:=entry ck V w) rfl (h _) hw hT hv).mono fun e w' hq=>?_
 rcases hq with hq |hq
 case inr=>exact False.elim hq
 obtain⟨v,V',r,c,rfl,⟨rfl,rfl⟩,h1,h2⟩:=hq
 exact⟨v,V',rfl,h1,h2⟩
section
variable{P:Program}{cfg:Cfg}{f:Go.Sy.Md}{fn:Func}{root:Code}{Γ:Ctx}{Q:Out}{st st':ST}{todo:List PI}
theorem J.go{f:FuncId}(ht:ag P cfg.tab)(hf:P.funcs[f]?=some fn)(n:Nat){t:Tree}(he:exec P cfg fn root n todo st=t)(h:t.J P f root Γ Q):J P f root Γ Q todo st :=
 dA ht (.inl ⟨rfl,hf⟩) n todo st (he ▸ h)
theorem J.goR(ht:ag P cfg.tab)(hn:Nat.beq fn.endLine 999999999=true)(n:Nat){t:Tree}(he:exec P cfg fn root n todo st=t)(h:t.J P f root Γ Q):J P f root Γ Q todo st :=
 dA ht (.inr hn) n todo st (he ▸ h)
def R9(fn:Func):Func:={fn with endLine:=999999999}
theorem ah.go{f:FuncId}{args:List SX}{ck:List Chunk}{ret:SV}{ck':List Chunk}(ht:ag P cfg.tab)(hf:P.funcs[f]?=some fn)(hb:fn.body.isSome=true)(hn:Nat.ble args.length fn.ntmps=true){t:Tree}
 (he:exec P cfg fn (ar fn) 1000 [.code []] (il fn.ntmps args ck)=t) (h:∀Γ,t.J P f (ar fn) Γ (Eq2 ret ck')):ah P f args ck ret ck' :=
 ah.of hf hb hn fun Γ=>J.go ht hf 1000 he (h Γ)
theorem J.kn(l:List Nat)(h:J P f root Γ Q todo {st with kn:=l}):J P f root Γ Q todo st :=
 fun hT V a w r=>h hT V a w ⟨r.1,r.2,r.3,r.4,r.5⟩
theorem J.wanted(ht:ag P cfg.tab){p:List Nat}{i j d:Nat}{k:List PI}{o:Oper}{want:Bool}(ho:(opsOf (sub root p))[i]?=some o)(hg:o.guard=some (j,want))(hs:((opsOf (sub root p))[j]?).bind (·.dst)=some d)
 (hb:lookup st.fr d=some (.x (.c (.pd (.bool want))))) {q:Option Prop} (h:ra P cfg o st=some (q,st')) (hq:Holds q) (hk:J P f root Γ Q (.ops p (i+1)::k) st'):J P f root Γ Q (.ops p i::k) st:=by
 intro hT V a w r
 have hon:a.tmps.getD d undef = .bool want:=by
  have:=r.slots d _ (cT hb)
  have h2:SX.R V (.c (.pd (.bool want))) (a.tmps.getD d undef):=this
  generalize a.tmps.getD d undef=u at h2 ⊢
  cases h2;rfl
 have hi:i<(opsOf (sub root p)).size:=(Array.getElem?_eq_some_iff.1 ho).1
 have hsz:(opsOf (sub root p)).size - i=((opsOf (sub root p)).size - (i+1))+1:=by omega
 simp only[aq,PI.den]
 rw[hsz,bG]
 exact kH ⟨ht,hT⟩ r ho (kv hg hs hon) h hq fun V' a' w' r'=>hk hT V' a' w' r'
def yE(P:Program)(cfg:Cfg)(root:Code)(p:List Nat)(i:Nat)(st:ST):Option (Option Prop×ST) :=
 match(opsOf (sub root p))[i]? with
 | some o=>match o.guard with
   | some (j,want)=>match((opsOf (sub root p))[j]?).bind (·.dst)with
     | some d=>match lookup st.fr d with
       | some (.x (.c (.pd (.bool true))))=>match want with
         |true=>ra P cfg o st
         |false=>none
       |_=>none
     |none=>none
   |none=>none
 |none=>none
theorem J.run(ht:ag P cfg.tab){p:List Nat}{i:Nat}{k:List PI}{q:Option Prop}(h:yE P cfg root p i st=some (q,st'))(hq:Holds q)(hk:J P f root Γ Q (.ops p (i+1)::k) st'):J P f root Γ Q (.ops p i::k) st:=by
 unfold yE at h
 split at h
 · rename_i o ho
   split at h
   · rename_i j want hg
     split at h
     · rename_i d hd
       split at h
       · rename_i hb
         split at h
         ·exact J.wanted ht ho hg hd hb h hq hk
         ·cases h
       ·cases h
     ·cases h
   ·cases h
 ·cases h
theorem J.eq(h:st=st')(hk:J P f root Γ Q todo st'):J P f root Γ Q todo st:=h ▸ hk
theorem J.mono{Q':Out}(h:∀v ck,Q' v ck→Q v ck)(hk:J P f root Γ Q' todo st):J P f root Γ Q todo st:=by
 intro hT V a w r
 refine Go.Sy.Fin.mono (fun e w' hq=>?_) (hk hT V a w r)
 rcases hq with⟨v,V',ret,ck',q1,q2,q3,q4⟩ |hq
 ·exact .inl ⟨v,V',ret,ck',q1,h _ _ q2,q3,q4⟩
 ·exact .inr hq
theorem J.nilOwn(d:Nat)(e:TypeId)(t:ETy)(hl:(match lookup st.fr d with |some (.x (.c (.pd (.v (.slice none 0 0)))))=>true |_=>false)=true)(hwf:st.wf=true)
 (hk:J P f root Γ Q todo {st with fr:=st.fr.map (fun p=>bif Nat.beq p.1 d then(p.1,.x (.c (.own st.ck.length)))else p),ck:=st.ck++[.own e t []]}):J P f root Γ Q todo st:=by
 intro hT V a w r
 have hnil:a.tmps.getD d undef = .slice none 0 0:=by
  split at hl
  · rename_i hlk
    have:=r.slots d _ (cT hlk)
    have h2:SX.R V (.c (.pd (.v (.slice none 0 0)))) (a.tmps.getD d undef):=this
    generalize a.tmps.getD d undef=u at h2 ⊢
    cases h2;rfl
  ·cases hl
 have hwf2:mc st.ck=true:=by simp only[ST.wf,af]at hwf;exact hwf.2
 obtain⟨V',hag,_,_,e2,hw⟩:=r.wok.regrow hwf2 (aC r.few.1 r.few.2) none (c:=.own e t []) (v':=.slice none 0 0) (s':=0) (w':=w) (row:=none) (by simp) (World.grownBy.refl _ _) (fun V' hag hH f1 f2=>by
  refine⟨⟨[],?_,.nil,fun b hb=>by rw[f2]at hb;simp[Value.ownBlock]at hb⟩,fun b hb=>by simp[Chunk.blk,f2,Value.ownBlock]at hb⟩
  rw[f2];exact World.ownsRow_nil w 0 e t.size)
 refine hk hT V' a w {size:=r.size,defers:=r.defers,slots:=?_,wok:=hw,few:=⟨r.few.1,by show st.m≤(st.ck++[Chunk.own e t []]).length;rw[au];have:=r.few.2;omega⟩}
 intro s sv hm
 obtain⟨⟨s',sv'⟩,h5,h6⟩:=aM.1 hm
 simp only[ST.wf,af]at hwf
 cases hb:Nat.beq s' d
 · rw[hb]at h6
   simp only[cond_false,ae]at h6
   obtain⟨rfl,rfl⟩:=h6
   exact(r.slots _ _ h5).agree hag (an.1 hwf.1 _ h5)
 · rw[hb]at h6
   simp only[cond_true,ae]at h6
   obtain⟨rfl,rfl⟩:=h6
   rw[ak hb]
   show _=V'.ov _
   rw[hnil,e2]
theorem J.freeze(tys:Tys)(l:List Nat)(hz:tz tys st l=some st')(hk:J P f root Γ Q todo st'):J P f root Γ Q todo st:=by
 intro hT V a w r
 obtain⟨V',r'⟩:=tA r hz
 exact hk hT V' a w r'
theorem J.len(d:Nat){t:ETy}{l:List t.den}(hl:lookup st.fr d=some (.x (.c (.pd (.lst t l)))))(hk:l.length≤maxLen→J P f root Γ Q todo st):J P f root Γ Q todo st:=by
 intro hT V a w r
 have h:PR V.H (.lst t l) (a.tmps.getD d undef):=r.slots d _ (cT hl)
 refine hk ?_ hT V a w r
 generalize a.tmps.getD d undef=u at h
 cases h with
 |emp _ ao cap h=>exact aS _
 |lst _ _ b off cap cells e fr hb hc hm hs h=>exact aC hc hm
theorem aG{k n:Nat}(h:k<n)(hn:n≤maxLen):k<9223372036854775807:=by unfold maxLen at hn;omega
end
/-! ### short forms for entries and runs -/
abbrev Ent:=Nat×(List SX→List Chunk→Option (Option Prop×SV×List Chunk))
abbrev EntOk(P:Program)(e:Ent):Prop:=∀(vs:List SX) (ck:List Chunk) (p:Option Prop) (ret:SV) (ck':List Chunk),e.2 vs ck=some (p,ret,ck')→Holds p→ah P e.1 vs ck ret ck'
def EntP(P:Program)(f:Nat)(vs:List SX)(ck:List Chunk)(o:Option (Option Prop×SV×List Chunk)):Prop:=∀(p:Option Prop) (ret:SV) (ck':List Chunk),o=some (p,ret,ck')→Holds p→ah P f vs ck ret ck'
theorem entN{P:Program}{f:Nat}{vs:List SX}{ck:List Chunk}:EntP P f vs ck none:=fun _ _ _ h=>by cases h
theorem entS{P:Program}{f:Nat}{vs:List SX}{ck:List Chunk}{p:Option Prop}{ret:SV}{ck':List Chunk}(h:Holds p→ah P f vs ck ret ck'):EntP P f vs ck (some (p,ret,ck')):=fun _ _ _ e hp=>by
 simp only[aa,ae]at e
 obtain⟨rfl,rfl,rfl⟩:=e
 exact h hp
theorem entOk{P:Program}{e:Ent}(h:∀vs ck,EntP P e.1 vs ck (e.2 vs ck)):EntOk P e:=fun vs ck _ _ _ he hp=>h vs ck _ _ _ he hp
abbrev inRg(k:Int)(n:Nat):Prop:=0≤k∧k<n
section
variable{P:Program}{cfg:Cfg}{f:FuncId}{fn:Func}{root:Code}{Γ:Ctx}{Q:Out}{st:ST}{todo:List PI}
theorem jg(ht:ag P cfg.tab)(hf:P.funcs[f]?=some fn)(t:Tree)(h:t.J P f root Γ Q)(he:exec P cfg fn root 1000 todo st=t:=by kernel_rfl):J P f root Γ Q todo st:=J.go ht hf 1000 he h
theorem dg{args:List SX}{ck:List Chunk}{ret:SV}{ck':List Chunk}(ht:ag P cfg.tab)(hf:P.funcs[f]?=some fn)(t:Tree)(h:∀Γ,t.J P f (ar fn) Γ (Eq2 ret ck'))(he:exec P cfg fn (ar fn) 1000 [.code []] (il fn.ntmps args ck)=t:=by kernel_rfl)(hb:fn.body.isSome=true:=by kernel_rfl)(hn:Nat.ble args.length fn.ntmps=true:=by kernel_rfl):ah P f args ck ret ck':=ah.go ht hf hb hn he h
end
def lD(i n:Nat)(j:Nat):Nat:=bif Nat.beq j i then n else j
def JS(i:Nat)(st:ST):ST:=match st.ck[i]? with
 |some (.own e t l)=>{st with fr:=st.fr.map (fun p=>(p.1,p.2.map (lD i st.ck.length))),ck:=(cZ (some i) st.ck++[Chunk.own e t l]).map (Chunk.map (lD i st.ck.length))}
 |_=>st
section
variable{P:Program}{f:Go.Sy.Md}{root:Code}{Γ:Ctx}{Q:Out}{st:ST}{todo:List PI}
theorem WOk.renamed{ck:List Chunk}{V:Vn}{w:World}(r:WOk Γ ck V w){ρ:Nat→Nat}(h:∀s,Turned ρ V V s):WOk Γ (ck.map (Chunk.map ρ)) V w:=by
 have hget:∀(i:Nat) (c:Chunk),(ck.map (Chunk.map ρ))[i]?=some c→∃c0,ck[i]?=some c0∧c=c0.map ρ:=by
  intro i c hc
  rw[List.getElem?_map,aj]at hc
  obtain⟨c0,h1,h2⟩:=hc
  exact⟨c0,h1,h2.symm⟩
 have hblk:∀(i:Nat) (c0:Chunk),(c0.map ρ).blk V i=c0.blk V i:=fun i c0=>by cases c0 <;> rfl
 refine{ext:=r.ext,imm:=r.imm,hle:=r.hle,frz:=r.frz,agr:=r.agr,own:=?_,base:=?_,inj:=?_}
 · intro i c hc
   obtain⟨c0,h1,rfl⟩:=hget i c hc
   have h2:=r.own i c0 h1
   cases c0 with
   |dead=>trivial
   | cells cs e =>
     obtain⟨us,h3,h4⟩:=h2
     exact⟨us,h3,sr (h _) h4⟩
   |own e t l=>exact h2
   | obj o =>
     refine⟨?_,h2.2⟩
     show _=some ((o.map ρ).mem V)
     rw[Ob.mem_map (h _)];exact h2.1
 · intro i c b hc hb
   obtain⟨c0,h1,rfl⟩:=hget i c hc
   rw[hblk]at hb
   exact r.base i c0 b h1 hb
 · intro i j c d b hc hd hb1 hb2
   obtain⟨c0,h1,rfl⟩:=hget i c hc
   obtain⟨d0,h2,rfl⟩:=hget j d hd
   rw[hblk]at hb1 hb2
   exact r.inj i j c0 d0 b h1 h2 hb1 hb2
theorem J.move(i:Nat)(hwf:st.wf=true)(hk:J P f root Γ Q todo (JS i st)):J P f root Γ Q todo st:=by
 unfold JS at hk
 split at hk
 · rename_i e t l hck
   intro hT V a w r
   obtain⟨xs,h1,h2,h3⟩:=r.wok.own i _ hck
   have hi:i<st.ck.length:=(List.getElem?_eq_some_iff.1 hck).1
   obtain⟨V',hag,hH,g1,g2,r'⟩:=r.grow hwf (some i) (c:=.own e t l) (v':=V.ov i) (s':=V.σ i) (w':=w) (row:=(V.ov i).ownBlock) (fun b hb=>⟨i,_,rfl,hck,hb⟩) (World.grownBy.refl _ _) (fun V' hag hH f1 f2=>by
    refine⟨⟨xs,by rw[f2];exact h1,by rw[hH];exact h2,fun b hb=>?_⟩,fun b hb=>.inl ?_⟩
    ·rw[f2]at hb;rw[f1];exact h3 b hb
    ·simpa only[Chunk.blk,f2]using hb)
   have hT2:∀s,Turned (lD i st.ck.length) V' V' s:=fun s=>⟨HLe.refl _,fun j _=>by
    unfold lD
    cases hb:Nat.beq j i
    ·exact⟨rfl,rfl⟩
    · have:=ak hb
      subst this
      have hs:=hag.same j hi
      simp only[cond_true]
      exact⟨g1.trans hs.1.symm,g2.trans hs.2.symm⟩⟩
   refine hk hT V' a w {size:=r'.size,defers:=r'.defers,slots:=?_,wok:=r'.wok.renamed hT2,few:=?_}
   · intro s sv hm
     obtain⟨⟨s',sv'⟩,h5,h6⟩:=aM.1 hm
     simp only[ae]at h6
     obtain⟨rfl,rfl⟩:=h6
     exact(r'.slots _ _ h5).map (hT2 _)
   · have:=r'.few
     simpa using this
 ·exact hk
theorem WOk.moved{cs:List SC}{e E:TypeId}{t:ETy}{l:List t.den}{V:Vn}{w:World}(r:WOk Γ [.cells cs e,.own E t l] V w)(hm:Γ.m≤2)(hcs:(cs.flatMap SC.refs).all (fun i=>Nat.blt i 2)=true) :
 ∃V':Vn,HLe V.H V'.H∧WOk Γ [.cells (cs.map (SC.map (lD 1 2))) e,.dead,.own E t l] V' w:=by
 let V2:Vn:=⟨V.H,fun i=>if i=2 then V.σ 1 else V.σ i,fun i=>if i=2 then V.ov 1 else V.ov i⟩
 have hT:Turned (lD 1 2) V V2 (cs.flatMap SC.refs):=⟨HLe.refl _,fun j hj=>by
  have hj2:j<2:=by have:=an.1 hcs j hj;simpa using this
  unfold lD
  cases hb:Nat.beq j 1
  · simp only[cond_false,V2]
    exact⟨if_neg (by omega),if_neg (by omega)⟩
  · have:=ak hb
    subst this
    exact⟨rfl,rfl⟩⟩
 have e0:V2.σ 0=V.σ 0:=rfl
 have e2:V2.ov 2=V.ov 1:=rfl
 have e3:V2.σ 2=V.σ 1:=rfl
 have hget:∀(i:Nat) (c:Chunk) (b:Nat),[Chunk.cells (cs.map (SC.map (lD 1 2))) e,.dead,.own E t l][i]?=some c→c.blk V2 i=some b→∃(j:Nat) (c0:Chunk),[Chunk.cells cs e,.own E t l][j]?=some c0∧c0.blk V j=some b∧(i=0∧j=0∨i=2∧j=1):=by
  intro i c b hc hb
  match i,hc with
  | 0,hc =>
    simp only[List.getElem?_cons_zero,aa]at hc
    subst hc
    exact⟨0,_,rfl,hb,.inl ⟨rfl,rfl⟩⟩
  | 1,hc =>
    simp only[List.getElem?_cons_succ,List.getElem?_cons_zero,aa]at hc
    subst hc
    cases hb
  | 2,hc =>
    simp only[List.getElem?_cons_succ,List.getElem?_cons_zero,aa]at hc
    subst hc
    exact⟨1,_,rfl,hb,.inr ⟨rfl,rfl⟩⟩
  |i+3,hc=>simp at hc
 refine⟨V2,HLe.refl _,{ext:=r.ext,imm:=r.imm,hle:=r.hle,frz:=r.frz,agr:=?_,own:=?_,base:=?_,inj:=?_}⟩
 · intro i hi
   have h1:=r.agr i hi
   have hne:i≠2:=by omega
   exact⟨(if_neg hne).trans h1.1,(if_neg hne).trans h1.2⟩
 · intro i c hc
   match i,hc with
   | 0,hc =>
     simp only[List.getElem?_cons_zero,aa]at hc
     subst hc
     obtain⟨us,h1,h2⟩:=r.own 0 _ rfl
     exact⟨us,by rw[e0];exact h1,sr hT h2⟩
   | 1,hc =>
     simp only[List.getElem?_cons_succ,List.getElem?_cons_zero,aa]at hc
     subst hc;trivial
   | 2,hc =>
     simp only[List.getElem?_cons_succ,List.getElem?_cons_zero,aa]at hc
     subst hc
     obtain⟨xs,h1,h2,h3⟩:=r.own 1 _ rfl
     exact⟨xs,by rw[e2];exact h1,h2,fun b hb=>by rw[e2]at hb;rw[e3];exact h3 b hb⟩
   |i+3,hc=>simp at hc
 · intro i c b hc hb
   obtain⟨j,c0,h1,h2,_⟩:=hget i c b hc hb
   exact r.base j c0 b h1 h2
 · intro i j c d b hc hd hb hb2
   obtain⟨i',c0,h1,h2,h3⟩:=hget i c b hc hb
   obtain⟨j',d0,g1,g2,g3⟩:=hget j d b hd hb2
   have:=r.inj i' j' c0 d0 b h1 g1 h2 g2
   rcases h3 with⟨rfl,rfl⟩ |⟨rfl,rfl⟩ <;> rcases g3 with⟨rfl,rfl⟩ |⟨rfl,rfl⟩ <;> omega
def Kept(ret:SV)(cs:List SC)(e E:TypeId)(t:ETy)(l:List t.den):Out:=fun v ck=>v=ret∧(ck=[.cells cs e,.own E t l]∨ck=[.cells (cs.map (SC.map (lD 1 2))) e,.dead,.own E t l])
theorem ah.kept{f:FuncId}{fn:Func}{args:List SX}{ck:List Chunk}{cs:List SC}{e E:TypeId}{t:ETy}{l:List t.den}{ret:SV}(hf:P.funcs[f]?=some fn)(hb:fn.body.isSome=true)(hn:Nat.ble args.length fn.ntmps=true)(hl:ck.length=2)
 (hr:ret = .tup []∨∃p,ret = .x (.c (.pd p))) (hcs:(cs.flatMap SC.refs).all (fun i=>Nat.blt i 2)=true)
 (h:∀Γ,J P f (ar fn) Γ (Kept ret cs e E t l) [.code []] (il fn.ntmps args ck)):ah P f args ck ret [.cells (cs.map (SC.map (lD 1 2))) e,.dead,.own E t l]:=by
 intro w V vs hw hT hv
 refine(mi hf (nB hb) hn (Γ:=entry ck V w) rfl (h _) hw hT hv).mono fun en w' hq=>?_
 rcases hq with hq |hq
 case inr=>exact False.elim hq
 obtain⟨v,V',r,c,rfl,⟨rfl,hc⟩,h1,h2⟩:=hq
 rcases hc with rfl |rfl
 · have hH:∀V2:Vn,HLe V'.H V2.H→r.R V2 v:=by
    intro V2 hle
    rcases hr with rfl |⟨p,rfl⟩
    · obtain⟨us,e1,h5⟩:=h1
      cases h5
      exact⟨[],e1,.nil⟩
    ·exact PR.mono hle h1
   obtain⟨V2,hle,h3⟩:=h2.moved (by show ck.length≤2;omega) hcs
   exact⟨v,V2,rfl,hH V2 hle,h3⟩
 ·exact⟨v,V',rfl,h1,h2⟩
end
section
variable{P:Program}{f:Go.Sy.Md}{root:Code}{Γ:Ctx}{Q:Out}{st:ST}{todo:List PI}
theorem ah.renum{f:FuncId}{fn:Func}{args:List SX}{ck ck':List Chunk}{ret:SV}(hf:P.funcs[f]?=some fn)(hb:fn.body.isSome=true)(hn:Nat.ble args.length fn.ntmps=true)(hr:AC ret=true)
 (h:∀Γ,J P f (ar fn) Γ (fun v c=>v=ret∧Rn ck.length c ck') [.code []] (il fn.ntmps args ck)):ah P f args ck ret ck':=by
 intro w V vs hw hT hv
 refine(mi hf (nB hb) hn (Γ:=entry ck V w) rfl (h _) hw hT hv).mono fun en w' hq=>?_
 rcases hq with hq |hq
 case inr=>exact False.elim hq
 obtain⟨v,V',r,c,rfl,⟨rfl,hc⟩,h1,h2⟩:=hq
 obtain⟨ρ,ρ',hc⟩:=hc
 obtain⟨V2,_,h3,_⟩:=h2.renum (m:=ck.length) (av _) hc
 exact⟨v,V2,rfl,xW hr h1,h3⟩
theorem J.renum(ρ ρ':Nat→Nat){ck':List Chunk}(h:RnW ρ ρ' st.m st.ck ck')(hl:st.m≤ck'.length)(hs:∀p∈st.fr,∀i∈p.2.refs,ρ' (ρ i)=i)
 (hk:J P f root Γ Q todo {st with fr:=st.fr.map (fun p=>(p.1,p.2.map ρ)),ck:=ck'}):J P f root Γ Q todo st:=by
 intro hT V a w r
 obtain⟨V2,_,h3,h4⟩:=r.wok.renum r.few.1 h
 refine hk hT V2 a w {size:=r.size,defers:=r.defers,slots:=?_,wok:=h3,few:=⟨r.few.1,hl⟩}
 intro s sv hm
 obtain⟨⟨s',sv'⟩,h5,h6⟩:=aM.1 hm
 simp only[ae]at h6
 obtain⟨rfl,rfl⟩:=h6
 exact(r.slots _ _ h5).map (h4 _ (hs _ h5))
theorem J.nilCk (i k:Nat) (e:TypeId) (t:ETy) {cs:List SC} {E:TypeId} (hc:st.ck[i]?=some (.cells cs E)) (hk:cs[k]?=some (.pd (.v (.slice none 0 0)))) (hwf:st.wf=true)
 (hj:J P f root Γ Q todo {st with ck:=st.ck.set i (.cells (cs.set k (.own st.ck.length)) E)++[.own e t []]}):J P f root Γ Q todo st:=by
 intro hT V a w r
 have hwf2:mc st.ck=true:=by simp only[ST.wf,af]at hwf;exact hwf.2
 have hwf1:=hwf
 simp only[ST.wf,af]at hwf1
 obtain⟨V',hag,_,_,e2,hw⟩:=r.wok.regrow hwf2 (aC r.few.1 r.few.2) none (c:=.own e t []) (v':=.slice none 0 0) (s':=0) (w':=w) (row:=none) (by simp) (World.grownBy.refl _ _) (fun V' hag hH f1 f2=>by
  refine⟨⟨[],?_,.nil,fun b hb=>by rw[f2]at hb;simp[Value.ownBlock]at hb⟩,fun b hb=>by simp[Chunk.blk,f2,Value.ownBlock]at hb⟩
  rw[f2];exact World.ownsRow_nil w 0 e t.size)
 have hi:i<st.ck.length:=(List.getElem?_eq_some_iff.1 hc).1
 have hck:(cZ none st.ck++[Chunk.own e t []])[i]?=some (.cells cs E):=by
  show(st.ck++[Chunk.own e t []])[i]?=_
  rw[List.getElem?_append_left hi];exact hc
 have hset:st.ck.set i (.cells (cs.set k (.own st.ck.length)) E)++[.own e t []]=(cZ none st.ck++[Chunk.own e t []]).set i (.cells (cs.set k (.own st.ck.length)) E):=by
  show _=(st.ck++[Chunk.own e t []]).set i _
  rw[List.set_append_left _ _ hi]
 have hlen:i<(cZ none st.ck++[Chunk.own e t []]).length:=(List.getElem?_eq_some_iff.1 hck).1
 have hget:∀(j:Nat) (c:Chunk),((cZ none st.ck++[Chunk.own e t []]).set i (.cells (cs.set k (.own st.ck.length)) E))[j]?=some c→(j=i∧c = .cells (cs.set k (.own st.ck.length)) E)∨(j≠i∧(cZ none st.ck++[Chunk.own e t []])[j]?=some c):=by
  intro j c hj
  by_cases hji:i=j
  · subst hji
    rw[List.getElem?_set_self hlen]at hj
    simp only[aa]at hj
    exact .inl ⟨rfl,hj.symm⟩
  · rw[List.getElem?_set_ne hji]at hj
    exact .inr ⟨fun e=>hji e.symm,hj⟩
 have hblk:∀(j:Nat) (c:Chunk) (b:Nat),((cZ none st.ck++[Chunk.own e t []]).set i (.cells (cs.set k (.own st.ck.length)) E))[j]?=some c→c.blk V' j=some b→∃c0,(cZ none st.ck++[Chunk.own e t []])[j]?=some c0∧c0.blk V' j=some b:=by
  intro j c b hj hb
  rcases hget j c hj with⟨rfl,rfl⟩ |⟨_,h2⟩
  ·exact⟨_,hck,hb⟩
  ·exact⟨c,h2,hb⟩
 refine hj hT V' a w {size:=r.size,defers:=r.defers,slots:=?_,wok:=?_,few:=⟨r.few.1,?_⟩}
 · intro s sv hm
   exact(r.slots s sv hm).agree hag (an.1 hwf1.1 _ hm)
 · show WOk Γ (st.ck.set i (.cells (cs.set k (.own st.ck.length)) E)++[.own e t []]) V' w
   rw[hset]
   refine{ext:=hw.ext,imm:=hw.imm,hle:=hw.hle,frz:=hw.frz,agr:=hw.agr,own:=?_,base:=?_,inj:=?_}
   · intro j c hj
     rcases hget j c hj with⟨rfl,rfl⟩ |⟨_,h2⟩
     · obtain⟨us,q1,q2⟩:=hw.own j _ hck
       refine⟨us,q1,?_⟩
       obtain⟨u,h6,h7⟩:=q2.get hk
       have hu:u = .slice none 0 0:=by
        have h8:PR V'.H (.v (.slice none 0 0)) u:=h7
        cases h8;rfl
       have h9:=q2.set (a:=SC.own st.ck.length) (b:=u) (show u=V'.ov st.ck.length by rw[hu,e2]) k
       have h10:us.set k u=us:=by
        apply List.ext_getElem?
        intro x
        rw[List.getElem?_set]
        split
        · rename_i hx;subst hx
          split
          ·exact h6.symm
          ·rename_i hlt;rw[List.getElem?_eq_none (by omega)]
        ·rfl
       rw[h10]at h9
       exact h9
     ·exact hw.own j c h2
   · intro j c b hj hb
     obtain⟨c0,h1,h2⟩:=hblk j c b hj hb
     exact hw.base j c0 b h1 h2
   · intro x y c d b hc' hd hb hb2
     obtain⟨c0,h1,h2⟩:=hblk x c b hc' hb
     obtain⟨d0,g1,g2⟩:=hblk y d b hd hb2
     exact hw.inj x y c0 d0 b h1 g1 h2 g2
 · show st.m≤(st.ck.set i (.cells (cs.set k (SC.own st.ck.length)) E)++[Chunk.own e t []]).length
   rw[au,bA];have:=r.few.2;omega
end
def JX(P:Program)(root:Code)(p:List Nat)(i:Nat)(st:ST):Option (Nat×Nat) :=
 match(opsOf (sub root p))[i]? with
 | some o=>match o.guard,o.dst,o.op with
   | none,some d,.binOp .eql ty (.tmp s) (.const (.slice none 0 0)) _=>match P.underlying ty,lookup st.fr s with
     |some (.slice _),some (.x (.c (.pd (.lst _ _))))=>bif Nat.blt d st.n then some (d,s)else none
     |_,_=>none
   |_,_,_=>none
 |none=>none
section
variable{P:Program}{f:Go.Sy.Md}{root:Code}{Γ:Ctx}{Q:Out}{st:ST}{k:List PI}
theorem J.isNil{p:List Nat}{i d s:Nat}{t:ETy}{l:List t.den}(h:JX P root p i st=some (d,s))(hl:lookup st.fr s=some (.x (.c (.pd (.lst t l)))))
 (h0:l=[]→J P f root Γ Q (.ops p (i+1)::k) {st with fr:=bH d (.x (.b true)) st.fr})
 (h1:J P f root Γ Q (.ops p (i+1)::k) {st with fr:=bH d (.x (.b false)) st.fr}):J P f root Γ Q (.ops p i::k) st:=by
 unfold JX at h
 split at h
 · rename_i o ho
   split at h
   · rename_i d' ty s' yt hg hd hop
     split at h
     · rename_i e t' l' hu hlk
       cases hb:Nat.blt d' st.n
       ·rw[hb]at h;cases h
       · rw[hb]at h
         simp only[cond_true,aa,ae]at h
         obtain⟨rfl,rfl⟩:=h
         intro hT V a w r
         have hi:i<(opsOf (sub root p)).size:=(Array.getElem?_eq_some_iff.1 ho).1
         have hsz:(opsOf (sub root p)).size - i=((opsOf (sub root p)).size - (i+1))+1:=by omega
         simp only[aq,PI.den]
         rw[hsz,bG]
         have hv:PR V.H (.lst t l) (a.tmps.getD s' undef):=r.slots s' _ (cT hl)
         have hput:∀b:Bool,er st (some d') (.x (.b b))=some {st with fr:=bH d' (.x (.b b)) st.fr}:=fun b=>by
          simp only[er,hb,cond_true]
         have run:∀(ao:Option Addr) (n c:Nat),a.tmps.getD s' undef = .slice ao n c→(execOp a.eval o).run P w = .ok (.value (.bool ao.isNone)) w:=by
          intro ao n c hs
          obtain⟨dst,op,ty',pos,after,guard⟩:=o
          simp only at hop
          subst hop
          simp only[execOp]
          refine bo ?_
          have e1:a.eval (.tmp s') = .slice ao n c:=hs
          have e2:a.eval (.const (.slice none 0 0)) = .slice none 0 0:=rfl
          rw[e1,e2]
          simp only[Sem.run_bind,gN .eql ty (.tmp s') (.const (.slice none 0 0)) (a:=.slice ao n c) (b:=.slice none 0 0) ⟨fun _ e=>(by cases e),(by intro e;cases e)⟩,Result.andThen_ok]
          rw[Lib.run_eql_slice_nil w ty e ao n c 0 0 hu]
         have hw:Region.wanted o (yielded (opsOf (sub root p)) a.tmps)=true:=by simp only[Region.wanted,hg]
         have go:∀b:Bool,(execOp a.eval o).run P w = .ok (.value (.bool b)) w→(J P f root Γ Q (.ops p (i+1)::k) {st with fr:=bH d' (.x (.b b)) st.fr})→_:=fun b hr hj =>
          Go.Sy.Fin.op_value ho hw hr (by
           rw[hd]
           exact hj hT V _ _ (dj r (hput b) (v:=.bool b) (.bool b)))
         generalize hus:a.tmps.getD s' undef=u at hv run
         cases hv with
         | emp _ ao cap he =>
           cases ao with
           |none=>exact go true (run none 0 cap rfl) (h0 rfl)
           |some x=>exact go false (run (some x) 0 cap rfl) h1
         |lst _ _ b off cap cells e' fr hb' hc hm hs hh=>exact go false (run _ _ cap rfl) h1
     ·cases h
   ·cases h
 ·cases h
theorem ah.ret{f:FuncId}{args:List SX}{ck ck':List Chunk}{ret ret':SV}(h:ah P f args ck ret ck')(hr:∀(V:Vn) (v:Value),ret.R V v→ret'.R V v):ah P f args ck ret' ck':=by
 intro w V vs hw hT hv
 refine(h w V vs hw hT hv).mono fun e w' hq=>?_
 obtain⟨v,V',rfl,h1,h2⟩:=hq
 exact⟨v,V',rfl,hr _ _ h1,h2⟩
theorem ah.nilOwn{f:FuncId}{fn:Func}{args:List SX}{e:TypeId}{t:ETy}{l:List t.den}(hf:P.funcs[f]?=some fn)(hb:fn.body.isSome=true)(hn:Nat.ble args.length fn.ntmps=true)
 (h:∀Γ,J P f (ar fn) Γ (fun v ck=>(v = .x (.c (.own 0))∧ck=[.own e t l])∨(l=[]∧v = .x (.c (.pd (.v (.slice none 0 0))))∧ck=[])) [.code []] (il fn.ntmps args [])):ah P f args [] (.x (.c (.own 0))) [.own e t l]:=by
 intro w V vs hw hT hv
 refine(mi hf (nB hb) hn (Γ:=entry [] V w) rfl (h _) hw hT hv).mono fun en w' hq=>?_
 rcases hq with hq |hq
 case inr=>exact False.elim hq
 obtain⟨v,V',r,c,rfl,hc,h1,h2⟩:=hq
 rcases hc with⟨rfl,rfl⟩ |⟨rfl,rfl,rfl⟩
 ·exact⟨v,V',rfl,h1,h2⟩
 · have hv:v = .slice none 0 0:=by
    have h3:PR V'.H (.v (.slice none 0 0)) v:=h1
    cases h3;rfl
   obtain⟨V2,hag,_,_,e2,hw2⟩:=h2.regrow (ck:=[]) rfl (aS _) none (c:=.own e t []) (v':=.slice none 0 0) (s':=0) (w':=w') (row:=none) (by simp) (World.grownBy.refl _ _) (fun V' hag hH f1 f2=>by
    have f3:V'.ov 0 = .slice none 0 0:=f2
    refine⟨⟨[],?_,.nil,fun b hb=>by rw[f2]at hb;simp[Value.ownBlock]at hb⟩,fun b hb=>by simp[Chunk.blk,f3,Value.ownBlock]at hb⟩
    rw[f2];exact World.ownsRow_nil w' 0 e t.size)
   refine⟨v,V2,rfl,?_,hw2⟩
   show v=V2.ov 0
   rw[hv];exact e2.symm
/-! ### blocks in another order -/
end
section
variable{P:Program}{f:FuncId}
theorem ah.mark{args:List SX}{ck ck':List Chunk}{ret:SV}(h:ah P f args ck ret ck'):ah P f args ck ret (ck'++[.dead]):=by
 intro w V vs hw hT hv
 refine(h w V vs hw hT hv).mono fun en w' hq=>?_
 obtain⟨v,V',rfl,h1,h2⟩:=hq
 refine⟨v,V',rfl,h1,h2.sub fun x c hc=>?_⟩
 by_cases hx:x<ck'.length
 ·right;rwa[List.getElem?_append_left hx]at hc
 · left
   rw[List.getElem?_append_right (by omega)]at hc
   exact(aQ.1 (List.mem_of_getElem? hc))
end
def iN:List (Str×Nat)→Str→Option Nat
 |[],_=>none
 |p::r,s=>bif p.1==s then some p.2 else iN r s
theorem Rl{a b:Str}(h:bs a=bs b):a=b:=by
 have:=congrArg (fun x:ByteArray=>x.data.toList) h
 simpa[gO]using this
theorem sT (s:Str):∀(l:List (Str×Nat)) (es:List MapEntry) (i:Nat),es.map (fun e=>(e.key,e.val))=l.map (fun p=>(Value.string (bs p.1),Value.func (.func p.2) #[] #[])) →
 ∃r,Instr.findNow .string (.string (bs s)) es i=some r∧r.map (·.2)=(iN l s).map fun f=>Value.func (.func f) #[] #[]
 | [],es,i,h=>by
   have:es=[]:=by simpa using h
   subst this
   exact⟨none,rfl,rfl⟩
 | p :: l,es,i,h=>by
   cases es with
   |nil=>simp at h
   | cons e es =>
     simp only[aq,List.cons.injEq,ae]at h
     obtain⟨⟨h1,h2⟩,h3⟩:=h
     have hs:Instr.sameNow .string (.string (bs s)) e.key=some (p.1==s):=by
      rw[h1]
      show some (bs s==bs p.1)=_
      congr 1
      cases hb:p.1==s
      · cases hc:(bs s==bs p.1)
        ·rfl
        · rw[beq_eq_false_iff_ne]at hb
          exact absurd (Rl ((MapKept.bytes_beq _ _).1 hc)).symm hb
      ·rw[eq_of_beq hb];exact(MapKept.bytes_beq _ _).2 rfl
     cases hb:p.1==s
     · obtain⟨r,g1,g2⟩:=sT s l es (i+1) h3
       refine⟨r,?_,?_⟩
       ·simp only[Instr.findNow,hs,hb];exact g1
       ·simp only[iN,hb,cond_false];exact g2
     · refine⟨some (i,e.val),?_,?_⟩
       ·simp only[Instr.findNow,hs,hb]
       ·simp only[iN,hb,cond_true,bu,h2]
theorem xd{P:Program}{w:World}{t kt et:TypeId}{r clock:Nat}{es:Array MapEntry}{l:List (Str×Nat)}(ht:P.underlying t=some (.map kt et))(hk:P.underlying kt=some .string)(hb:w.heap[r]?=some (.map es clock))
 (h:es.toList.map (fun e=>(e.key,e.val))=l.map fun p=>(Value.string (bs p.1),Value.func (.func p.2) #[] #[])) (s:Str) {z:Value} (hz:iN l s=none→(zeroValue et).run P w = .ok z w) :
 (Instr.lookup t (.map (some r)) (.string (bs s)) false).run P w = .ok (match iN l s with |some f=>.func (.func f) #[] #[] |none=>z) w:=by
 obtain⟨q,h1,h2⟩:=sT s l es.toList 0 h
 have hc:∀b,(Instr.checkKey b 10000 kt (.string (bs s))).run P w = .ok () w:=fun b=>by
  rw[show(10000:Nat)=9999+1 from rfl,Instr.checkKey]
  simp only[Sem.run_bind,run_underlying hk,Result.andThen_ok]
  rfl
 have hf:(Instr.findKey kt (.string (bs s)) es.toList).run P w = .ok q w:=by
  simp[Instr.findKey,run_underlying hk,h1,Result.andThen]
 cases hg:iN l s with
 | none =>
   rw[hg]at h2
   have hq:q=none:=by cases q with |none=>rfl |some x=>simp at h2
   subst hq
   simp[Instr.lookup,run_underlying ht,MapKept.run_getObj_map hb,hc,hf,hz hg,Result.andThen]
 | some f =>
   rw[hg]at h2
   cases q with
   |none=>simp at h2
   | some x =>
     obtain⟨i,v⟩:=x
     simp only[bu,aa]at h2
     subst h2
     simp[Instr.lookup,run_underlying ht,MapKept.run_getObj_map hb,hc,hf,Result.andThen]
def sg(P:Program)(root:Code)(p:List Nat)(i:Nat)(st:ST):Option (Nat×Nat×Operand×TypeId) :=
 match(opsOf (sub root p))[i]? with
 | some o=>match o.guard,o.dst,o.op with
   | none,some d,.lookup ty (.tmp m) k false=>match P.underlying ty with
     | some (.map kt et)=>match P.underlying kt with
       |some .string=>bif Nat.blt d st.n then some (d,m,k,et)else none
       |_=>none
     |_=>none
   |_,_,_=>none
 |none=>none
section
variable{P:Program}{f:Go.Sy.Md}{root:Code}{Γ:Ctx}{Q:Out}{st:ST}{k:List PI}
theorem J.lookup{p:List Nat}{i d m:Nat}{kx:Operand}{et:TypeId}{l:List (Str×Nat)}{s:Str}(h:sg P root p i st=some (d,m,kx,et))(hm:lookup st.fr m=some (.x (.c (.pd (.tbl l)))))(hs:bt st none kx=some (.c (.pd (.str s)))){z:PD}{zv:Value}(hz:ig zv=some (.c (.pd z)))
 (hzr:iN l s=none→∀w:World,(zeroValue et).run P w = .ok zv w)
 (hk:J P f root Γ Q (.ops p (i+1)::k) {st with fr:=bH d (.x (match iN l s with |some g=>.c (.fn (.func g) [] []) |none=>.c (.pd z))) st.fr}):J P f root Γ Q (.ops p i::k) st:=by
 unfold sg at h
 split at h
 · rename_i o ho
   split at h
   · rename_i d' ty m' k' hg hd hop
     split at h
     · rename_i kt et' hu
       split at h
       · rename_i hus
         cases hb:Nat.blt d' st.n
         ·rw[hb]at h;cases h
         · rw [hb]at h
           simp only[cond_true,aa,ae]at h
           obtain⟨rfl,rfl,rfl,rfl⟩:=h
           intro hT V a w r
           have hi:i<(opsOf (sub root p)).size:=(Array.getElem?_eq_some_iff.1 ho).1
           have hsz:(opsOf (sub root p)).size - i=((opsOf (sub root p)).size - (i+1))+1:=by omega
           simp only[aq,PI.den]
           rw[hsz,bG]
           have hv:PR V.H (.tbl l) (a.tmps.getD m' undef):=r.slots m' _ (cT hm)
           have hs2:PR V.H (.str s) (a.eval k'):=aJ r (g:=none) trivial hs
           have hw:Region.wanted o (yielded (opsOf (sub root p)) a.tmps)=true:=by simp only[Region.wanted,hg]
           have hput:∀sx:SX,er st (some d') (.x sx)=some {st with fr:=bH d' (.x sx) st.fr}:=fun sx=>by simp only[er,hb,cond_true]
           have e1:a.eval (.tmp m')=a.tmps.getD m' undef:=rfl
           generalize hus2:a.tmps.getD m' undef=u at hv e1
           generalize hks:a.eval k'=ks at hs2
           cases hs2
           cases hv with
           | tbl _ b es clock hbk hes =>
             have hrun:=xd (P:=P) (w:=w) (t:=ty) (kt:=kt) (et:=et') hu hus (r.wok.imm _ _ hbk) hes s (z:=zv) (fun hn=>hzr hn w)
             have hr:(execOp a.eval o).run P w = .ok (.value (match iN l s with |some f=>.func (.func f) #[] #[] |none=>zv)) w:=by
              obtain⟨dst,op,ty',pos,after,guard⟩:=o
              simp only at hop
              subst hop
              simp only[execOp]
              refine bo ?_
              rw[e1,hks];exact hrun
             refine Go.Sy.Fin.op_value ho hw hr ?_
             rw[hd]
             refine hk hT V _ _ (dj r (hput _) ?_)
             cases iN l s with
             |none=>exact Bo hz
             |some g=>exact⟨[],[],rfl,.nil,.nil⟩
       ·cases h
     ·cases h
   ·cases h
 ·cases h
end
end Go.Ev
