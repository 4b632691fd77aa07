/- An executor for function bodies of the model over data, part VG: the rule of a range over a function. Conditions: the rule's own. Plain functions: names, cells, kinds. Conditions: none. Contracts: trees of states: past, the end of a state, children handed out. Conditions: none. -/
import Derived.Test.YtcopfgbbjdefbaaGreatDoorVf
import Derived.Test.YtcopfgbbjdefbaaGreatDoorRows
import Derived.Test.YtcopfgbbjdefbaaGreatDoorPY
namespace Go.Ev
open Go.RowKit
variable {P:Program} {Γ:Ctx} {Q:Out} {m:FuncId} {fn:Func} {root:Code} {st:ST} {p:List Nat} {k:List PI} {g s d gf:Nat}
theorem gO.turn {Γ':Ctx} {Q:Out} {e:Ending} {w:World} (h:Γ'.base=Γ.base) (q:gO Γ' Q e w):gO Γ Q e w:=by
 obtain ⟨v,V',ret,ck',h1,h2,h3,h4⟩:=q
 exact ⟨v,V',ret,ck',h1,h2,h3,by rw [← h]; exact h4⟩
theorem J.ranges {id:Nat} {o:Oper} {body:Code} {caps:List RC} {ok:Int→Prop} {xs:List Int}
 (hf:P.funcs[m]?=some fn) (hc:sub root p = .rangeFunc (.tmp g) #[s] (.region id #[o] false) body) (ho1:o.op = .assign (.tmp s)) (ho2:o.dst=some d) (ho3:o.guard=none) (hs:Nat.blt s st.n=true) (hd:Nat.blt d st.n=true) (hsd:Nat.beq s d=false)
 (hg:Ev.lookup st.fr g=some (.x (.c (.fn (.func gf) [] caps)))) (hgf:∀ args w,(callFunc gf args).run P w = .ok (.enter gf args) w) (hwf:st.wf=true) (hit:Iter P gf caps ok xs)
 (cf badx:List Int→Prop) (hg0:cf []) (ckf ckx:List Int→List Chunk) (h0:ckf []=st.ck) (hlf:∀ l,(ckf l).length=st.ck.length) (hlx:∀ l,(ckx l).length=st.ck.length) (hnf:∀ l,(ckf l).all Chunk.noTbl=true) (hnx:∀ l,(ckx l).all Chunk.noTbl=true)
 (hround:∀ (l:Nat) (pre:List Int) (x:Int) (Γ:Ctx),Γ.ds=[]→ok x→(∀ y∈pre,ok y)→cf pre→pre.length<xs.length→J P ⟨m,some l⟩ root Γ (fun v ck=>(v = .x (.b true)∧cf (pre++[x])∧ck=ckf (pre++[x]))∨(v = .x (.b false)∧badx (pre++[x])∧ck=ckx (pre++[x]))) [.code (p++[1])]
  { n:=st.n,fr:=bD d (.x (.i x)) (bD s (.x (.i x)) st.fr),ck:=ckf pre,m:=(ckf pre).length })
 (hdone:cf xs→∀ Γ',J P m root Γ' Q k { st with ck:=ckf xs })
 (hstop:∀ pre,pre <+: xs→badx pre→∃ l,fU P { st with ck:=ckx pre } fn.results.toList=some l∧Q (fy { st with ck:=ckx pre } (fS l)).1 (fy { st with ck:=ckx pre } (fS l)).2) :
 J P m root Γ Q (.code p::k) st:=by
 intro hT V a w r
 have hs':s<st.n:=aq hs
 have hd':d<st.n:=aq hd
 have hwf2:=hwf
 simp only [ST.wf,af] at hwf2
 have hgv:=r.slots g _ (cl hg)
 obtain ⟨ua,ub,hgv,hua,hub⟩:=hgv
 cases hua
 have hag:a.eval (.tmp g) = .func (.func gf) #[] ub.toArray:=hgv
 have hTV:fG P V.H:=hT.mono r.wok.hle
 have hΓ:Γ.m≤st.ck.length:=au r.few.1 r.few.2
 let I:List { x:Int // ok x }→World→Prop:=fun ys W=>cf (ys.map (·.1))∧∃ V',Agree st.ck.length V V'∧Cl V.H V'.H∧WOk Γ (ckf (ys.map (·.1))) V' W
 let Ix:Code→List { x:Int // ok x }→World→Prop:=fun c ys W=>(c = .ret∧badx (ys.map (·.1)))∧∃ V',Agree st.ck.length V V'∧Cl V.H V'.H∧WOk Γ (ckx (ys.map (·.1))) V' W
 let Ax:{ x:Int // ok x }→Act→World→Prop:=fun x a' _=>a'=(({ a with defers:=[] }:Act).put (some s) (.int .i64 x.1)).put (some d) (.int .i64 x.1)
 have hI:OwnFrom w.heap.size I:=fun ys W W' row ⟨q0,V',q1,q2,q3⟩ hgr hrow=>⟨q0,V',q1,q2,q3.turned q2 r.wok.imm r.wok.ext.size hgr hrow⟩
 have hIx:∀ c,OwnFrom w.heap.size (Ix c):=fun c ys W W' row ⟨q0,V',q1,q2,q3⟩ hgr hrow=>⟨q0,V',q1,q2,q3.turned q2 r.wok.imm r.wok.ext.size hgr hrow⟩
 have hI0:I [] w:=⟨hg0,V,Agree.refl _ _,fun _ _ h=>.inl h,by show WOk Γ (ckf []) V w; rw [h0]; exact r.wok⟩
 have hAx:∀ x a',OwnFrom w.heap.size (fun (_:Unit) W=>Ax x a' W):=fun x a' _ W W' row h _ _=>h
 have hKb:∀ (W:World) (l:Nat) (o o':Obj),w.heap.size≤l→W.heap[l]?=some o→o.isCells=false→o.isWalk=false→KpH V.H W (W.putObj l o'):=fun W l o o' hl _ _ _ =>
  ⟨rfl,rfl,rfl,by simp,fun i hi=>World.putObj_heap_other fun e=>by
   cases h:V.H i with
   | none=>exact hi h
   | some ob=>have:=(Array.getElem?_eq_some_iff.1 (r.wok.imm i ob h)).1; omega⟩
 let Qk:Exit→Act→World→Prop:=fun e a' w'=>match e with
  | .normal=>Go.Sy.Fin P (m:Go.Sy.Md) (gO Γ Q) (k.map (PI.den root)) a' w'
  | .ret=>∃ (v:Value) (ds:List Nat),a'.defers=ds.map (fun D=>({ target:=.collected D,args:=#[] }:Deferred))∧ds.Nodup∧(∀ D∈ds,w'.heap[D]?=some (.deferred (some [])))∧(results fn a'.tmps).run P (Go.Sy.took w' ds) = .ok v (Go.Sy.took w' ds)∧gO Γ Q (.returned v) (Go.Sy.took w' ds)
  | _=>False
 have hH0:∀ D,w.heap.size≤D→Γ.H0 D=none:=fun D hD=>by
  cases h:Γ.H0 D with
  | none=>rfl
  | some ob=>have:=(Array.getElem?_eq_some_iff.1 (r.wok.imm D ob (r.wok.hle D ob h))).1; omega
 have hT':∀ D,w.heap.size≤D→fG P (fun k=>if k=D then some (.deferred (some [])) else Γ.H0 k):=fun D hD=>hT.mono fun k ob h=>by
  show (if k=D then some (.deferred (some [])) else Γ.H0 k)=some ob
  rw [if_neg fun e=>by rw [e,hH0 D hD] at h; cases h]; exact h
 have key:=wpIn_rangeFunc_ownH (F:=Fence.wide) (n:=1) (P:=P) (g:=.tmp g) (ps:=#[s]) (assign:=.region id #[o] false) (body:=body) (Q:=Qk) (a:=a) (w:=w) rfl (ar 1) hag trivial hgf
  (encs:=fun (x:{ x:Int // ok x })=>#[.int .i64 x.1]) (Kp:=KpH V.H) (S:=fun ys=>ys.map (·.1)=xs) (Sp:=fun ys=>ys.map (·.1) <+: xs) (N:=xs.length) (w0:=w) (hit _ V w ub r.wok.imm hTV hub)
  (fun h1 h2=>h1.trans h2) hKb (Below.refl _ _) (fun _=>rfl) I Ix hI hIx hI0 Ax hAx ?assign ?body ?done ?stop
 case assign =>
  intro l pre x W K hi hK
  have hszs:s<a.tmps.size:=by rw [r.size]; exact hs'
  have e:({ tmps:=(#[s].zip #[Value.int .i64 x.1]).foldl (fun t (p,v)=>t.setIfInBounds p v) a.tmps,defers:=[] }:Act)=({ a with defers:=[] }:Act).put (some s) (.int .i64 x.1):=by
   simp [Act.put]
  show (Code.region id #[o] false).wpIn (Fence.wide.inRound l) _ P (Exit.then K _) ({ tmps:=(#[s].zip #[Value.int .i64 x.1]).foldl (fun t (p,v)=>t.setIfInBounds p v) a.tmps,defers:=[] }:Act) W
  rw [e]
  refine ot ho1 ho2 ho3 (hK _ _ (KeepsFrom.refl _ _) ⟨rfl,rfl,rfl,ar _,fun _ _=>rfl⟩ hi ?_)
  show (({ a with defers:=[] }:Act).put (some s) (.int .i64 x.1)).put (some d) ((({ a with defers:=[] }:Act).put (some s) (.int .i64 x.1)).eval (.tmp s))=_
  have e2:((({ a with defers:=[] }:Act).put (some s) (.int .i64 x.1)).eval (.tmp s)) = .int .i64 x.1:=by
   show ((({ a with defers:=[] }:Act).put (some s) (.int .i64 x.1)).tmps.getD s undef)=_
   simp [Act.put,Array.getD,hszs]
  rw [e2]
 case body =>
  intro l pre x a' W hl hrec hi ha hlt
  obtain ⟨hgd,V',q1,q2,q3⟩:=hi
  have ha':a'=(({ a with defers:=[] }:Act).put (some s) (.int .i64 x.1)).put (some d) (.int .i64 x.1):=ha
  have hln:=hlf (pre.map (·.1))
  have r0:Rel (entry (ckf (pre.map (·.1))) V' W) { n:=st.n,fr:=st.fr,ck:=ckf (pre.map (·.1)),m:=(ckf (pre.map (·.1))).length } V' { a with defers:=[] } W :=
   { size:=r.size,defers:=.nil rfl,slots:=fun t sv h=>b4.keep (V:=V') (a:=a) rfl rfl (HLe.refl _).ke rfl ((r.slots t sv h).agree q1 (ak.1 hwf2.1 _ h)),wok:=q3.whole,few:=⟨ar _,ar _⟩ }
  have r1:=r0.put s (.x (.i x.1)) (.int .i64 x.1) hs' fun a2 _ h=>by show SX.R V' (SX.i x.1) (a2.tmps.getD s undef); rw [h]; exact PR.int _ _
  have r2:=r1.put d (.x (.i x.1)) (.int .i64 x.1) hd' fun a2 _ h=>by show SX.R V' (SX.i x.1) (a2.tmps.getD d undef); rw [h]; exact PR.int _ _
  rw [← ha'] at r2
  have hj:=hround l (pre.map (·.1)) x.1 (entry (ckf (pre.map (·.1))) V' W) rfl x.2 (fun y hy=>by obtain ⟨z,_,rfl⟩:=aQ.1 hy; exact z.2) hgd (by rw [aL]; exact hlt) (hTV.mono q1.hle) V' a' W r2
  have hb:sub root (p++[1])=body:=by rw [eZ,hc]; rfl
  simp only [av,b5,PI.den,hb] at hj
  refine wpIn_mono (oG hj) fun e a2 W2 hq=>?_
  have common:∀ {ck:List Chunk} {V2:Vn},WOk (entry (ckf (pre.map (·.1))) V' W) ck V2 W2→ck.length=st.ck.length→ck.all Chunk.noTbl=true→KeepsFrom w.heap.size W W2∧KpH V.H W W2∧∃ V3,Agree st.ck.length V V3∧Cl V.H V3.H∧WOk Γ ck V3 W2:=by
   intro ck V2 hw _ hnt
   have hM:∀ b,(entry (ckf (pre.map (·.1))) V' W).M b→(∃ ob,W.heap[b]?=some ob∧ob.isCells=true)∧V'.H b=none:=fun b ⟨i,c,hci,hcb⟩=>⟨Chunk.blk_cells (q3.own i c hci) hcb,(q3.base i c b hci hcb).2⟩
   refine ⟨⟨hw.ext.size,fun b ob _ hb1 hb2=>?_⟩,⟨hw.ext.os,hw.ext.tape,hw.ext.output,hw.ext.size,fun b hb1=>?_⟩,?_⟩
   · have hlt2:b<W.heap.size:=(Array.getElem?_eq_some_iff.1 hb1).1
     refine (hw.ext.block b hlt2 fun h=>?_).trans hb1
     obtain ⟨⟨o2,h3,h4⟩,_⟩:=hM b h
     rw [hb1] at h3
     simp only [aa] at h3
     rw [← h3,hb2] at h4; cases h4
   · obtain ⟨ob,hob⟩:=Option.ne_none_iff_exists'.1 hb1
     have h5:=q3.imm b ob (q1.hle b ob hob)
     have hlt2:b<W.heap.size:=(Array.getElem?_eq_some_iff.1 h5).1
     refine hw.ext.block b hlt2 fun h=>?_
     have:=(hM b h).2
     rw [q1.hle b ob hob] at this; cases this
   · have hΓ2:Γ.m≤(ckf (pre.map (·.1))).length:=by rw [hln]; exact hΓ
     have hw3:=q3.after hΓ2 hw
     refine hw3.clean (n:=st.ck.length) ⟨q1.hle.trans hw.hle,fun i hi=>?_⟩ r.wok.hle hnt
     have h1:V2.σ i=V'.σ i∧V2.ov i=V'.ov i:=hw.agr i (by show i<(ckf (pre.map (·.1))).length; rw [hln]; exact hi)
     exact ⟨h1.1.trans (q1.same i hi).1,h1.2.trans (q1.same i hi).2⟩
  have hmap:(pre++[x]).map (·.1)=pre.map (·.1)++[x.1]:=by simp
  rcases hq with ⟨rfl,v,V2,ret,ck2,h1,h2,h3,h4⟩ | ⟨rfl,v,V2,ret,ck2,h1,h2,h3,h4⟩
  · rw [iJ rfl] at h4
    simp only [Ending.returned.injEq] at h1
    rcases h2 with ⟨e1,hgx,e2⟩ | ⟨e1,hgx,e2⟩
    · subst e2
      obtain ⟨g1,g2,g3⟩:=common h4 (hlf _) (hnf _)
      refine ⟨g1,g2,?_⟩
      show cf ((pre++[x]).map (·.1))∧∃ V',_∧_∧WOk Γ (ckf ((pre++[x]).map (·.1))) V' W2
      rw [hmap]; exact ⟨hgx,g3⟩
    · subst e1
      have h5:PR V2.H (.bool false) v:=h3
      rw [← h1] at h5; cases h5
  · rw [iJ rfl] at h4
    simp only [Ending.returned.injEq] at h1
    rcases h2 with ⟨e1,hgx,e2⟩ | ⟨e1,hgx,e2⟩
    · subst e1
      have h5:PR V2.H (.bool true) v:=h3
      rw [← h1] at h5; cases h5
    · subst e2
      obtain ⟨g1,g2,g3⟩:=common h4 (hlx _) (hnx _)
      refine ⟨g1,⟨rfl,?_⟩,?_⟩
      · rw [hmap]; exact hgx
      · show ∃ V',_∧_∧WOk Γ (ckx ((pre++[x]).map (·.1))) V' W2
        rw [hmap]; exact g3
 case done =>
  intro D ys W hD hS hi hk
  obtain ⟨hgd,V',q1,q2,q3⟩:=hi
  have hS':ys.map (·.1)=xs:=hS
  rw [hS'] at q3 hgd
  obtain ⟨V2,r2⟩:=r.mark hwf q1 q2 q3 (hlf xs) hD hk
  exact Go.Sy.Fin.mono (fun e w' hq=>hq.turn (kO (hH0 D hD) _)) (hdone hgd _ (hT' D hD) V2 _ W r2)
 case stop =>
  intro D c ys W hD hS hi hk
  obtain ⟨⟨rfl,hbd⟩,V',q1,q2,q3⟩:=hi
  obtain ⟨V2,r2⟩:=r.mark hwf q1 q2 q3 (hlx _) hD hk
  obtain ⟨l,hl1,hl2⟩:=hstop _ hS hbd
  obtain ⟨v,g1,g2⟩:=r2.fin hl1 hl2
  refine wpIn_ret ?_
  exact ⟨v,D::Γ.ds,r2.defers.eq,r2.defers.nodup,fun E hE=>r2.wok.imm _ _ (r2.wok.hle _ _ (r2.defers.at' E hE).1),g1,g2.turn (kO (hH0 D hD) _)⟩
 intro b k' cs hro hb0
 obtain ⟨hb,hkd,hk0⟩:=hb0 rfl
 subst hk0
 simp only [av,PI.den,hc]
 obtain ⟨e,a',w',hq,harr⟩:=key b (k.map (PI.den root)++[]) cs hro trivial (room_wide _)
 have harr':=harr
 cases e with
 | normal=>exact Go.Sy.EndAt.of_steps (stepsIn_wide.1 harr') (hq b [] cs hro hb0)
 | ret =>
   obtain ⟨v,ds,e1,e2,e3,e4,e5⟩:=hq
   obtain ⟨todo,hst⟩:=harr'.1 hro
   refine ⟨.returned v,Go.Sy.took w' ds,_,e5,(stepsIn_wide.1 hst).trans (Go.Sy.leave_marks ds w' _ cs rfl e1 e2 e3),hb,?_⟩
   exact ⟨rfl,rfl,hkd,fn,by simpa [Frame.atR,hb] using hf,e4⟩
 | _=>exact hq.elim
def nU (root:Code) (p:List Nat):Option (Nat×Nat×Nat) :=
 match sub root p with
 | .rangeFunc (.tmp g) ⟨[s]⟩ (.region _ ⟨[o]⟩ false) _=>match o.op,o.dst,o.guard with
   | .assign (.tmp s'),some d,none=>bif Nat.beq s' s then some (g,s,d) else none
   | _,_,_=>none
 | _=>none
theorem J.range {caps:List RC} {ok:Int→Prop} {xs:List Int}
 (hf:P.funcs[m]?=some fn) (hc:nU root p=some (g,s,d)) (hs:Nat.blt s st.n=true) (hd:Nat.blt d st.n=true) (hsd:Nat.beq s d=false)
 (hg:Ev.lookup st.fr g=some (.x (.c (.fn (.func gf) [] caps)))) (hgf:∀ args w,(callFunc gf args).run P w = .ok (.enter gf args) w) (hwf:st.wf=true) (hit:Iter P gf caps ok xs)
 (cf badx:List Int→Prop) (hg0:cf []) (ckf ckx:List Int→List Chunk) (h0:ckf []=st.ck) (hlf:∀ l,(ckf l).length=st.ck.length) (hlx:∀ l,(ckx l).length=st.ck.length) (hnf:∀ l,(ckf l).all Chunk.noTbl=true) (hnx:∀ l,(ckx l).all Chunk.noTbl=true)
 (hround:∀ (l:Nat) (pre:List Int) (x:Int) (Γ:Ctx),Γ.ds=[]→ok x→(∀ y∈pre,ok y)→cf pre→pre.length<xs.length→J P ⟨m,some l⟩ root Γ (fun v ck=>(v = .x (.b true)∧cf (pre++[x])∧ck=ckf (pre++[x]))∨(v = .x (.b false)∧badx (pre++[x])∧ck=ckx (pre++[x]))) [.code (p++[1])]
  { n:=st.n,fr:=bD d (.x (.i x)) (bD s (.x (.i x)) st.fr),ck:=ckf pre,m:=(ckf pre).length })
 (hdone:cf xs→∀ Γ',J P m root Γ' Q k { st with ck:=ckf xs })
 (hstop:∀ pre,pre <+: xs→badx pre→∃ l,fU P { st with ck:=ckx pre } fn.results.toList=some l∧Q (fy { st with ck:=ckx pre } (fS l)).1 (fy { st with ck:=ckx pre } (fS l)).2) :
 J P m root Γ Q (.code p::k) st:=by
 unfold nU at hc
 split at hc
 · rename_i g' s' id o body hcode
   split at hc
   · rename_i s2 d' ho1 ho2 ho3
     cases hb:Nat.beq s2 s'
     · rw [hb] at hc; cases hc
     · rw [hb] at hc
       simp only [cond_true,aa,ae] at hc
       obtain ⟨rfl,rfl,rfl⟩:=hc
       have e:=ai hb
       subst e
       exact J.ranges hf hcode ho1 ho2 ho3 hs hd hsd hg hgf hwf hit cf badx hg0 ckf ckx h0 hlf hlx hnf hnx hround hdone hstop
   · cases hc
 · cases hc
end Go.Ev
namespace Go.Proofs.YtcopfgbbjdefbaaGreatDoor
open Go Go.Ev
def bk:Tys:=[(2,.int),(3,.int),(4,.bool),(5,.byte),(9,.str),(22,.strs),(23,.vars),(24,.stats),(25,.trans),(27,.chart),(29,.ints),(40,.deeds),(42,.stat),(80,.val),(82,.var),(116,.cells),(118,.deed),(123,.tran),(199,.cell),(238,.krow)]
def bP:Cfg:=⟨bk,[]⟩
theorem aT:ah Tryz.prog bP.tab:=ah.nil
def jA (c:UInt8):Bool :=
 (decide ((c.toNat:Int)<97)||decide ((c.toNat:Int)>122))&&(decide ((c.toNat:Int)<48)||decide ((c.toNat:Int)>57))&&((c.toNat:Int) != 95)
variable (op:Int) (l:List Cell) (vars:List Var) (c:Cell) (s:Str) (states:List Str)
def jb:Bool:=s==[]||decide (ax s>12)||decide (((s.getD 0 0).toNat:Int)<97)||decide (((s.getD 0 0).toNat:Int)>122)
def nJ:Bool:=s==[116,114,117,101]||s==[102,97,108,115,101]||s==[105,110]||s==[114,101]||s==[105,109]
def aU:Bool:=!(jb s) && !(s.any jA) && !(nJ s)
def cu (a:Int) (s:Str):Int :=
 bif op==1 then (bif decide (a<0)||decide (a>1099511627776) || !s==[] then -1 else 0)
 else bif op==2 then (bif decide (a<0)||decide (a>1048576) || !s==[] then -1 else 0)
 else bif op==5 then (bif a != 0 || !aU s then -1 else 0)
 else bif op==6 then (bif a != 0 || !aU s then -1 else 0)
 else bif decide (op<3)||decide (op>23)||a != 0 || !s==[] then -1
 else bif decide (op≤4) then 0 else bif decide (op≤10) then 1 else 2
abbrev a6:Int:=cu c.op c.a c.name
def cb:List Cell→Int→Bool
 | [],n=>n==1
 | c::r,n=>bif decide (a6 c<0)||decide (a6 c>n) then false else cb r (n+(1 - a6 c))
def dx:Bool:=!decide ((l.length:Int)>32)&&cb l 0
def tq (l r:Int) (k:KRow):Bool:=decide (op≥k.low)&&decide (op≤k.high)&&l==k.left&&r==k.right
def oa:List KRow:=[⟨7,7,1,0,1⟩,⟨7,7,3,0,3⟩,⟨8,8,2,0,2⟩,⟨9,10,3,0,1⟩,⟨11,15,1,1,1⟩,⟨11,13,3,3,3⟩,⟨16,21,1,1,2⟩,⟨16,17,2,2,2⟩,⟨16,17,3,3,2⟩,⟨22,23,2,2,2⟩]
def gG (op l r:Int):List KRow→Int
 | []=>0
 | k::rest=>bif tq op l r k then k.out else gG op l r rest
def cC (l r:Int):Int:=gG op l r oa
def aJ {α:Type} (p:α→Bool):List α→Int→Int
 | [],_=>-1
 | x::r,i=>bif p x then i else aJ p r (i+1)
def gr (name:Str):Option Var:=vars.find? fun v=>v.name==name
def bN (vars:List Var) (states:List Str):Int×Int :=
 bif c.op==1 then (1,0)
 else bif c.op==2 then (3,0)
 else bif c.op==5 then (match gr vars c.name with
  | none=>(0,2)
  | some v=>bif decide (v.kind≥1)&&decide (v.kind≤3) then (v.kind,0) else (0,8))
 else bif c.op==6 then (bif !states.any (fun s=>s==c.name) then (0,2) else (2,0))
 else (2,0)
def ff (c:Cell) (st:List Int):Int×Int×List Int :=
 bif decide (c.op<7) then ((bN c vars states).1,(bN c vars states).2,st)
 else bif decide (c.op<11) then (cC c.op (st.getD 0 0) 0,0,st.drop 1)
 else (cC c.op (st.getD 1 0) (st.getD 0 0),0,st.drop 2)
def fc (vars:List Var) (states:List Str):List Cell→List Int→Int×Int
 | [],st=>(st.getLastD 0,0)
 | c::r,st =>
   let s:=ff vars states c st
   let e:=bif s.2.1==0&&s.1==0 then 8 else s.2.1
   bif e != 0 then (0,e) else fc vars states r (s.1::s.2.2)
def bZ:Int×Int :=
 bif !dx l then (0,1) else fc vars states l []
def cd (p:Int×Int):SV:=.tup [.i p.1,.i p.2]
theorem uR {p:UInt8→Bool} {s:List UInt8} {k:Nat} (hk:k<s.length) (h:p (s.getD k 0)=true):s.any p=true:=by
 rw [bB]
 refine ⟨s.getD k 0,?_,h⟩
 rw [List.getD_eq_getElem?_getD,List.getElem?_eq_getElem hk]
 exact bE hk
theorem mU {p:UInt8→Bool} {s:List UInt8} (h:∀ j,j<s.length→p (s.getD j 0)=false):s.any p=false:=by
 rw [c7]
 intro x hx
 obtain ⟨j,hj,rfl⟩:=List.getElem_of_mem hx
 have:=h j hj
 rw [List.getD_eq_getElem?_getD,List.getElem?_eq_getElem hj] at this
 simpa using this
theorem bL {t:ETy} {l:List t.den} {k:Nat} (h:k<l.length):l.drop k=t.get l k::l.drop (k+1):=by
 rw [cY h,ETy.get_eq (List.getElem?_eq_getElem h)]
theorem bY {α:Type} {l:List α} {k:Nat} (h:¬k<l.length):l.drop k=[]:=List.drop_eq_nil_of_le (by omega)
/-! ### pieces of texts -/
def seg (f k:Nat):Str:=(s.take k).drop f
theorem gR (k:Nat):seg s k k=[]:=by
 unfold seg; rw [dd,a7]; omega
theorem drop_byte {s:Str} {k:Nat} (h:k<s.length):s.drop k=s.getD k 0::s.drop (k+1):=by
 rw [cY h,List.getD_eq_getElem?_getD,List.getElem?_eq_getElem h]; rfl
theorem iP {s:Str} {f k:Nat} (h:k<s.length) (hf:f≤k):seg s f (k+1)=seg s f k++[s.getD k 0]:=by
 unfold seg
 rw [aR h,List.drop_append_of_le_length (by rw [a7]; omega),List.getD_eq_getElem?_getD,List.getElem?_eq_getElem h]; rfl
theorem IN {s:Str} {f k:Nat} (h:f<k) (hk:k≤s.length):seg s f k≠[]:=by
 unfold seg
 intro e
 have:=congrArg List.length e
 rw [List.length_drop,a7] at this
 simp at this; omega
end Go.Proofs.YtcopfgbbjdefbaaGreatDoor
namespace Go.Proofs.YtcopfgbbjdefbaaGreatDoor
open Go Go.Ev
set_option maxRecDepth 100000
variable (l:List Ev.Stat) (i:Nat) (k:Int)
def aY:Bool:=k==5||k==6
def eP (d:Int):List Ev.Stat→Nat
 | []=>0
 | s::r=>bif decide (s.depth>d) then eP d r+1 else 0
def endM:Nat:=i+1+eP (ETy.get .stat l i).depth (l.drop (i+1))
def dp (l:List Ev.Stat) (e:Nat):Nat→Nat→List Int
 | 0,_=>[]
 | n+1,k=>if k<e then (k:Int)::dp l e n (endM l k) else []
def br:List Int:=dp l (endM l i) l.length (i+1)
theorem yS:ag Tryz.prog 142 [.i k] [] (.x (.b (aY k))) []:=by
 refine dg aT Tryz.func142 (.ret (.p (.bool (k==(5:Int)||k==(6:Int)))) []) fun Γ=>?_
 exact ⟨rfl,rfl⟩
def qw:Ent:=(142,fun
 | [.c (.pd (.int .i64 k))],[]=>some (none,.x (.c (.pd (.bool (aY k)))),[])
 | _,_=>none)
theorem Bw:EntOk Tryz.prog qw:=entOk fun vs ck=>by
 unfold qw; dsimp only; split
 · rename_i k; exact entS fun hp=>yS k
 · exact entN
theorem tR (d:Int):∀ l:List Ev.Stat,eP d l≤l.length
 | []=>ar _
 | s::r=>by
   have:=tR d r
   rw [eP]; cases decide (s.depth>d) <;> simp <;> omega
theorem dN {i:Nat} (h:i<l.length):i<endM l i∧endM l i≤l.length:=by
 have:=tR (ETy.get .stat l i).depth (l.drop (i+1))
 rw [List.length_drop] at this
 unfold endM; omega
abbrev zTa1:List PI:=[.code [1,1,0,0,0],.inLoop [1,1,0,0,0],.inBlock 0,.code [1,1,1]]
theorem GG (hi:i<l.length) (hl:l.length≤maxLen) (Γ:Ctx):∀ (n k:Nat),l.length - k≤n→k≤l.length →
 J Tryz.prog 150 (aw Tryz.f150) Γ (Eq2 (.x (.i ((k+eP (ETy.get .stat l i).depth (l.drop k):Nat):Int))) []) zTa1 ({ n:=28,fr:=[(0,.p (.lst .stat l)),(1,.i i),(4,.i 0),(5,.i ((k:Int)))],ck:=[] }):=by
 intro n
 induction n with
 | zero=>?_
 | succ n ih=>?_
 all_goals
  intro k hn hk
  refine jg aT Tryz.func150 (.need ((((4,12,true,fq true (decide ((k:Int)<(l.length:Int))) none).2).2).2→(0:Int)≤(k:Int)∧(k:Int)<(l.length:Int)) (.need ((((4,12,true,fq true (decide ((k:Int)<(l.length:Int))) none).2).2).2→(0:Int)≤(i:Int)∧(i:Int)<(l.length:Int)) (.ite (decide ((k:Int)<(l.length:Int))&&decide (Stat.depth (ETy.get .stat l k)>Stat.depth (ETy.get .stat l i))) (.stop zTa1 { n:=28,fr:=[(0,.p (.lst .stat l)),(1,.i i),(4,.i 0),(5,.i (IntKind.wrap .i64 ((k:Int)+1)))],ck:=[] }) (.ret (.i k) [])))) ?_
  refine ⟨fun h=>⟨by omega,by have:=of_decide_eq_true h; omega⟩,fun h=>⟨by omega,by omega⟩,fun h=>?_,fun h=>?_⟩
  · simp only [af,decide_eq_true_eq] at h
    have hk':k<l.length:=by omega
    rw [bL (t:=.stat) (l:=l) hk',eP]
    have h2:decide ((ETy.get .stat l k).depth>(ETy.get .stat l i).depth)=true:=decide_eq_true h.2
    rw [h2,cond_true,aZ (aE hk' hl),show k+(eP (ETy.get .stat l i).depth (l.drop (k+1))+1)=k+1+eP (ETy.get .stat l i).depth (l.drop (k+1)) by omega]
    first
    | (exfalso; omega)
    | exact ih (k+1) (by omega) (by omega)
  · by_cases hk':k<l.length
    · rw [bL (t:=.stat) (l:=l) hk',eP]
      have h2:decide ((ETy.get .stat l k).depth>(ETy.get .stat l i).depth)=false:=by
       cases h3:decide ((ETy.get .stat l k).depth>(ETy.get .stat l i).depth)
       · rfl
       · rw [decide_eq_true (show ((k:Int)<(l.length:Int)) by omega)] at h
         have h4:(true&&decide ((ETy.get .stat l k).depth>(ETy.get .stat l i).depth))=false:=h
         rw [h3] at h4; cases h4
      rw [h2,cond_false]; exact ⟨rfl,rfl⟩
    · rw [bY (l:=l) (by omega),eP]; exact ⟨rfl,rfl⟩
theorem r5 (hi:i<l.length) (hl:l.length≤maxLen):ag Tryz.prog 150 [.l .stat l,.i (i:Int)] [] (.x (.i (endM l i:Nat))) []:=by
 refine dg aT Tryz.func150 (.stop zTa1 { n:=28,fr:=[(0,.p (.lst .stat l)),(1,.i i),(4,.i 0),(5,.i (IntKind.wrap .i64 ((i:Int)+1)))],ck:=[] }) fun Γ=>?_
 rw [aZ (by have:=aE hi hl; omega)]
 exact GG l i hi hl Γ l.length (i+1) (by omega) (by omega)
end Go.Proofs.YtcopfgbbjdefbaaGreatDoor
