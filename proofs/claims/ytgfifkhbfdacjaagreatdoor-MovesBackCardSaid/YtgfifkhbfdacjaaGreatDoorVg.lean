/- An executor for function bodies of the model over data, part VG: the rule of a range over a function. Conditions: the rule's own. -/
import Derived.Test.YtgfifkhbfdacjaaGreatDoorVf
namespace Go.Ev
open Go.RowKit
variable {P:Program} {Γ:Ctx} {Q:Out} {m:FuncId} {fn:Func} {root:Code} {st:ST} {p:List Nat} {k:List PI} {g s d gf:Nat}
theorem gM.turn {Γ':Ctx} {Q:Out} {e:Ending} {w:World} (h:Γ'.base=Γ.base) (q:gM Γ' Q e w):gM Γ Q e w:=by
 rcases q with ⟨v,V',ret,ck',h1,h2,h3,h4⟩ | q
 · exact .inl ⟨v,V',ret,ck',h1,h2,h3,by rw [← h]; exact h4⟩
 · exact .inr (by rw [← h]; exact q)
theorem J.ranges {id:Nat} {o:Oper} {body:Code} {caps:List RC} {ok:Int→Prop} {xs:List Int} {one:Bool} {cx:Code} {vx:SV} (hcv:(cx = .ret∧vx = .x (.b false))∨∃ id:Nat,cx = .exit id∧vx = .x (.i (id:Int)))
 (hf:P.funcs[m]?=some fn) (hc:sub root p = .rangeFunc (.tmp g) #[s] (.region id #[o] false) body) (ho1:o.op = .assign (.tmp s)) (ho2:o.dst=some d) (ho3:o.guard=none) (hs:Nat.blt s st.n=true) (hd:Nat.blt d st.n=true) (hsd:Nat.beq s d=false)
 (hg:Ev.lookup st.fr g=some (.x (.c (.fn (.func gf) [] caps)))) (hgf:∀ args w,(callFunc gf args).run P w = .ok (.enter gf args) w) (hwf:st.wf=true) (hit:uM one P gf caps ok xs)
 (b7 badx:List Int→Prop) (hone:one=true→∀ (l:List Int) (x:Int),¬b7 (l++[x])) (hg0:b7 []) (ckf ckx:List Int→List Chunk) (h0:ckf []=st.ck) (hlf:∀ l,(ckf l).length=st.ck.length) (hlx:∀ l,(ckx l).length=st.ck.length) (hnf:∀ l,(ckf l).all Chunk.noTbl=true) (hnx:∀ l,(ckx l).all Chunk.noTbl=true)
 (hround:∀ (l:Nat) (pre:List Int) (x:Int) (Γ:Ctx),Γ.ds=[]→ok x→(∀ y∈pre,ok y)→b7 pre→pre.length<xs.length→J P ⟨m,some l⟩ root Γ (fun v ck=>(v = .x (.b true)∧b7 (pre++[x])∧ck=ckf (pre++[x]))∨(v=vx∧badx (pre++[x])∧ck=ckx (pre++[x]))) [.code (p++[1])]
  { n:=st.n,fr:=bu d (.x (.i x)) (bu s (.x (.i x)) st.fr),ck:=ckf pre,m:=(ckf pre).length })
 (hdone:b7 xs→∀ Γ',J P m root Γ' Q k { st with ck:=ckf xs })
 (hstop:cx = .ret→∀ pre,pre <+: xs→badx pre→∃ l,gp P { st with ck:=ckx pre } fn.results.toList=some l∧Q (fV { st with ck:=ckx pre } (gm l)).1 (fV { st with ck:=ckx pre } (gm l)).2)
 (hbrk:∀ id,cx = .exit id→∃ k2,iP id k=some k2∧∀ pre,pre <+: xs→badx pre→∀ Γ',J P m root Γ' Q k2 { st with ck:=ckx pre }) :
 J P m root Γ Q (.code p::k) st:=by
 intro hT V a w r
 have hs':s<st.n:=an hs
 have hd':d<st.n:=an hd
 have hwf2:=hwf
 simp only [ST.wf,af] at hwf2
 have hgv:=r.slots g _ (b3 hg)
 obtain ⟨ua,ub,hgv,hua,hub⟩:=hgv
 cases hua
 have hag:a.eval (.tmp g) = .func (.func gf) #[] ub.toArray:=hgv
 have hTV:fG P V.H:=hT.mono r.wok.hle
 have hΓ:Γ.m≤st.ck.length:=av r.few.1 r.few.2
 let I:List { x:Int // ok x }→World→Prop:=fun ys W=>b7 (ys.map (·.1))∧∃ V',Agree st.ck.length V V'∧Cl V.H V'.H∧WOk Γ (ckf (ys.map (·.1))) V' W
 let Ix:Code→List { x:Int // ok x }→World→Prop:=fun c ys W=>(c=cx∧badx (ys.map (·.1)))∧∃ V',Agree st.ck.length V V'∧Cl V.H V'.H∧WOk Γ (ckx (ys.map (·.1))) V' W
 let Ax:{ x:Int // ok x }→Act→World→Prop:=fun x a' _=>a'=(({ a with defers:=[] }:Act).put (some s) (.int .i64 x.1)).put (some d) (.int .i64 x.1)
 have hI:OwnFrom w.heap.size I:=fun ys W W' row ⟨q0,V',q1,q2,q3⟩ hgr hrow=>⟨q0,V',q1,q2,q3.turned q2 r.wok.imm r.wok.ext.size hgr hrow⟩
 have hIx:∀ c,OwnFrom w.heap.size (Ix c):=fun c ys W W' row ⟨q0,V',q1,q2,q3⟩ hgr hrow=>⟨q0,V',q1,q2,q3.turned q2 r.wok.imm r.wok.ext.size hgr hrow⟩
 have hI0:I [] w:=⟨hg0,V,Agree.refl _ _,fun _ _ h=>.inl h,by show WOk Γ (ckf []) V w; rw [h0]; exact r.wok⟩
 have hAx:∀ x a',OwnFrom w.heap.size (fun (_:Unit) W=>Ax x a' W):=fun x a' _ W W' row h _ _=>h
 have hKb:∀ (W:World) (l:Nat) (o o':Obj),w.heap.size≤l→W.heap[l]?=some o→o.isCells=false→o.isWalk=false→Kp1 one V.H w.heap.size W (W.putObj l o'):=fun W l o o' hl ho hc _=>by
  have k1:KpH V.H W (W.putObj l o'):=⟨rfl,rfl,rfl,by simp,fun i hi=>World.putObj_heap_other fun e=>by
   cases h:V.H i with
   | none=>exact hi h
   | some ob=>have:=(Array.getElem?_eq_some_iff.1 (r.wok.imm i ob h)).1; omega⟩
  cases one with
  | false=>exact k1
  | true=>exact ⟨k1,fun i ob _ hio hic=>(World.putObj_heap_other fun e=>by
     rw [e,ho] at hio
     simp only [aa] at hio
     rw [← hio,hc] at hic; cases hic).trans hio⟩
 let Qk:Exit→Act→World→Prop:=fun e a' w'=>match e with
  | .normal=>Go.Sy.Fin P (m:Go.Sy.Md) (gM Γ Q) (k.map (PI.den root)) a' w'
  | .ret=>∃ (v:Value) (ds:List Nat),a'.defers=ds.map (fun D=>({ target:=.collected D,args:=#[] }:Deferred))∧ds.Nodup∧(∀ D∈ds,w'.heap[D]?=some (.deferred (some [])))∧(results fn a'.tmps).run P (Go.Sy.took w' ds) = .ok v (Go.Sy.took w' ds)∧gM Γ Q (.returned v) (Go.Sy.took w' ds)
  | .exit id=>∃ k2:List PI,exitTo id (k.map (PI.den root))=some (k2.map (PI.den root))∧Go.Sy.Fin P (m:Go.Sy.Md) (gM Γ Q) (k2.map (PI.den root)) a' w'
  | _=>False
 have hH0:∀ D,w.heap.size≤D→Γ.H0 D=none:=fun D hD=>by
  cases h:Γ.H0 D with
  | none=>rfl
  | some ob=>have:=(Array.getElem?_eq_some_iff.1 (r.wok.imm D ob (r.wok.hle D ob h))).1; omega
 have hT':∀ D,w.heap.size≤D→fG P (fun k=>if k=D then some (.deferred (some [])) else Γ.H0 k):=fun D hD=>hT.mono fun k ob h=>by
  show (if k=D then some (.deferred (some [])) else Γ.H0 k)=some ob
  rw [if_neg fun e=>by rw [e,hH0 D hD] at h; cases h]; exact h
 have key:=wpIn_rangeFunc_ownH (F:=Fence.wide) (n:=1) (P:=P) (g:=.tmp g) (ps:=#[s]) (assign:=.region id #[o] false) (body:=body) (Q:=Qk) (a:=a) (w:=w) rfl (aq 1) hag trivial hgf
  (encs:=fun (x:{ x:Int // ok x })=>#[.int .i64 x.1]) (Kp:=Kp1 one V.H w.heap.size) (S:=fun ys=>ys.map (·.1)=xs) (Sp:=fun ys=>ys.map (·.1) <+: xs) (N:=xs.length) (w0:=w) (hit _ V w ub r.wok.imm hTV hub)
  (fun h1 h2=>Kp1.trans h1 h2) hKb (Below.refl _ _) (fun _=>rfl) I Ix hI hIx hI0 Ax hAx ?assign ?body ?done ?stop
 case assign =>
  intro l pre x W K hi hK
  have hszs:s<a.tmps.size:=by rw [r.size]; exact hs'
  have e:({ tmps:=(#[s].zip #[Value.int .i64 x.1]).foldl (fun t (p,v)=>t.setIfInBounds p v) a.tmps,defers:=[] }:Act)=({ a with defers:=[] }:Act).put (some s) (.int .i64 x.1):=by
   simp [Act.put]
  show (Code.region id #[o] false).wpIn (Fence.wide.inRound l) _ P (Exit.then K _) ({ tmps:=(#[s].zip #[Value.int .i64 x.1]).foldl (fun t (p,v)=>t.setIfInBounds p v) a.tmps,defers:=[] }:Act) W
  rw [e]
  refine pD ho1 ho2 ho3 (hK _ _ (KeepsFrom.refl _ _) (Kp1.refl _ _ _ _) hi ?_)
  show (({ a with defers:=[] }:Act).put (some s) (.int .i64 x.1)).put (some d) ((({ a with defers:=[] }:Act).put (some s) (.int .i64 x.1)).eval (.tmp s))=_
  have e2:((({ a with defers:=[] }:Act).put (some s) (.int .i64 x.1)).eval (.tmp s)) = .int .i64 x.1:=by
   show ((({ a with defers:=[] }:Act).put (some s) (.int .i64 x.1)).tmps.getD s undef)=_
   simp [Act.put,Array.getD,hszs]
  rw [e2]
 case body =>
  intro l pre x a' W hl hrec hi ha hlt
  obtain ⟨hgd,V',q1,q2,q3⟩:=hi
  have ha':a'=(({ a with defers:=[] }:Act).put (some s) (.int .i64 x.1)).put (some d) (.int .i64 x.1):=ha
  have hln:=hlf (pre.map (·.1))
  have r0:Rel (entry (ckf (pre.map (·.1))) V' W) { n:=st.n,fr:=st.fr,ck:=ckf (pre.map (·.1)),m:=(ckf (pre.map (·.1))).length } V' { a with defers:=[] } W :=
   { size:=r.size,defers:=.nil rfl,slots:=fun t sv h=>b4.keep (V:=V') (a:=a) rfl rfl (HLe.refl _).ke rfl ((r.slots t sv h).agree q1 (ak.1 hwf2.1 _ h)),wok:=q3.whole,few:=⟨aq _,aq _⟩ }
  have r1:=r0.put s (.x (.i x.1)) (.int .i64 x.1) hs' fun a2 _ h=>by show SX.R V' (SX.i x.1) (a2.tmps.getD s undef); rw [h]; exact PR.int _ _
  have r2:=r1.put d (.x (.i x.1)) (.int .i64 x.1) hd' fun a2 _ h=>by show SX.R V' (SX.i x.1) (a2.tmps.getD d undef); rw [h]; exact PR.int _ _
  rw [← ha'] at r2
  have hj:=hround l (pre.map (·.1)) x.1 (entry (ckf (pre.map (·.1))) V' W) rfl x.2 (fun y hy=>by obtain ⟨z,_,rfl⟩:=aT.1 hy; exact z.2) hgd (by rw [aN]; exact hlt) (hTV.mono q1.hle) V' a' W r2
  have hb:sub root (p++[1])=body:=by rw [fv,hc]; rfl
  simp only [aw,cd,PI.den,hb] at hj
  refine wpIn_mono (pg hj) fun e a2 W2 hq=>?_
  have common:∀ {ck:List Chunk} {V2:Vn},WOk (entry (ckf (pre.map (·.1))) V' W) ck V2 W2→ck.length=st.ck.length→ck.all Chunk.noTbl=true→KeepsFrom w.heap.size W W2∧KpH V.H W W2∧∃ V3,Agree st.ck.length V V3∧Cl V.H V3.H∧WOk Γ ck V3 W2:=by
   intro ck V2 hw _ hnt
   have hM:∀ b,(entry (ckf (pre.map (·.1))) V' W).M b→(∃ ob,W.heap[b]?=some ob∧ob.isCells=true)∧V'.H b=none:=fun b ⟨i,c,hci,hcb⟩=>⟨Chunk.blk_cells (q3.own i c hci) hcb,(q3.base i c b hci hcb).2⟩
   refine ⟨⟨hw.ext.size,fun b ob _ hb1 hb2=>?_⟩,⟨hw.ext.os,hw.ext.tape,hw.ext.output,hw.ext.size,fun b hb1=>?_⟩,?_⟩
   · have hlt2:b<W.heap.size:=(Array.getElem?_eq_some_iff.1 hb1).1
     refine (hw.ext.block b hlt2 fun h=>?_).trans hb1
     obtain ⟨⟨o2,h3,h4⟩,_⟩:=hM b h
     rw [hb1] at h3
     simp only [aa] at h3
     rw [← h3,hb2] at h4; cases h4
   · obtain ⟨ob,hob⟩:=dI.1 hb1
     have h5:=q3.imm b ob (q1.hle b ob hob)
     have hlt2:b<W.heap.size:=(Array.getElem?_eq_some_iff.1 h5).1
     refine hw.ext.block b hlt2 fun h=>?_
     have:=(hM b h).2
     rw [q1.hle b ob hob] at this; cases this
   · have hΓ2:Γ.m≤(ckf (pre.map (·.1))).length:=by rw [hln]; exact hΓ
     have hw3:=q3.after hΓ2 hw
     refine hw3.clean (n:=st.ck.length) ⟨q1.hle.trans hw.hle,fun i hi=>?_⟩ r.wok.hle hnt
     have h1:V2.σ i=V'.σ i∧V2.ov i=V'.ov i:=hw.agr i (by show i<(ckf (pre.map (·.1))).length; rw [hln]; exact hi)
     exact ⟨h1.1.trans (q1.same i hi).1,h1.2.trans (q1.same i hi).2⟩
  have hmap:(pre++[x]).map (·.1)=pre.map (·.1)++[x.1]:=by simp
  rcases hq with ⟨rfl,⟨v,V2,ret,ck2,h1,h2,h3,h4⟩ | h1⟩ | ⟨rfl,⟨v,V2,ret,ck2,h1,h2,h3,h4⟩ | h1⟩ | ⟨id2,rfl,⟨v,V2,ret,ck2,h1,h2,h3,h4⟩ | h1⟩
  case inl.inr=>exact False.elim h1
  case inr.inl.inr=>exact False.elim h1
  case inr.inr.inr=>exact False.elim h1
  · rw [fS rfl] at h4
    simp only [Ending.returned.injEq] at h1
    rcases h2 with ⟨e1,hgx,e2⟩ | ⟨e1,hgx,e2⟩
    · subst e2
      obtain ⟨g1,g2,g3⟩:=common h4 (hlf _) (hnf _)
      have hon:one=false:=by
       cases one with
       | false=>rfl
       | true=>exact absurd hgx (hone rfl _ _)
      refine ⟨g1,by rw [hon]; exact g2,?_⟩
      show b7 ((pre++[x]).map (·.1))∧∃ V',_∧_∧WOk Γ (ckf ((pre++[x]).map (·.1))) V' W2
      rw [hmap]; exact ⟨hgx,g3⟩
    · exfalso
      subst h1
      rcases hcv with ⟨_,e3⟩ | ⟨id3,_,e3⟩
      · rw [e1,e3] at h3
        have h5:PR V2.H (.bool false) (.bool true):=h3
        cases h5
      · rw [e1,e3] at h3
        have h5:PR V2.H (.int .i64 (id3:Int)) (.bool true):=h3
        cases h5
  · rw [fS rfl] at h4
    simp only [Ending.returned.injEq] at h1
    subst h1
    rcases h2 with ⟨e1,hgx,e2⟩ | ⟨e1,hgx,e2⟩
    · subst e1
      have h5:PR V2.H (.bool true) (.bool false):=h3
      cases h5
    · subst e2
      have ec:cx = .ret:=by
       rcases hcv with ⟨e4,_⟩ | ⟨id3,_,e3⟩
       · exact e4
       · rw [e1,e3] at h3
         have h5:PR V2.H (.int .i64 (id3:Int)) (.bool false):=h3
         cases h5
      obtain ⟨g1,g2,g3⟩:=common h4 (hlx _) (hnx _)
      refine ⟨g1,⟨ec.symm,?_⟩,?_⟩
      · rw [hmap]; exact hgx
      · show ∃ V',_∧_∧WOk Γ (ckx ((pre++[x]).map (·.1))) V' W2
        rw [hmap]; exact g3
  · rw [fS rfl] at h4
    simp only [Ending.returned.injEq] at h1
    subst h1
    rcases h2 with ⟨e1,hgx,e2⟩ | ⟨e1,hgx,e2⟩
    · subst e1
      have h5:PR V2.H (.bool true) (.int .i64 (id2:Int)):=h3
      cases h5
    · subst e2
      have ec:cx = .exit id2:=by
       rcases hcv with ⟨_,e3⟩ | ⟨id3,e4,e3⟩
       · rw [e1,e3] at h3
         have h5:PR V2.H (.bool false) (.int .i64 (id2:Int)):=h3
         cases h5
       · rw [e1,e3] at h3
         have h5:PR V2.H (.int .i64 (id3:Int)) (.int .i64 (id2:Int)):=h3
         have h6:(id3:Int)=(id2:Int):=by cases h5; rfl
         rw [e4,show id3=id2 by omega]
      obtain ⟨g1,g2,g3⟩:=common h4 (hlx _) (hnx _)
      refine ⟨g1,⟨ec.symm,?_⟩,?_⟩
      · rw [hmap]; exact hgx
      · show ∃ V',_∧_∧WOk Γ (ckx ((pre++[x]).map (·.1))) V' W2
        rw [hmap]; exact g3
 case done =>
  intro D ys W hD hS hi hk
  obtain ⟨hgd,V',q1,q2,q3⟩:=hi
  have hS':ys.map (·.1)=xs:=hS
  rw [hS'] at q3 hgd
  obtain ⟨V2,r2⟩:=r.mark hwf q1 q2 q3 (hlf xs) hD hk
  exact Go.Sy.Fin.mono (fun e w' hq=>hq.turn (jI (hH0 D hD) _)) (hdone hgd _ (hT' D hD) V2 _ W r2)
 case stop =>
  intro D c ys W hD hS hi hk
  obtain ⟨⟨rfl,hbd⟩,V',q1,q2,q3⟩:=hi
  obtain ⟨V2,r2⟩:=r.mark hwf q1 q2 q3 (hlx _) hD hk
  rcases hcv with ⟨e4,_⟩ | ⟨id3,e4,_⟩
  case inr =>
   subst e4
   obtain ⟨k2,hk2,hj⟩:=hbrk id3 rfl
   refine wpIn_exit ?_
   exact ⟨k2,iR hk2,Go.Sy.Fin.mono (fun e w' hq=>hq.turn (jI (hH0 D hD) _)) (hj _ hS hbd _ (hT' D hD) V2 _ W r2)⟩
  subst e4
  obtain ⟨l,hl1,hl2⟩:=hstop rfl _ hS hbd
  obtain ⟨v,g1,g2⟩:=r2.fin hl1 hl2
  refine wpIn_ret ?_
  exact ⟨v,D::Γ.ds,r2.defers.eq,r2.defers.nodup,fun E hE=>r2.wok.imm _ _ (r2.wok.hle _ _ (r2.defers.at' E hE).1),g1,g2.turn (jI (hH0 D hD) _)⟩
 intro b k' cs hro hb0
 obtain ⟨hb,hkd,hk0⟩:=hb0 rfl
 subst hk0
 simp only [aw,PI.den,hc]
 obtain ⟨e,a',w',hq,harr⟩:=key b (k.map (PI.den root)++[]) cs hro trivial (room_wide _)
 have harr':=harr
 cases e with
 | normal=>exact Go.Sy.EndAt.of_steps (stepsIn_wide.1 harr') (hq b [] cs hro hb0)
 | ret =>
   obtain ⟨v,ds,e1,e2,e3,e4,e5⟩:=hq
   obtain ⟨todo,hst⟩:=harr'.1 hro
   refine ⟨.returned v,Go.Sy.took w' ds,_,e5,(stepsIn_wide.1 hst).trans (Go.Sy.leave_marks ds w' _ cs rfl e1 e2 e3),hb,?_⟩
   exact ⟨rfl,rfl,hkd,fn,by simpa [Frame.atR,hb] using hf,e4⟩
 | exit id =>
   obtain ⟨k2,h1,hq⟩:=hq
   exact Go.Sy.EndAt.of_steps (stepsIn_wide.1 (harr'.1 (k2.map (PI.den root)++[]) (by rw [aL,aL]; exact h1))) (hq b [] cs hro hb0)
 | _=>exact hq.elim
def kB (root:Code) (p:List Nat):Option (Nat×Nat×Nat) :=
 match sub root p with
 | .rangeFunc (.tmp g) ⟨[s]⟩ (.region _ ⟨[o]⟩ false) _=>match o.op,o.dst,o.guard with
   | .assign (.tmp s'),some d,none=>bif Nat.beq s' s then some (g,s,d) else none
   | _,_,_=>none
 | _=>none
theorem J.range {caps:List RC} {ok:Int→Prop} {xs:List Int}
 (hf:P.funcs[m]?=some fn) (hc:kB root p=some (g,s,d)) (hs:Nat.blt s st.n=true) (hd:Nat.blt d st.n=true) (hsd:Nat.beq s d=false)
 (hg:Ev.lookup st.fr g=some (.x (.c (.fn (.func gf) [] caps)))) (hgf:∀ args w,(callFunc gf args).run P w = .ok (.enter gf args) w) (hwf:st.wf=true) (hit:Iter P gf caps ok xs)
 (b7 badx:List Int→Prop) (hg0:b7 []) (ckf ckx:List Int→List Chunk) (h0:ckf []=st.ck) (hlf:∀ l,(ckf l).length=st.ck.length) (hlx:∀ l,(ckx l).length=st.ck.length) (hnf:∀ l,(ckf l).all Chunk.noTbl=true) (hnx:∀ l,(ckx l).all Chunk.noTbl=true)
 (hround:∀ (l:Nat) (pre:List Int) (x:Int) (Γ:Ctx),Γ.ds=[]→ok x→(∀ y∈pre,ok y)→b7 pre→pre.length<xs.length→J P ⟨m,some l⟩ root Γ (fun v ck=>(v = .x (.b true)∧b7 (pre++[x])∧ck=ckf (pre++[x]))∨(v = .x (.b false)∧badx (pre++[x])∧ck=ckx (pre++[x]))) [.code (p++[1])]
  { n:=st.n,fr:=bu d (.x (.i x)) (bu s (.x (.i x)) st.fr),ck:=ckf pre,m:=(ckf pre).length })
 (hdone:b7 xs→∀ Γ',J P m root Γ' Q k { st with ck:=ckf xs })
 (hstop:∀ pre,pre <+: xs→badx pre→∃ l,gp P { st with ck:=ckx pre } fn.results.toList=some l∧Q (fV { st with ck:=ckx pre } (gm l)).1 (fV { st with ck:=ckx pre } (gm l)).2) :
 J P m root Γ Q (.code p::k) st:=by
 unfold kB at hc
 split at hc
 · rename_i g' s' id o body hcode
   split at hc
   · rename_i s2 d' ho1 ho2 ho3
     cases hb:Nat.beq s2 s'
     · rw [hb] at hc; cases hc
     · rw [hb] at hc
       simp only [cond_true,aa,ae] at hc
       obtain ⟨rfl,rfl,rfl⟩:=hc
       have e:=aj hb
       subst e
       exact J.ranges (.inl ⟨rfl,rfl⟩) hf hcode ho1 ho2 ho3 hs hd hsd hg hgf hwf (one:=false) hit b7 badx (fun h=>by cases h) hg0 ckf ckx h0 hlf hlx hnf hnx hround hdone (fun _=>hstop) fun id h=>by cases h
   · cases hc
 · cases hc
theorem J.rangeB {caps:List RC} {ok:Int→Prop} {xs:List Int} {one:Bool} {id0:Nat} {k2:List PI}
 (hf:P.funcs[m]?=some fn) (hc:kB root p=some (g,s,d)) (hs:Nat.blt s st.n=true) (hd:Nat.blt d st.n=true) (hsd:Nat.beq s d=false)
 (hg:Ev.lookup st.fr g=some (.x (.c (.fn (.func gf) [] caps)))) (hgf:∀ args w,(callFunc gf args).run P w = .ok (.enter gf args) w) (hwf:st.wf=true) (hit:uM one P gf caps ok xs)
 (b7 badx:List Int→Prop) (hone:one=true→∀ (l:List Int) (x:Int),¬b7 (l++[x])) (hg0:b7 []) (ckf ckx:List Int→List Chunk) (h0:ckf []=st.ck) (hlf:∀ l,(ckf l).length=st.ck.length) (hlx:∀ l,(ckx l).length=st.ck.length) (hnf:∀ l,(ckf l).all Chunk.noTbl=true) (hnx:∀ l,(ckx l).all Chunk.noTbl=true)
 (hround:∀ (l:Nat) (pre:List Int) (x:Int) (Γ:Ctx),Γ.ds=[]→ok x→(∀ y∈pre,ok y)→b7 pre→pre.length<xs.length→J P ⟨m,some l⟩ root Γ (fun v ck=>(v = .x (.b true)∧b7 (pre++[x])∧ck=ckf (pre++[x]))∨(v = .x (.i (id0:Int))∧badx (pre++[x])∧ck=ckx (pre++[x]))) [.code (p++[1])]
  { n:=st.n,fr:=bu d (.x (.i x)) (bu s (.x (.i x)) st.fr),ck:=ckf pre,m:=(ckf pre).length })
 (hdone:b7 xs→∀ Γ',J P m root Γ' Q k { st with ck:=ckf xs })
 (hk2:iP id0 k=some k2) (hbrk:∀ pre,pre <+: xs→badx pre→∀ Γ',J P m root Γ' Q k2 { st with ck:=ckx pre }) :
 J P m root Γ Q (.code p::k) st:=by
 unfold kB at hc
 split at hc
 · rename_i g' s' id o body hcode
   split at hc
   · rename_i s2 d' ho1 ho2 ho3
     cases hb:Nat.beq s2 s'
     · rw [hb] at hc; cases hc
     · rw [hb] at hc
       simp only [cond_true,aa,ae] at hc
       obtain ⟨rfl,rfl,rfl⟩:=hc
       have e:=aj hb
       subst e
       exact J.ranges (.inr ⟨id0,rfl,rfl⟩) hf hcode ho1 ho2 ho3 hs hd hsd hg hgf hwf hit b7 badx hone hg0 ckf ckx h0 hlf hlx hnf hnx hround hdone (fun h=>by cases h) fun id h=>by
        cases h; exact ⟨k2,hk2,hbrk⟩
   · cases hc
 · cases hc
end Go.Ev
