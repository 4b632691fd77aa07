/- An executor for function bodies of the model over data, part VK: a range over a function, whose rounds turn blocks of the call's own. Conditions: the rule's own. -/
import Derived.Test.YtlhgnjmdopjpeaaGreatDoorVg
import Derived.Test.YtlhgnjmdopjpeaaGreatDoorVb
namespace Go.Ev
open Go.RowKit
variable(q:Nat){Γ:Ctx}{P:Program}{ck:List Chunk}
def mK(ck:List Chunk)(V:Vn)(w:World):Ctx:={entry ck V w with m:=q}
theorem WOk.wholeQ{V:Vn}{w:World}(r:WOk Γ ck V w):WOk (mK q ck V w) ck V w :=
 {ext:=Fr.refl _ _,imm:=r.imm,hle:=HLe.refl _,frz:=fun _ h=>.inl h,agr:=fun _ _=>⟨rfl,rfl⟩,own:=r.own,base:=fun i c b hc hb=>⟨.inr ⟨i,c,hc,hb⟩,(r.base i c b hc hb).2⟩,inj:=r.inj}
theorem WOk.afterQ{q:Nat}{Γ:Ctx}{ck ck':List Chunk}{V V':Vn}{w w':World}(r:WOk Γ ck V w)(hm:Γ.m≤q)(s:WOk (mK q ck V w) ck' V' w'):WOk Γ ck' V' w':=by
 have hM:∀b,(mK q ck V w).M b→Γ.w0.heap.size≤b∨Γ.M b:=fun b ⟨i,c,hc,hb⟩=>(r.base i c b hc hb).1
 have hsz:=r.ext.size
 refine{ext:=⟨s.ext.os.trans r.ext.os,s.ext.tape.trans r.ext.tape,s.ext.output.trans r.ext.output,aC r.ext.size s.ext.size,fun k hk hn=>?_⟩,imm:=s.imm,hle:=r.hle.trans s.hle,frz:=fun k h=>?_,agr:=fun i hi=>?_,own:=s.own,base:=fun i c b hc hb=>⟨?_,(s.base i c b hc hb).2⟩,inj:=s.inj}
 · have h1:k<w.heap.size:=bW hk hsz
   refine(s.ext.block k h1 fun hk2=>?_).trans (r.ext.block k hk hn)
   rcases hM k hk2 with h |h
   ·omega
   ·exact hn h
 · rcases s.frz k h with h1 |h1 |h1
   ·exact r.frz k h1
   · have h2:w.heap.size≤k:=h1
     exact .inr (.inl (aC hsz h2))
   ·exact .inr (hM k h1)
 · have h1:V'.σ i=V.σ i∧V'.ov i=V.ov i:=s.agr i (bW hi hm)
   exact⟨h1.1.trans (r.agr i hi).1,h1.2.trans (r.agr i hi).2⟩
 · rcases(s.base i c b hc hb).1 with h |h
   · have h2:w.heap.size≤b:=h
     exact .inl (aC hsz h2)
   ·exact hM b h
theorem Rel.markQ{q:Nat}{Γ:Ctx}{st:ST}{V V':Vn}{a:Act}{w W:World}{ck:List Chunk}{D:Nat}(r:Rel Γ st V a w)(hfr:st.fr.all (fun p=>p.2.lt q)=true)(hag:Agree q V V')(hcl:Cl V.H V'.H)(hw:WOk Γ ck V' W)(hlen:ck.length=st.ck.length)
 (hD:w.heap.size≤D) (hk:W.heap[D]?=some (.deferred (some []))) :
 ∃V2,Rel {Γ with ds:=D::Γ.ds,H0:=fun k=>if k=D then some (.deferred (some []))else Γ.H0 k} {st with ck:=ck} V2 {a with defers:={target:=.collected D,args:=#[]}::a.defers} W:=by
 have hVD:V.H D=none:=by
  cases h:V.H D with
  |none=>rfl
  |some o=>have:=(Array.getElem?_eq_some_iff.1 (r.wok.imm D o h)).1;omega
 have hVD':V'.H D=none:=by
  cases h:V'.H D with
  |none=>rfl
  | some o =>
    have h1:=hw.imm D o h
    rw[hk]at h1
    simp only[aa]at h1
    rcases hcl D o h with h2 |h2
    ·rw[hVD]at h2;cases h2
    ·rw[←h1]at h2;cases h2
 have hle2:HLe V'.H (fun k=>if k=D then some (.deferred (some []))else V'.H k):=fun k o h=>by
  show(if k=D then some (.deferred (some []))else V'.H k)=some o
  rw[if_neg fun e=>by rw[e,hVD']at h;cases h];exact h
 refine⟨⟨fun k=>if k=D then some (.deferred (some []))else V'.H k,V'.σ,V'.ov⟩,{size:=r.size,defers:=⟨?_,?_,?_⟩,slots:=fun t sv h=>?_,wok:=?_,few:=⟨r.few.1,by show st.m≤ck.length;rw[hlen];exact r.few.2⟩}⟩
 · show{target:=.collected D,args:=#[]}::a.defers=_
   rw[r.defers.eq];rfl
 · refine dr.2 ⟨fun hm=>?_,r.defers.nodup⟩
   have:=r.wok.hle _ _ (r.defers.at' D hm).1
   rw[hVD]at this;cases this
 · intro E hE
   rcases aJ.1 hE with rfl |hE
   ·exact⟨if_pos rfl,aC r.wok.ext.size hD⟩
   · have h1:=r.defers.at' E hE
     refine⟨?_,h1.2⟩
     show(if E=D then some (.deferred (some []))else Γ.H0 E)=_
     split
     ·rfl
     ·exact h1.1
 ·exact cB.keep (V:=V') (V':=⟨fun k=>if k=D then some (.deferred (some []))else V'.H k,V'.σ,V'.ov⟩) (a:=a) rfl rfl hle2.ke rfl ((r.slots t sv h).agree hag (al.1 hfr _ h))
 · refine{ext:=hw.ext,imm:=fun k o h=>?_,hle:=fun k o h=>?_,frz:=fun k h=>?_,agr:=hw.agr,own:=fun i c hc=>?_,base:=fun i c b hc hb=>⟨(hw.base i c b hc hb).1,?_⟩,inj:=hw.inj}
   · have h':(if k=D then some (.deferred (some []))else V'.H k)=some o:=h
     split at h'
     ·rename_i e;rw[e,hk];exact h'
     ·exact hw.imm k o h'
   · have h':(if k=D then some (.deferred (some []))else Γ.H0 k)=some o:=h
     show(if k=D then some (.deferred (some []))else V'.H k)=some o
     split at h'
     ·rename_i e;rw[if_pos e];exact h'
     ·rename_i e;rw[if_neg e];exact hw.hle k o h'
   · by_cases e:k=D
     · left;show(if k=D then some (.deferred (some []))else Γ.H0 k)≠none
       rw[if_pos e];simp
     · have h':(if k=D then some (.deferred (some []))else V'.H k)≠none:=h
       rw[if_neg e]at h'
       rcases hw.frz k h' with h1 |h1
       · left;show(if k=D then some (.deferred (some []))else Γ.H0 k)≠none
         rw[if_neg e];exact h1
       ·exact .inr h1
   ·exact Chunk.holds_keep (V:=V') (V':=⟨fun k=>if k=D then some (.deferred (some []))else V'.H k,V'.σ,V'.ov⟩) rfl rfl hle2.ke (hw.own i c hc)
   · show(if b=D then some (.deferred (some []))else V'.H b)=none
     rw[if_neg fun e=>?_]
     ·exact(hw.base i c b hc hb).2
     · obtain⟨o,h1,h2⟩:=Chunk.blk_live (hw.own i c hc) hb
       rw[e,hk]at h1
       simp only[aa]at h1
       exact h2 _ h1.symm
theorem J.rangesQ {Γ:Ctx} {Q:Out} {m:FuncId} {fn:Func} {root:Code} {st:ST} {p:List Nat} {k:List PI} {g s d gf id:Nat} {o:Oper} {body:Code} {caps:List RC} {ok:Int→Prop} {xs:List Int}
 (hf:P.funcs[m]?=some fn) (hc:sub root p = .rangeFunc (.tmp g) #[s] (.region id #[o] false) body) (ho1:o.op = .assign (.tmp s)) (ho2:o.dst=some d) (ho3:o.guard=none) (hs:Nat.blt s st.n=true) (hd:Nat.blt d st.n=true) (hsd:Nat.beq s d=false)
 (hg:Ev.lookup st.fr g=some (.x (.c (.fn (.func gf) [] caps)))) (hgf:∀args w,(callFunc gf args).run P w = .ok (.enter gf args) w) (hwf:st.wf=true) (hq1:Nat.ble st.m q=true) (hq2:Nat.ble q st.ck.length=true) (hfr:st.fr.all (fun p=>p.2.lt q)=true) (hit:Iter P gf caps ok xs)
 (cG badx:List Int→Prop) (hg0:cG []) (ckf ckx:List Int→List Chunk) (h0:ckf []=st.ck) (hlf:∀l,(ckf l).length=st.ck.length) (hlx:∀l,(ckx l).length=st.ck.length) (hnf:∀l,(ckf l).all Chunk.noTbl=true) (hnx:∀l,(ckx l).all Chunk.noTbl=true)
 (hround:∀(l:Nat) (pre:List Int) (x:Int) (Γ:Ctx),Γ.ds=[]→ok x→(∀y∈pre,ok y)→cG pre→pre.length<xs.length→J P ⟨m,some l⟩ root Γ (fun v ck=>(v = .x (.b true)∧cG (pre++[x])∧ck=ckf (pre++[x]))∨(v = .x (.b false)∧badx (pre++[x])∧ck=ckx (pre++[x]))) [.code (p++[1])]
  {n:=st.n,fr:=bJ d (.x (.i x)) (bJ s (.x (.i x)) st.fr),ck:=ckf pre,m:=q})
 (hdone:cG xs→∀Γ',J P m root Γ' Q k {st with ck:=ckf xs})
 (hstop:∀pre,pre <+: xs→badx pre→∃l,iS P {st with ck:=ckx pre} fn.results.toList=some l∧Q (iB {st with ck:=ckx pre} (iO l)).1 (iB {st with ck:=ckx pre} (iO l)).2) :
 J P m root Γ Q (.code p::k) st:=by
 intro hT V a w r
 have hs':s<st.n:=ay hs
 have hd':d<st.n:=ay hd
 have hwf2:=hwf
 simp only[ST.wf,af]at hwf2
 have hgv:=r.slots g _ (cO hg)
 obtain⟨ua,ub,hgv,hua,hub⟩:=hgv
 cases hua
 have hag:a.eval (.tmp g) = .func (.func gf) #[] ub.toArray:=hgv
 have hTV:gW P V.H:=hT.mono r.wok.hle
 have hΓ:Γ.m≤q:=aC r.few.1 (ay hq1)
 let I:List {x:Int // ok x}→World→Prop:=fun ys W=>cG (ys.map (·.1))∧∃V',Agree q V V'∧Cl V.H V'.H∧WOk Γ (ckf (ys.map (·.1))) V' W
 let Ix:Code→List {x:Int // ok x}→World→Prop:=fun c ys W=>(c = .ret∧badx (ys.map (·.1)))∧∃V',Agree q V V'∧Cl V.H V'.H∧WOk Γ (ckx (ys.map (·.1))) V' W
 let Ax:{x:Int // ok x}→Act→World→Prop:=fun x a' _=>a'=(({a with defers:=[]}:Act).put (some s) (.int .i64 x.1)).put (some d) (.int .i64 x.1)
 have hI:OwnFrom w.heap.size I:=fun ys W W' row ⟨q0,V',q1,q2,q3⟩ hgr hrow=>⟨q0,V',q1,q2,q3.turned q2 r.wok.imm r.wok.ext.size hgr hrow (hnf _)⟩
 have hIx:∀c,OwnFrom w.heap.size (Ix c):=fun c ys W W' row ⟨q0,V',q1,q2,q3⟩ hgr hrow=>⟨q0,V',q1,q2,q3.turned q2 r.wok.imm r.wok.ext.size hgr hrow (hnx _)⟩
 have hI0:I [] w:=⟨hg0,V,Agree.refl _ _,fun _ _ h=>.inl h,by show WOk Γ (ckf []) V w;rw[h0];exact r.wok⟩
 have hAx:∀x a',OwnFrom w.heap.size (fun(_:Unit) W=>Ax x a' W):=fun x a' _ W W' row h _ _=>h
 have hKb:∀(W:World) (l:Nat) (o o':Obj),w.heap.size≤l→W.heap[l]?=some o→o.isCells=false→o.isWalk=false→KpH V.H W (W.putObj l o'):=fun W l o o' hl _ _ _ =>
  ⟨rfl,rfl,rfl,by simp,fun i hi=>World.putObj_heap_other fun e=>by
   cases h:V.H i with
   |none=>exact hi h
   |some ob=>have:=(Array.getElem?_eq_some_iff.1 (r.wok.imm i ob h)).1;omega⟩
 let Qk:Exit→Act→World→Prop:=fun e a' w'=>match e with
  |.normal=>Go.Sy.Fin P (m:Go.Sy.Md) (jl Γ Q) (k.map (PI.den root)) a' w'
  |.ret=>∃(v:Value) (ds:List Nat),a'.defers=ds.map (fun D=>({target:=.collected D,args:=#[]}:Deferred))∧ds.Nodup∧(∀D∈ds,w'.heap[D]?=some (.deferred (some [])))∧(results fn a'.tmps).run P (Go.Sy.took w' ds) = .ok v (Go.Sy.took w' ds)∧jl Γ Q (.returned v) (Go.Sy.took w' ds)
  |_=>False
 have hH0:∀D,w.heap.size≤D→Γ.H0 D=none:=fun D hD=>by
  cases h:Γ.H0 D with
  |none=>rfl
  |some ob=>have:=(Array.getElem?_eq_some_iff.1 (r.wok.imm D ob (r.wok.hle D ob h))).1;omega
 have hT':∀D,w.heap.size≤D→gW P (fun k=>if k=D then some (.deferred (some []))else Γ.H0 k):=fun D hD=>hT.mono fun k ob h=>by
  show(if k=D then some (.deferred (some []))else Γ.H0 k)=some ob
  rw[if_neg fun e=>by rw[e,hH0 D hD]at h;cases h];exact h
 have key:=wpIn_rangeFunc_ownH (F:=Fence.wide) (n:=1) (P:=P) (g:=.tmp g) (ps:=#[s]) (assign:=.region id #[o] false) (body:=body) (Q:=Qk) (a:=a) (w:=w) rfl (ar 1) hag trivial hgf
  (encs:=fun(x:{x:Int // ok x})=>#[.int .i64 x.1]) (Kp:=KpH V.H) (S:=fun ys=>ys.map (·.1)=xs) (Sp:=fun ys=>ys.map (·.1) <+: xs) (N:=xs.length) (w0:=w) (hit _ V w ub r.wok.imm hTV hub)
  (fun h1 h2=>h1.trans h2) hKb (Below.refl _ _) (fun _=>rfl) I Ix hI hIx hI0 Ax hAx ?assign ?body ?done ?stop
 case assign =>
  intro l pre x W K hi hK
  have hszs:s<a.tmps.size:=by rw[r.size];exact hs'
  have e:({tmps:=(#[s].zip #[Value.int .i64 x.1]).foldl (fun t (p,v)=>t.setIfInBounds p v) a.tmps,defers:=[]}:Act)=({a with defers:=[]}:Act).put (some s) (.int .i64 x.1):=by
   simp[Act.put]
  show(Code.region id #[o] false).wpIn (Fence.wide.inRound l) _ P (Exit.then K _) ({tmps:=(#[s].zip #[Value.int .i64 x.1]).foldl (fun t (p,v)=>t.setIfInBounds p v) a.tmps,defers:=[]}:Act) W
  rw[e]
  refine sr ho1 ho2 ho3 (hK _ _ (KeepsFrom.refl _ _) ⟨rfl,rfl,rfl,ar _,fun _ _=>rfl⟩ hi ?_)
  show(({a with defers:=[]}:Act).put (some s) (.int .i64 x.1)).put (some d) ((({a with defers:=[]}:Act).put (some s) (.int .i64 x.1)).eval (.tmp s))=_
  have e2:((({a with defers:=[]}:Act).put (some s) (.int .i64 x.1)).eval (.tmp s)) = .int .i64 x.1:=by
   show((({a with defers:=[]}:Act).put (some s) (.int .i64 x.1)).tmps.getD s undef)=_
   simp[Act.put,Array.getD,hszs]
  rw[e2]
 case body =>
  intro l pre x a' W hl hrec hi ha hlt
  obtain⟨hgd,V',q1,q2,q3⟩:=hi
  have ha':a'=(({a with defers:=[]}:Act).put (some s) (.int .i64 x.1)).put (some d) (.int .i64 x.1):=ha
  have hln:=hlf (pre.map (·.1))
  have r0:Rel (mK q (ckf (pre.map (·.1))) V' W) {n:=st.n,fr:=st.fr,ck:=ckf (pre.map (·.1)),m:=q} V' {a with defers:=[]} W :=
   {size:=r.size,defers:=.nil rfl,slots:=fun t sv h=>cB.keep (V:=V') (a:=a) rfl rfl (HLe.refl _).ke rfl ((r.slots t sv h).agree q1 (al.1 hfr _ h)),wok:=q3.wholeQ q,few:=⟨ar _,by show q≤(ckf (pre.map (·.1))).length;rw[hln];exact ay hq2⟩}
  have r1:=r0.put s (.x (.i x.1)) (.int .i64 x.1) hs' fun a2 _ h=>by show SX.R V' (SX.i x.1) (a2.tmps.getD s undef);rw[h];exact PR.int _ _
  have r2:=r1.put d (.x (.i x.1)) (.int .i64 x.1) hd' fun a2 _ h=>by show SX.R V' (SX.i x.1) (a2.tmps.getD d undef);rw[h];exact PR.int _ _
  rw[←ha']at r2
  have hj:=hround l (pre.map (·.1)) x.1 (mK q (ckf (pre.map (·.1))) V' W) rfl x.2 (fun y hy=>by obtain⟨z,_,rfl⟩:=aL.1 hy;exact z.2) hgd (by rw[aQ];exact hlt) (hTV.mono q1.hle) V' a' W r2
  have hb:sub root (p++[1])=body:=by rw[gO,hc];rfl
  simp only[aq,cc,PI.den,hb]at hj
  refine wpIn_mono (sY hj) fun e a2 W2 hq=>?_
  have common:∀{ck:List Chunk} {V2:Vn},WOk (mK q (ckf (pre.map (·.1))) V' W) ck V2 W2→ck.length=st.ck.length→ck.all Chunk.noTbl=true→KeepsFrom w.heap.size W W2∧KpH V.H W W2∧∃V3,Agree q V V3∧Cl V.H V3.H∧WOk Γ ck V3 W2:=by
   intro ck V2 hw _ hnt
   have hM:∀b,(mK q (ckf (pre.map (·.1))) V' W).M b→(∃ob,W.heap[b]?=some ob∧ob.isCells=true)∧V'.H b=none:=fun b ⟨i,c,hci,hcb⟩=>⟨Chunk.blk_cells (al.1 (hnf _) c (List.mem_of_getElem? hci)) (q3.own i c hci) hcb,(q3.base i c b hci hcb).2⟩
   refine⟨⟨hw.ext.size,fun b ob _ hb1 hb2=>?_⟩,⟨hw.ext.os,hw.ext.tape,hw.ext.output,hw.ext.size,fun b hb1=>?_⟩,?_⟩
   · have hlt2:b<W.heap.size:=(Array.getElem?_eq_some_iff.1 hb1).1
     refine(hw.ext.block b hlt2 fun h=>?_).trans hb1
     obtain⟨⟨o2,h3,h4⟩,_⟩:=hM b h
     rw[hb1]at h3
     simp only[aa]at h3
     rw[←h3,hb2]at h4;cases h4
   · obtain⟨ob,hob⟩:=Option.ne_none_iff_exists'.1 hb1
     have h5:=q3.imm b ob (q1.hle b ob hob)
     have hlt2:b<W.heap.size:=(Array.getElem?_eq_some_iff.1 h5).1
     refine hw.ext.block b hlt2 fun h=>?_
     have:=(hM b h).2
     rw[q1.hle b ob hob]at this;cases this
   · have hw3:=q3.afterQ hΓ hw
     refine hw3.clean (n:=q) ⟨q1.hle.trans hw.hle,fun i hi=>?_⟩ r.wok.hle hnt
     have h1:V2.σ i=V'.σ i∧V2.ov i=V'.ov i:=hw.agr i hi
     exact⟨h1.1.trans (q1.same i hi).1,h1.2.trans (q1.same i hi).2⟩
  have hmap:(pre++[x]).map (·.1)=pre.map (·.1)++[x.1]:=by simp
  rcases hq with⟨rfl,⟨v,V2,ret,ck2,h1,h2,h3,h4⟩ |h1⟩ |⟨rfl,⟨v,V2,ret,ck2,h1,h2,h3,h4⟩ |h1⟩ |⟨id2,rfl,⟨v,V2,ret,ck2,h1,h2,h3,h4⟩ |h1⟩
  case inl.inr=>exact False.elim h1
  case inr.inl.inr=>exact False.elim h1
  case inr.inr.inr=>exact False.elim h1
  · rw[jT rfl]at h4
    simp only[Ending.returned.injEq]at h1
    rcases h2 with⟨e1,hgx,e2⟩ |⟨e1,hgx,e2⟩
    · subst e2
      obtain⟨g1,g2,g3⟩:=common h4 (hlf _) (hnf _)
      refine⟨g1,g2,?_⟩
      show cG ((pre++[x]).map (·.1))∧∃V',_∧_∧WOk Γ (ckf ((pre++[x]).map (·.1))) V' W2
      rw[hmap];exact⟨hgx,g3⟩
    · subst e1
      have h5:PR V2.H (.bool false) v:=h3
      rw[←h1]at h5;cases h5
  · rw [jT rfl]at h4
    simp only[Ending.returned.injEq]at h1
    rcases h2 with⟨e1,hgx,e2⟩ |⟨e1,hgx,e2⟩
    · subst e1
      have h5:PR V2.H (.bool true) v:=h3
      rw[←h1]at h5;cases h5
    · subst e2
      obtain⟨g1,g2,g3⟩:=common h4 (hlx _) (hnx _)
      refine⟨g1,⟨rfl,?_⟩,?_⟩
      ·rw[hmap];exact hgx
      · show ∃V',_∧_∧WOk Γ (ckx ((pre++[x]).map (·.1))) V' W2
        rw[hmap];exact g3
  · exfalso
    simp only[Ending.returned.injEq]at h1
    subst h1
    rcases h2 with⟨e1,_⟩ |⟨e1,_⟩
    · subst e1
      have h5:PR V2.H (.bool true) (.int .i64 (id2:Int)):=h3
      cases h5
    · subst e1
      have h5:PR V2.H (.bool false) (.int .i64 (id2:Int)):=h3
      cases h5
 case done =>
  intro D ys W hD hS hi hk
  obtain⟨hgd,V',q1,q2,q3⟩:=hi
  have hS':ys.map (·.1)=xs:=hS
  rw[hS']at q3 hgd
  obtain⟨V2,r2⟩:=r.markQ hfr q1 q2 q3 (hlf xs) hD hk
  exact Go.Sy.Fin.mono (fun e w' hq=>hq.turn (lC (hH0 D hD) _)) (hdone hgd _ (hT' D hD) V2 _ W r2)
 case stop =>
  intro D c ys W hD hS hi hk
  obtain⟨⟨rfl,hbd⟩,V',q1,q2,q3⟩:=hi
  obtain⟨V2,r2⟩:=r.markQ hfr q1 q2 q3 (hlx _) hD hk
  obtain⟨l,hl1,hl2⟩:=hstop _ hS hbd
  obtain⟨v,g1,g2⟩:=r2.fin hl1 hl2
  refine wpIn_ret ?_
  exact⟨v,D::Γ.ds,r2.defers.eq,r2.defers.nodup,fun E hE=>r2.wok.imm _ _ (r2.wok.hle _ _ (r2.defers.at' E hE).1),g1,g2.turn (lC (hH0 D hD) _)⟩
 intro b k' cs hro hb0
 obtain⟨hb,hkd,hk0⟩:=hb0 rfl
 subst hk0
 simp only[aq,PI.den,hc]
 obtain⟨e,a',w',hq,harr⟩:=key b (k.map (PI.den root)++[]) cs hro trivial (room_wide _)
 have harr':=harr
 cases e with
 |normal=>exact Go.Sy.EndAt.of_steps (stepsIn_wide.1 harr') (hq b [] cs hro hb0)
 | ret =>
   obtain⟨v,ds,e1,e2,e3,e4,e5⟩:=hq
   obtain⟨todo,hst⟩:=harr'.1 hro
   refine⟨.returned v,Go.Sy.took w' ds,_,e5,(stepsIn_wide.1 hst).trans (Go.Sy.leave_marks ds w' _ cs rfl e1 e2 e3),hb,?_⟩
   exact⟨rfl,rfl,hkd,fn,by simpa[Frame.atR,hb]using hf,e4⟩
 |_=>exact hq.elim
theorem J.rangeQ{Γ:Ctx}{Q:Out}{m:FuncId}{fn:Func}{root:Code}{st:ST}{p:List Nat}{k:List PI}{g s d gf:Nat}{caps:List RC}{ok:Int→Prop}{xs:List Int}
 (hf:P.funcs[m]?=some fn) (hc:se root p=some (g,s,d)) (hs:Nat.blt s st.n=true) (hd:Nat.blt d st.n=true) (hsd:Nat.beq s d=false)
 (hg:Ev.lookup st.fr g=some (.x (.c (.fn (.func gf) [] caps)))) (hgf:∀args w,(callFunc gf args).run P w = .ok (.enter gf args) w) (hwf:st.wf=true) (hq1:Nat.ble st.m q=true) (hq2:Nat.ble q st.ck.length=true) (hfr:st.fr.all (fun p=>p.2.lt q)=true) (hit:Iter P gf caps ok xs)
 (cG badx:List Int→Prop) (hg0:cG []) (ckf ckx:List Int→List Chunk) (h0:ckf []=st.ck) (hlf:∀l,(ckf l).length=st.ck.length) (hlx:∀l,(ckx l).length=st.ck.length) (hnf:∀l,(ckf l).all Chunk.noTbl=true) (hnx:∀l,(ckx l).all Chunk.noTbl=true)
 (hround:∀(l:Nat) (pre:List Int) (x:Int) (Γ:Ctx),Γ.ds=[]→ok x→(∀y∈pre,ok y)→cG pre→pre.length<xs.length→J P ⟨m,some l⟩ root Γ (fun v ck=>(v = .x (.b true)∧cG (pre++[x])∧ck=ckf (pre++[x]))∨(v = .x (.b false)∧badx (pre++[x])∧ck=ckx (pre++[x]))) [.code (p++[1])]
  {n:=st.n,fr:=bJ d (.x (.i x)) (bJ s (.x (.i x)) st.fr),ck:=ckf pre,m:=q})
 (hdone:cG xs→∀Γ',J P m root Γ' Q k {st with ck:=ckf xs})
 (hstop:∀pre,pre <+: xs→badx pre→∃l,iS P {st with ck:=ckx pre} fn.results.toList=some l∧Q (iB {st with ck:=ckx pre} (iO l)).1 (iB {st with ck:=ckx pre} (iO l)).2) :
 J P m root Γ Q (.code p::k) st:=by
 unfold se at hc
 split at hc
 · rename_i g' s' id o body hcode
   split at hc
   · rename_i s2 d' ho1 ho2 ho3
     cases hb:Nat.beq s2 s'
     ·rw[hb]at hc;cases hc
     · rw[hb]at hc
       simp only[cond_true,aa,ae]at hc
       obtain⟨rfl,rfl,rfl⟩:=hc
       have e:=aj hb
       subst e
       exact J.rangesQ q hf hcode ho1 ho2 ho3 hs hd hsd hg hgf hwf hq1 hq2 hfr hit cG badx hg0 ckf ckx h0 hlf hlx hnf hnx hround hdone hstop
   ·cases hc
 ·cases hc
end Go.Ev
