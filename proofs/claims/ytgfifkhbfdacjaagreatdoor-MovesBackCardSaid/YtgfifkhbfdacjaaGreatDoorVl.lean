/- An executor for function bodies of the model over data, part VL: a function that hands out numbers, walked: each handing out begins a round. Conditions: the rule's own. -/
import Derived.Test.YtgfifkhbfdacjaaGreatDoorVg
namespace Go.Ev
open Go.RowKit
def SV.data:SV→Bool
 | .x (.c (.pd p))=>p.noTbl
 | _=>false
variable (root:Code) {P:Program} (p:List Nat) (i:Nat) {f:FuncId} {Γ:Ctx} {V:Vn} (st:ST) {fn:Func}
theorem b4.data {V':Vn} {a:Act} {t:Nat} {sv:SV} (hl:∀ k x y z,V.H k=some (.cells x y z)→V'.H k=some (.cells x y z)) (hd:sv.data=true) (h:b4 V a t sv):b4 V' a t sv:=by
 cases sv with
 | x s =>
   cases s with
   | c sc =>
     cases sc with
     | pd p=>exact PR.keepC hl h hd
     | _=>cases hd
   | _=>cases hd
 | _=>cases hd
structure Seg (H0:Mem) (n0:Nat) (Γ:Ctx) (I:World→Prop):Prop where
 ds:Γ.ds=[]
 own:∀ b,¬Γ.M b
 inv:I Γ.w0
 hle:HLe H0 Γ.H0
 far:∀ k,Γ.H0 k≠none→H0 k≠none∨n0≤k
 cl:Cl H0 Γ.H0
 size:n0≤Γ.w0.heap.size
def vD (lp:Nat):SX:=.c (.pd (.v (.func (.yield lp) #[] #[])))
def sq (o:Oper):Option (Nat×Nat×Nat):=match o.op,o.dst with
 | .call { callee:=.value (.tmp g),args:=⟨[.tmp x]⟩,argTypes:=_ },some d=>some (g,x,d)
 | _,_=>none
def oD (ops:Array Oper) (o:Oper):Bool:=match o.guard with
 | none=>true
 | some (j,want)=>match (ops[j]?).bind (·.dst) with
   | some s=>match Ev.lookup st.fr s with
     | some (.x (.c (.pd (.bool b))))=>b==want
     | _=>false
   | none=>false
theorem uc {st:ST} {V:Vn} {a:Act} {w:World} (r:Rel Γ st V a w) {ops:Array Oper} {o:Oper} (h:oD st ops o=true):Region.wanted o (yielded ops a.tmps)=true:=by
 unfold oD at h
 split at h
 · rename_i hg; exact fD hg
 · rename_i j want hg
   split at h
   · rename_i s hs
     split at h
     · rename_i b hl
       have h1:PR V.H (.bool b) (a.tmps.getD s undef):=r.slots s _ (b3 hl)
       refine gz hg hs ?_
       rw [eq_of_beq h] at h1
       generalize a.tmps.getD s undef=u at h1 ⊢
       cases h1; rfl
     · cases h
   · cases h
def Ae:Option (Nat×Nat×Nat):=match LK root p i with
 | some o=>bif oD st (opsOf (sub root p)) o then sq o else none
 | none=>none
theorem J.settleA {f:Go.Sy.Md} {root:Code} {Γ:Ctx} {Q:Out} {todo:List PI} {st:ST} (s:Nat) (want:Bool) (hb:(match Ev.lookup st.fr s with | some (.x (.c (.pd (.bool b))))=>b==want | _=>false)=true)
 (hk:J P f root Γ Q todo { st with fr:=nj s want st.fr }):J P f root Γ Q todo st:=by
 intro hT V a w r
 split at hb
 · rename_i b hl
   have h1:PR V.H (.bool b) (a.tmps.getD s undef):=r.slots s _ (b3 hl)
   rw [eq_of_beq hb] at h1
   have hon:a.tmps.getD s undef = .bool want:=by
    generalize a.tmps.getD s undef=u at h1 ⊢
    cases h1; rfl
   exact hk hT V a w (r.settle hon)
 · cases hb
theorem pT {M:Nat→Prop} {w w':World} (h:Fr M w w') (hM:∀ b,¬M b):w.grownBy w' none:=⟨h.os,h.tape,h.output,h.size,fun k hk _=>h.block k hk (hM k)⟩
theorem J.yieldX {root:Code} {Γ:Ctx} {q q':Prop} {p:List Nat} {i:Nat} {k:List PI} {st:ST} {g xa d lp:Nat} {x:Int} {H0:Mem} {n0:Nat} {I It If:World→Prop}
 (S:Seg H0 n0 Γ I) (hya:Ae root p i st=some (g,xa,d)) (hd:Nat.blt d st.n=true) (hg:Ev.lookup st.fr g=some (.x (vD lp))) (hx:Ev.lookup st.fr xa=some (.x (.i x)))
 (hck:st.ck.all lW=true) (hfr:st.fr.all (fun q=>q.2.data)=true) (hI:∀ A B,I A→A.grownBy B none→I B)
 (hY:∀ W,I W→∃ n,YieldAt Fence.wide n P lp #[.int .i64 x] W fun e W'=>(e = .returned (.bool true)∧It W'∧KpX H0 n0 W W')∨(e = .returned (.bool false)∧If W'))
 (hend:∀ w w' v,It w→w.grownBy w' none→q'→Γ.alt (.returned v) w')
 (hk:∀ Γ',Seg H0 n0 Γ' It→Γ'.alt=Γ.alt→J P f root Γ' (fun _ _=>q') (.ops p (i+1)::k) { n:=st.n,fr:=bu d (.x (.b true)) st.fr,ck:=st.ck,m:=st.m })
 (hno:∀ (a:Act) (w:World),a.tmps.size=st.n→a.defers=[]→d<a.tmps.size→(∀ t sv,(t,sv)∈st.fr→∀ b,sv = .x (.b b)→a.tmps.getD t undef = .bool b)→If w→Go.Sy.Fin P (f:Go.Sy.Md) Γ.alt ((PI.ops p (i+1)::k).map (PI.den root)) (a.put (some d) (.bool false)) w) :
 J P f root Γ (fun _ _=>q) (.ops p i::k) st:=by
 intro hT V a w r
 unfold Ae at hya
 split at hya
 case h_2=>cases hya
 rename_i o ho
 cases hgu:oD st (opsOf (sub root p)) o
 · rw [hgu] at hya; cases hya
 rw [hgu] at hya
 have hop:sq o=some (g,xa,d):=hya
 have hde:a.defers=[]:=by have:=r.defers.eq; rw [S.ds] at this; simpa using this
 have hb:Γ.base=Γ:=fS S.ds
 have hd':d<st.n:=an hd
 have hgrow:=pT r.wok.ext S.own
 have hIw:I w:=hI _ _ S.inv hgrow
 have hbool:∀ t sv,(t,sv)∈st.fr→∀ b,sv = .x (.b b)→a.tmps.getD t undef = .bool b:=fun t sv hm b e=>by
  subst e
  have h1:PR V.H (.bool b) (a.tmps.getD t undef):=r.slots t _ hm
  generalize a.tmps.getD t undef=u at h1 ⊢
  cases h1; rfl
 have hw:=uc r hgu
 obtain ⟨n,fn,tmps,assign,body,hy,hR⟩:=hY w hIw
 have ho':(opsOf (sub root p))[i]?=some o:=ho
 have hi:i<(opsOf (sub root p)).size:=(Array.getElem?_eq_some_iff.1 ho').1
 have hs:(opsOf (sub root p)).size - i=((opsOf (sub root p)).size - (i+1))+1:=by omega
 simp only [aw,PI.den]
 rw [hs,bB]
 have hgv:a.tmps.getD g undef = .func (.yield lp) #[] #[]:=by
  have h1:PR V.H (.v (.func (.yield lp) #[] #[])) (a.tmps.getD g undef):=r.slots g _ (b3 hg)
  generalize a.tmps.getD g undef=u at h1 ⊢
  cases h1; rfl
 have hxv:a.tmps.getD xa undef = .int .i64 x:=by
  have h1:PR V.H (.int .i64 x) (a.tmps.getD xa undef):=r.slots xa _ (b3 hx)
  generalize a.tmps.getD xa undef=u at h1 ⊢
  cases h1; rfl
 obtain ⟨dst,op,ty,pos,after,guard⟩:=o
 unfold sq at hop
 simp only at hop
 split at hop
 · rename_i _ _ g' x' ts d'
   simp only [aa,ae] at hop
   obtain ⟨rfl,rfl,rfl⟩:=hop
   have hr:(execOp a.eval { dst:=some d',op:=.call { callee:=.value (.tmp g'),args:=#[.tmp x'],argTypes:=ts },type:=ty,pos:=pos,after:=after,guard:=guard }).run P w = .ok (.round lp fn tmps assign body) w:=by
    have e1:a.eval (.tmp g') = .func (.yield lp) #[] #[]:=hgv
    have e2:a.eval (.tmp x') = .int .i64 x:=hxv
    have e3:(#[Operand.tmp x'].map a.eval)=#[.int .i64 x]:=by
     apply cu.1
     rw [cv]
     show [a.eval (.tmp x')]=_
     rw [e2]
    simp only [execOp,resolve,e3,e1,Deferred.ofValue,Sem.run_bind,run_pure',Result.andThen_ok,invoke]
    exact hy
   refine Go.Sy.Fin.yield ho' hw hr (hR.mono fun e w2 hq=>?_)
   rcases hq with ⟨rfl,h1,h2⟩ | ⟨rfl,h1⟩
   · refine ⟨_,rfl,?_⟩
     let H2:Mem:=dJ Γ.H0 V.H
     have hH2:∀ k ob,H2 k=some ob→V.H k=some ob∧(Γ.H0 k=some ob∨(Γ.H0 k=none∧ob.isCells=true)):=fun k ob h=>by
      have h':dJ Γ.H0 V.H k=some ob:=h
      unfold dJ at h'
      cases hG:Γ.H0 k with
      | some ob' =>
        rw [hG] at h'
        have h3:=r.wok.hle k ob' hG
        have h4:V.H k=some ob:=h'
        rw [h3] at h4
        exact ⟨h',.inl (by rw [← h4])⟩
      | none =>
        rw [hG] at h'
        simp only at h'
        split at h'
        · rename_i x y z hV
          simp only [aa] at h'
          subst h'
          exact ⟨hV,.inr ⟨rfl,rfl⟩⟩
        · cases h'
     have hfar:∀ k,H2 k≠none→H0 k≠none∨n0≤k:=fun k h=>by
      obtain ⟨ob,hob⟩:=dI.1 h
      obtain ⟨q1,q2⟩:=hH2 k ob hob
      rcases r.wok.frz k (by rw [q1]; simp) with h3 | h3 | h3
      · exact S.far k h3
      · have:=S.size; exact .inr (by omega)
      · exact absurd h3 (S.own k)
     have hcl:Cl H0 H2:=fun k ob h=>by
      obtain ⟨q1,q2 | ⟨_,q2⟩⟩:=hH2 k ob h
      · exact S.cl k ob q2
      · exact .inr q2
     have hle2:HLe Γ.H0 H2:=fun k ob h=>by
      have h3:=r.wok.hle k ob h
      show dJ Γ.H0 V.H k=some ob
      unfold dJ; rw [h]; exact h3
     have hin2:HIn H2 w2:=fun k ob h=>by
      have h3:=r.wok.imm k ob (hH2 k ob h).1
      cases h0:H0 k with
      | some ob'=>exact (h2.1.same k (by rw [h0]; simp)).trans h3
      | none =>
        rcases hcl k ob h with h4 | h4
        · rw [h0] at h4; cases h4
        · rcases hfar k (by rw [h]; simp) with h5 | h5
          · rw [h0] at h5; exact absurd rfl h5
          · exact h2.2 k ob h5 h3 h4
     let V2:Vn:=⟨H2,V.σ,V.ov⟩
     let Γ2:Ctx:={ w0:=w2,M:=fun _=>False,H0:=H2,m:=0,σ0:=V.σ,ov0:=V.ov,ds:=[],alt:=Γ.alt }
     have hwok:WOk Γ2 st.ck V2 w2 :=
      {
       ext:=Fr.refl _ _,imm:=hin2,hle:=HLe.refl _,frz:=fun _ h=>.inl h,agr:=fun _ _=>⟨rfl,rfl⟩,
       own:=fun i c hc=>(by
        have:=ak.1 hck c (List.mem_of_getElem? hc)
        cases c <;> first | trivial | cases this),
       base:=fun i c b hc hb=>(by
        have:=ak.1 hck c (List.mem_of_getElem? hc)
        cases c <;> first | (simp [lW] at this; done) | (simp [Chunk.blk] at hb; done)),
       inj:=fun i j c e b hc _ hb _=>by
        have:=ak.1 hck c (List.mem_of_getElem? hc)
        cases c <;> first | (simp [lW] at this; done) | (simp [Chunk.blk] at hb; done) }
     have r0:Rel Γ2 { n:=st.n,fr:=st.fr,ck:=st.ck,m:=st.m } V2 a w2 :=
      {
       size:=r.size,defers:=(by rw [hde]; exact .nil rfl),
       slots:=fun t sv h=>b4.data (V:=V) (fun k x y z h=>by
        show dJ Γ.H0 V.H k=_
        unfold dJ
        cases hG:Γ.H0 k with
        | some ob=>exact h
        | none=>simp only [h]) (ak.1 hfr _ h) (r.slots t sv h),
       wok:=hwok,few:=⟨aQ _,r.few.2⟩ }
     have r1:=r0.put d' (.x (.b true)) (.bool true) hd' fun a2 _ h=>by show SX.R V2 (SX.b true) (a2.tmps.getD d' undef); rw [h]; exact PR.bool _
     have S2:Seg H0 n0 Γ2 It:=⟨rfl,fun _ h=>h,h1,S.hle.trans hle2,hfar,hcl,by
      have:=S.size; have h3:=r.wok.ext.size; have h4:=h2.1.size
      show n0≤w2.heap.size
      omega⟩
     refine Go.Sy.Fin.mono (fun e w' hq=>?_) (hk Γ2 S2 rfl (hT.mono hle2) V2 _ w2 r1)
     rcases hq with ⟨v,V',ret,ck',e1,e2,_,e4⟩ | hq
     · subst e1
       exact .inr (by rw [hb]; exact hend w2 w' v h1 (pT e4.ext fun _ h=>h) e2)
     · exact .inr (by rw [hb]; exact hq)
   · refine ⟨_,rfl,?_⟩
     have:=hno a w2 r.size hde (by rw [r.size]; exact hd') hbool h1
     exact Go.Sy.Fin.mono (fun e w' hq=>.inr (by rw [hb]; exact hq)) this
 · cases hop
theorem ML {gf:FuncId} {fn:Func} {caps:List RC} {ok:Int→Prop} {xs:List Int} (hf:P.funcs[gf]?=some fn) (hb:fn.body.isSome=true) (hn:Nat.ble (caps.length+1) fn.ntmps=true)
 (h:∀ (lp n0:Nat) (H0:Mem) (JJ Jx:List Int→World→Prop) (Γ:Ctx),(∀ s A B,JJ s A→A.grownBy B none→JJ s B)→(∀ s A B,Jx s A→A.grownBy B none→Jx s B) →
  (∀ w v,JJ xs w→Γ.alt (.returned v) w)→(∀ pre w v,pre <+: xs→Jx pre w→Γ.alt (.returned v) w) →
  (∀ pre x W,ok x→JJ pre W→pre.length<xs.length→∃ n,YieldAt Fence.wide n P lp #[.int .i64 x] W fun e W'=>(e = .returned (.bool true)∧JJ (pre++[x]) W'∧KpX H0 n0 W W')∨(e = .returned (.bool false)∧Jx (pre++[x]) W')) →
  Seg H0 n0 Γ (JJ [])→J P gf (au fn) Γ (fun _ _=>xs=[]) [.code []] (fx fn.ntmps (vD lp::caps.map RC.sx) [])):uM true P gf caps ok xs:=by
 intro n V w lb hH hT hcaps l Jg Jb W hB hJ hJx hY h0
 have hHW:HIn V.H W:=fun k o hk=>(hB.block k (Array.getElem?_eq_some_iff.1 (hH k o hk)).1).trans (hH k o hk)
 let JJ:List Int→World→Prop:=fun ys X=>∃ zs,zs.map (·.1)=ys∧Jg zs X
 let JX:List Int→World→Prop:=fun ys X=>∃ zs,zs.map (·.1)=ys∧Jb zs X
 let R:Ending→World→Prop:=fun e X=>(∃ v,e = .returned v)∧((∃ zs:List { x:Int // ok x },zs.map (·.1)=xs∧Jg zs X)∨∃ zs:List { x:Int // ok x },zs.map (·.1) <+: xs∧Jb zs X)
 let Γ:Ctx:={ entry [] V W with alt:=R }
 have hj:=h l w.heap.size V.H JJ JX Γ (fun s A B ⟨zs,q1,q2⟩ hg=>⟨zs,q1,hJ zs A B none q2 hg fun r e=>by cases e⟩) (fun s A B ⟨zs,q1,q2⟩ hg=>⟨zs,q1,hJx zs A B none q2 hg fun r e=>by cases e⟩)
  (fun X v ⟨zs,q1,q2⟩=>⟨⟨_,rfl⟩,.inl ⟨zs,q1,q2⟩⟩) (fun pre X v hp ⟨zs,q1,q2⟩=>⟨⟨_,rfl⟩,.inr ⟨zs,by rw [q1]; exact hp,q2⟩⟩)
  (fun pre x X hx ⟨zs,q1,q2⟩ hlen=>by
   obtain ⟨fn,tmps,assign,body,hy,hR⟩:=hY zs ⟨x,hx⟩ X q2 (by rw [← q1,aN] at hlen; exact hlen)
   refine ⟨_,fn,tmps,assign,body,hy,hR.mono fun e X2 hq=>?_⟩
   rcases hq with ⟨e1,e2,e3⟩ | ⟨e1,e2⟩
   · exact .inl ⟨e1,⟨_,by rw [bP,q1]; rfl,e2⟩,e3⟩
   · exact .inr ⟨e1,_,by rw [bP,q1]; rfl,e2⟩)
  ⟨rfl,fun b ⟨i,c,hc,_⟩=>by simp at hc,⟨[],rfl,h0⟩,HLe.refl _,fun k hk=>.inl hk,fun k o hk=>.inl hk,hB.size⟩
 have hwok:WOk Γ [] V W :=
  { ext:=Fr.refl _ _,imm:=hHW,hle:=HLe.refl _,frz:=fun _ h=>.inl h,agr:=fun _ _=>⟨rfl,rfl⟩,own:=fun i c hc=>(by simp at hc),base:=fun i c b hc=>(by simp at hc),inj:=fun i j c d b hc=>(by simp at hc) }
 have hargs:All2 (SX.R V) (vD l::caps.map RC.sx) (.func (.yield l) #[] #[]::lb):=.cons (PR.v _ rfl) (xH hcaps)
 have hc:=iS hf (jC hb) (by simpa using hn) (Γ:=Γ) rfl hj hwok hT hargs
 refine callsIn_wide.2 ?_
 have e:(#[Value.func (.yield l) #[] #[]]++lb.toArray)=(Value.func (.yield l) #[] #[]::lb).toArray:=by
  apply cu.1; simp
 rw [e]
 refine hc.mono fun e X hq=>?_
 rcases hq with ⟨v,V',ret,ck',e1,e2,_,e4⟩ | hq
 · subst e1
   have e2':xs=[]:=e2
   have hM:∀ b,¬Γ.M b:=fun b ⟨i,c,hc,_⟩=>by simp at hc
   exact ⟨⟨_,rfl⟩,.inl ⟨[],by rw [e2']; rfl,hJ [] W X none h0 (pT e4.ext hM) fun r e=>by cases e⟩⟩
 · exact hq
/-! ### behind a handing out that is refused: operations on truths alone -/
def mr (P:Program) (root:Code) (p:List Nat):Nat→Nat→ST→Option ST
 | 0,_,st=>some st
 | n + 1,i,st=>match LK root p i with
   | some o=>match oD st (opsOf (sub root p)) o,opV P st none o.op,o.dst with
     | true,some (none,sx),some d=>bif Nat.blt d st.n then mr P root p n (i+1) { st with fr:=bu d (.x sx) st.fr } else none
     | _,_,_=>none
   | none=>none
theorem vw {P:Program} {f:Go.Sy.Md} {root:Code} {Γ:Ctx} {R:Ending→World→Prop} {p:List Nat} {k:List Item} {V:Vn} {w:World}:∀ (n i:Nat) {st st':ST} {a:Act},mr P root p n i st=some st'→Rel Γ st V a w→(opsOf (sub root p)).size=i+n →
 (∀ a',Rel Γ st' V a' w→Go.Sy.Fin P f R k a' w)→Go.Sy.Fin P f R (PI.den root (.ops p i)::k) a w
 | 0,i,st,st',a,h,r,hs,hk=>by
   simp only [mr,aa] at h
   subst h
   have hz:(opsOf (sub root p)).size - i=0:=by omega
   simp only [PI.den,hz,List.range'_zero]
   exact Go.Sy.Fin.region_end (hk a r)
 | n + 1,i,st,st',a,h,r,hs,hk=>by
   simp only [mr] at h
   split at h
   · rename_i o ho
     split at h
     · rename_i sx d hg hop hd
       cases hb:Nat.blt d st.n
       · rw [hb] at h; cases h
       · rw [hb] at h
         simp only [cond_true] at h
         obtain ⟨v,hr,hv⟩:=tC r (g:=none) trivial hop trivial
         have hss:(opsOf (sub root p)).size - i=((opsOf (sub root p)).size - (i+1))+1:=by omega
         simp only [PI.den]
         rw [hss,bB]
         have r':=r.put d (.x sx) v (an hb) fun a2 _ h2=>by show SX.R V sx (a2.tmps.getD d undef); rw [h2]; exact hv
         refine Go.Sy.Fin.op_value ho (uc r hg) hr ?_
         rw [hd]
         exact vw n (i+1) h r' (by omega) hk
     · cases h
   · cases h
def CX (P:Program) (root:Code) (p:List Nat) (n i:Nat) (st:ST) (t:Nat):Bool:=match mr P root p n i st with
 | some st'=>match Ev.lookup st'.fr t with
   | some (.x (.c (.pd (.bool b))))=>b
   | _=>false
 | none=>false
def yW (c:Code) (t:Nat):Bool:=match c with
 | .cond (.tmp t') .ret _=>Nat.beq t' t
 | _=>false
theorem noX {root:Code} {R:Ending→World→Prop} {p pc:List Nat} {i n d t:Nat} {k:List PI} {fr:List (Nat×SV)} {nt:Nat} (lits:List (Nat×Bool))
 (hf:P.funcs[f]?=some fn) (hres:fn.results=#[]) (hpo:CX P root p n (i+1) { n:=nt,fr:=(d,.x (.b false))::lits.map (fun q=>(q.1,.x (.b q.2))),ck:=[],m:=0 } t=true) (hs:(opsOf (sub root p)).size=i+1+n)
 (hpcr:yW (sub root pc) t=true) (hlit:lits.all (fun q=>!Nat.beq q.1 d&&fr.any fun u=>Nat.beq u.1 q.1&&(match u.2 with | .x (.c (.pd (.bool b)))=>b==q.2 | _=>false))=true)
 {If:World→Prop} (hend:∀ w v,If w→R (.returned v) w) :
 ∀ (a:Act) (w:World),a.tmps.size=nt→a.defers=[]→d<a.tmps.size→(∀ t sv,(t,sv)∈fr→∀ b,sv = .x (.b b)→a.tmps.getD t undef = .bool b)→If w→Go.Sy.Fin P (f:Go.Sy.Md) R ((PI.ops p (i+1) :: .code pc::k).map (PI.den root)) (a.put (some d) (.bool false)) w:=by
 intro a w hsz hde hd hb hw
 unfold CX at hpo
 split at hpo
 case h_2=>cases hpo
 rename_i st' hrun
 split at hpo
 case h_2=>cases hpo
 rename_i b0 ht
 subst hpo
 unfold yW at hpcr
 split at hpcr
 case h_2=>cases hpcr
 rename_i t' y hpc
 have et:=aj hpcr
 subst et
 let Γ3:Ctx:={ w0:=w,M:=fun _=>False,H0:=fun _=>none,m:=0,σ0:=fun _=>0,ov0:=fun _=>undef,ds:=[] }
 let V3:Vn:=⟨fun _=>none,fun _=>0,fun _=>undef⟩
 have hget:∀ t,(a.put (some d) (.bool false)).tmps.getD t undef=if t=d then .bool false else a.tmps.getD t undef:=fun t=>jo _ _ _ _ hd
 have r : Rel Γ3 { n:=nt,fr:=(d,.x (.b false))::lits.map (fun q=>(q.1,.x (.b q.2))),ck:=[],m:=0 } V3 (a.put (some d) (.bool false)) w :=
  {
   size:=by simp [Act.put,hsz]
   defers:=by show DefOk Γ3 a.defers; rw [hde]; exact .nil rfl
   slots:=fun t sv h=>by
    rcases aJ.1 h with h | h
    · simp only [ae] at h
      obtain ⟨rfl,rfl⟩:=h
      show PR V3.H (.bool false) _
      rw [hget,if_pos rfl]; exact PR.bool _
    · obtain ⟨q,hq,e⟩:=aT.1 h
      simp only [ae] at e
      obtain ⟨rfl,rfl⟩:=e
      have h1:=ak.1 hlit q hq
      rw [af,bn] at h1
      obtain ⟨h2,u,hu,h3⟩:=h1
      rw [af] at h3
      have hne:q.1≠d:=fun e=>by rw [e] at h2; simp at h2
      have hu1:u.1=q.1:=aj h3.1
      show PR V3.H (.bool q.2) _
      rw [hget,if_neg hne]
      obtain ⟨u1,u2⟩:=u
      simp only at hu1 h3
      subst hu1
      split at h3
      · rename_i b
        rw [hb _ _ hu b rfl,eq_of_beq h3.2]; exact PR.bool _
      · exact absurd h3.2 (by decide)
   wok:={ ext:=Fr.refl _ _,imm:=fun _ _ h=>(by cases h),hle:=HLe.refl _,frz:=fun _ h=>.inl h,agr:=fun _ _=>⟨rfl,rfl⟩,own:=fun i c hc=>(by simp at hc),base:=fun i c b hc=>(by simp at hc),inj:=fun i j c e b hc=>(by simp at hc) }
   few:=⟨aQ _,aQ _⟩ }
 simp only [aw]
 refine vw n (i+1) hrun r hs fun a' r'=>?_
 simp only [PI.den,hpc]
 have ht':a'.eval (.tmp t') = .bool true:=by
  have h1:PR V3.H (.bool true) (a'.tmps.getD t' undef):=r'.slots t' _ (b3 ht)
  show a'.tmps.getD t' undef=_
  generalize a'.tmps.getD t' undef=u at h1 ⊢
  cases h1; rfl
 refine Go.Sy.Fin.cond ht' ?_
 have hde':a'.defers=[]:=r'.defers.eq
 exact Go.Sy.Fin.ret rfl hf hde' (results_none hres _ _ _) (hend _ _ hw)
end Go.Ev
