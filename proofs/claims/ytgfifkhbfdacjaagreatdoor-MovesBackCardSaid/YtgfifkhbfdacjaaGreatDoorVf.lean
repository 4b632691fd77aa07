/- An executor for function bodies of the model over data, part VF: a range over a function. Conditions: the rule's own. -/
import Derived.Test.YtgfifkhbfdacjaaGreatDoorVe
namespace Go.Ev
open Go.RowKit
/-! ### rounds -/
section
variable {P:Program} {fn n:Nat} {Γ:Ctx} {Q:Out} {root:Code} {st:ST}
theorem jz {id:Nat}:∀ {t k:List Item},exitTo id t=none→exitTo id (t++k)=exitTo id k
 | [],_,_=>rfl
 | x :: t,k,h=>by
   cases x with
   | inBlock j =>
     simp only [exitTo,bA] at h ⊢
     split at h
     · cases h
     · rename_i hj
       rw [if_neg hj]; exact jz h
   | _ =>
     simp only [exitTo,bA] at h ⊢
     exact jz h
theorem pg {m:FuncId} {l:Nat} {c:Code} {R:Ending→World→Prop} {a:Act} {w:World} (h:Go.Sy.Fin P ⟨m,some l⟩ R [.code c] a w) :
 c.wpIn (Fence.wide.inRound l) n P (fun e _ w'=>(e = .normal∧R (.returned (.bool true)) w')∨(e = .ret∧R (.returned (.bool false)) w')∨∃ id,e = .exit id∧R (.returned (.int .i64 ((id:Nat):Int))) w') a w:=by
 intro b k cs hro _ _
 have hro':b.roundOf=some l:=hro
 have:=h b k cs hro' (fun e=>by cases e)
 rcases this with ⟨a',w',r,s⟩ | ⟨a',k₁,w',r,s⟩ | ⟨a',t,w',id,ht,r,s⟩
 · exact ⟨.normal,a',w',.inl ⟨rfl,r⟩,stepsIn_wide.2 s⟩
 · exact ⟨.ret,a',w',.inr (.inl ⟨rfl,r⟩),fun h=>(by rw [hro'] at h; cases h),fun _=>⟨k₁,stepsIn_wide.2 s⟩⟩
 · refine ⟨.exit id,a',w',.inr (.inr ⟨id,rfl,r⟩),fun k' hk=>?_,fun _ hk=>⟨t++k,?_,stepsIn_wide.2 s⟩⟩
   · exact stepsIn_wide.2 (s.trans (.one (stepR_exit (by rw [jz ht]; exact hk))))
   · rw [jz ht]; exact hk
theorem fS {Γ:Ctx} (h:Γ.ds=[]):Γ.base=Γ:=by unfold Ctx.base; rw [h]
theorem J.roundEnd {m:FuncId} {l:Nat} (hds:Γ.ds=[]) (h:Q (.x (.b true)) st.ck):J P ⟨m,some l⟩ root Γ Q [] st:=fun _ V a w r b k cs _ _ =>
 .inl ⟨a,w,.inl ⟨.bool true,V,.x (.b true),st.ck,rfl,h,PR.bool true,by rw [fS hds]; exact r.wok⟩,Steps.refl P _⟩
theorem J.roundRet {m:FuncId} {l:Nat} {p:List Nat} {k:List PI} (hds:Γ.ds=[]) (hc:sub root p = .ret) (h:Q (.x (.b false)) st.ck):J P ⟨m,some l⟩ root Γ Q (.code p::k) st:=fun _ V a w r b k' cs _ _ =>
 .inr (.inl ⟨a,k.map (PI.den root)++k',w,.inl ⟨.bool false,V,.x (.b false),st.ck,rfl,h,PR.bool false,by rw [fS hds]; exact r.wok⟩,by
  simp only [aw,PI.den,hc]; exact Steps.refl P _⟩)
theorem J.roundBrk {m:FuncId} {l id:Nat} {p:List Nat} {k:List PI} (hds:Γ.ds=[]) (hc:sub root p = .exit id) (hk:exitTo id (k.map (PI.den root))=none) (h:Q (.x (.i ((id:Nat):Int))) st.ck):J P ⟨m,some l⟩ root Γ Q (.code p::k) st:=fun _ V a w r b k' cs _ _ =>
 .inr (.inr ⟨a,k.map (PI.den root),w,id,hk,.inl ⟨.int .i64 id,V,.x (.i ((id:Nat):Int)),st.ck,rfl,h,PR.int _ _,by rw [fS hds]; exact r.wok⟩,by
  simp only [aw,PI.den,hc,bA]; exact Steps.refl P _⟩)
end
/-! ### worlds -/
theorem WOk.whole {Γ:Ctx} {ck:List Chunk} {V:Vn} {w:World} (r:WOk Γ ck V w):WOk (entry ck V w) ck V w :=
 { ext:=Fr.refl _ _,imm:=r.imm,hle:=HLe.refl _,frz:=fun _ h=>.inl h,agr:=fun _ _=>⟨rfl,rfl⟩,own:=r.own,base:=fun i c b hc hb=>⟨.inr ⟨i,c,hc,hb⟩,(r.base i c b hc hb).2⟩,inj:=r.inj }
theorem WOk.after {Γ:Ctx} {ck ck':List Chunk} {V V':Vn} {w w':World} (r:WOk Γ ck V w) (hm:Γ.m≤ck.length) (s:WOk (entry ck V w) ck' V' w'):WOk Γ ck' V' w':=by
 have hM:∀ b,(entry ck V w).M b→Γ.w0.heap.size≤b∨Γ.M b:=fun b ⟨i,c,hc,hb⟩=>(r.base i c b hc hb).1
 have hsz:=r.ext.size
 refine { ext:=⟨s.ext.os.trans r.ext.os,s.ext.tape.trans r.ext.tape,s.ext.output.trans r.ext.output,av r.ext.size s.ext.size,fun k hk hn=>?_⟩,imm:=s.imm,hle:=r.hle.trans s.hle,frz:=fun k h=>?_,agr:=fun i hi=>?_,own:=s.own,base:=fun i c b hc hb=>⟨?_,(s.base i c b hc hb).2⟩,inj:=s.inj }
 · have h1:k<w.heap.size:=bN hk hsz
   refine (s.ext.block k h1 fun hk2=>?_).trans (r.ext.block k hk hn)
   rcases hM k hk2 with h | h
   · omega
   · exact hn h
 · rcases s.frz k h with h1 | h1 | h1
   · exact r.frz k h1
   · have h2:w.heap.size≤k:=h1
     exact .inr (.inl (av hsz h2))
   · exact .inr (hM k h1)
 · have h1:V'.σ i=V.σ i∧V'.ov i=V.ov i:=s.agr i (bN hi hm)
   exact ⟨h1.1.trans (r.agr i hi).1,h1.2.trans (r.agr i hi).2⟩
 · rcases (s.base i c b hc hb).1 with h | h
   · have h2:w.heap.size≤b:=h
     exact .inl (av hsz h2)
   · exact hM b h
theorem Chunk.blk_cells {V:Vn} {w:World} {i b:Nat} {c:Chunk} (h:c.holds V w i) (hb:c.blk V i=some b):∃ o,w.heap[b]?=some o∧o.isCells=true:=by
 cases c with
 | dead=>simp [Chunk.blk] at hb
 | cells cs e =>
   simp only [Chunk.blk,aa] at hb
   subst hb
   obtain ⟨us,h1,_⟩:=h
   exact ⟨_,h1,rfl⟩
 | own e t l =>
   obtain ⟨xs,⟨_,h1⟩,_⟩:=h
   have hb':(V.ov i).ownBlock=some b:=hb
   rcases h1 with h1 | ⟨g,cap,cur,q1,q2,q3,q4⟩
   · rw [h1.1] at hb'; simp [Value.ownBlock] at hb'
   · rw [q1] at hb'
     simp only [Value.ownBlock,aa] at hb'
     subst hb'
     exact ⟨_,q3,rfl⟩
def dJ (H H':Mem):Mem:=fun k=>match H k with
 | some _=>H' k
 | none=>match H' k with
   | some (.cells a b c)=>some (.cells a b c)
   | _=>none
def PD.noTbl:PD→Bool
 | .tbl _=>false
 | .fnAt _ _=>false
 | .fns _=>false
 | _=>true
theorem nh:∀ (t:ETy) (x:t.den),∀ p∈t.enc x,p.noTbl=true:=by
 intro t x p hp
 cases t <;> simp [ETy.enc] at hp <;> (try rcases hp with rfl | hp) <;> (try subst hp) <;> (try rfl) <;> (repeat' (first | (rcases hp with rfl | hp) | subst hp)) <;> rfl
theorem PR.keepC {H H':Mem} (hl:∀ k a b c,H k=some (.cells a b c)→H' k=some (.cells a b c)) {p:PD} {u:Value} (h:PR H p u):p.noTbl=true→PR H' p u:=by
 induction h with
 | int k n=>exact fun _=>.int k n
 | bool b=>exact fun _=>.bool b
 | str s=>exact fun _=>.str s
 | v x h=>exact fun _=>.v x h
 | fl o x h=>exact fun _=>.fl o x h
 | cx o x y h=>exact fun _=>.cx o x y h
 | err t x=>exact fun _=>.err t x
 | tbl l r es clock hb h=>intro hp; cases hp
 | fnAt=>intro hp; cases hp
 | fns=>intro hp; cases hp
 | buf e s b cap cells hb h0 hc hm hs h=>exact fun _=>.buf e s b cap cells (hl _ _ _ _ hb) h0 hc hm hs h
 | emp t ao cap h=>exact fun _=>.emp t ao cap h
 | lst t l b off cap cells e fr hb hc hm hs _ ih=>exact fun _=>.lst t l b off cap cells e fr (hl _ _ _ _ hb) hc hm hs fun i x hx j p hp u hu=>ih i x hx j p hp u hu (nh t x p (List.mem_of_getElem? hp))
 | ref t x o b off cells e fr hb hs _ ih=>exact fun _=>.ref t x o b off cells e fr (hl _ _ _ _ hb) hs fun j p hp u hu=>ih j p hp u hu (nh t x p (List.mem_of_getElem? hp))
def RC.noTbl:RC→Bool
 | .pd p=>p.noTbl
 | .loc _ _=>true
def SC.noTbl:SC→Bool
 | .pd p=>p.noTbl
 | .fn _ a b=>a.all RC.noTbl&&b.all RC.noTbl
 | _=>true
def Chunk.noTbl:Chunk→Bool
 | .cells cs _=>cs.all SC.noTbl
 | _=>true
section
variable {V V':Vn}
theorem RC.R_keepC (h1:V'.σ=V.σ) (hl:∀ k a b c,V.H k=some (.cells a b c)→V'.H k=some (.cells a b c)) {s:RC} (hn:s.noTbl=true) {u:Value} (h:s.R V u):s.R V' u:=by
 cases s with
 | pd p=>exact PR.keepC hl h hn
 | loc i o=>show u=_; rw [h1]; exact h
theorem SC.R_keepC (h1:V'.σ=V.σ) (h2:V'.ov=V.ov) (hl:∀ k a b c,V.H k=some (.cells a b c)→V'.H k=some (.cells a b c)) {s:SC} (hn:s.noTbl=true) {u:Value} (h:s.R V u):s.R V' u:=by
 cases s with
 | pd p=>exact PR.keepC hl h hn
 | loc i o=>show u=_; rw [h1]; exact h
 | own i=>show u=_; rw [h2]; exact h
 | oat i j sz o=>show u=_; rw [h1]; exact h
 | fn f a b =>
   simp only [SC.noTbl,af,ak] at hn
   obtain ⟨ua,ub,e,g1,g2⟩:=h
   exact ⟨ua,ub,e,g1.mono fun x _ hx hab=>RC.R_keepC h1 hl (hn.1 x hx) hab,g2.mono fun x _ hx hab=>RC.R_keepC h1 hl (hn.2 x hx) hab⟩
theorem Chunk.holds_keepC (h1:V'.σ=V.σ) (h2:V'.ov=V.ov) (hl:∀ k a b c,V.H k=some (.cells a b c)→V'.H k=some (.cells a b c)) {w:World} {i:Nat} {c:Chunk} (hn:c.noTbl=true) (h:c.holds V w i):c.holds V' w i:=by
 cases c with
 | dead=>trivial
 | cells cs e =>
   simp only [Chunk.noTbl,ak] at hn
   obtain ⟨us,g1,g2⟩:=h; exact ⟨us,by rw [h1]; exact g1,g2.mono fun x _ hx hab=>SC.R_keepC h1 h2 hl (hn x hx) hab⟩
 | own e t l =>
   obtain ⟨xs,g1,g2,g3⟩:=h
   refine ⟨xs,by rw [h2]; exact g1,g2.mono fun x _ hx hab=>PR.keepC hl hab ?_,by rw [h1,h2]; exact g3⟩
   obtain ⟨y,_,hy⟩:=aK.1 hx
   exact nh t y x hy
end
def Cl (H H':Mem):Prop:=∀ k o,H' k=some o→H k=some o∨o.isCells=true
theorem WOk.clean {Γ:Ctx} {ck:List Chunk} {V V':Vn} {w:World} {n:Nat} (r:WOk Γ ck V' w) (hag:Agree n V V') (hle:HLe Γ.H0 V.H) (hn:ck.all Chunk.noTbl=true):∃ V2,Agree n V V2∧Cl V.H V2.H∧WOk Γ ck V2 w:=by
 have hc1:∀ k a b c,V'.H k=some (.cells a b c)→dJ V.H V'.H k=some (.cells a b c):=fun k a b c h=>by
  unfold dJ
  cases hk:V.H k with
  | none=>simp only [h]
  | some o=>exact h
 have hc2:∀ k o,dJ V.H V'.H k=some o→V'.H k=some o:=fun k o h=>by
  unfold dJ at h
  cases hk:V.H k with
  | none =>
    rw [hk] at h
    simp only at h
    split at h
    · rename_i a b c e
      rw [e]; exact h
    · cases h
  | some o2=>rw [hk] at h; exact h
 have hc3:HLe V.H (dJ V.H V'.H):=fun k o h=>by unfold dJ; rw [h]; exact hag.hle k o h
 refine ⟨⟨dJ V.H V'.H,V'.σ,V'.ov⟩,⟨hc3,hag.same⟩,fun k o h=>?_,?_⟩
 · have h2:dJ V.H V'.H k=some o:=h
   have h3':=hc2 k o h2
   unfold dJ at h2
   cases hk:V.H k with
   | none =>
     rw [hk] at h2
     simp only at h2
     split at h2
     · simp only [aa] at h2; rw [← h2]; exact .inr rfl
     · cases h2
   | some o2 =>
     have h3:=hag.hle k o2 hk
     rw [h3'] at h3
     left; rw [h3]
 · refine { ext:=r.ext,imm:=fun k o h=>r.imm k o (hc2 k o h),hle:=hle.trans hc3,frz:=fun k h=>r.frz k fun e=>h ?_,agr:=r.agr,own:=fun i c hc=>?_,base:=fun i c b hc hb=>⟨(r.base i c b hc hb).1,?_⟩,inj:=r.inj }
   · cases hx:dJ V.H V'.H k with
     | none=>exact hx
     | some o=>rw [hc2 k o hx] at e; cases e
   · exact Chunk.holds_keepC (V:=V') (V':=⟨dJ V.H V'.H,V'.σ,V'.ov⟩) rfl rfl hc1 (ak.1 hn c (List.mem_of_getElem? hc)) (r.own i c hc)
   · cases hx:dJ V.H V'.H b with
     | none=>exact hx
     | some o=>have:=(r.base i c b hc hb).2; rw [hc2 b o hx] at this; cases this
theorem WOk.turned {Γ:Ctx} {ck:List Chunk} {V V':Vn} {w0 W W':World} {row:Option Nat} (r:WOk Γ ck V' W) (hcl:Cl V.H V'.H) (hV:HIn V.H w0) (hs:Γ.w0.heap.size≤w0.heap.size) (hg:W.grownBy W' row)
 (hr:∀ x,row=some x→w0.heap.size≤x∧∃ o:Obj,W.heap[x]?=some o∧o.isCells=false):WOk Γ ck V' W':=by
 have hne:∀ k,k<W.heap.size→(∀ x,row=some x→k≠x)→W'.heap[k]?=W.heap[k]?:=fun k hk hx=>hg.block k hk fun e=>hx k e.symm rfl
 have hcell:∀ (i:Nat) (c:Chunk) (b:Nat),ck[i]?=some c→c.blk V' i=some b→W'.heap[b]?=W.heap[b]?:=fun i c b hc hb=>by
  obtain ⟨o,h1,h2⟩:=Chunk.blk_cells (r.own i c hc) hb
  refine hne b (Array.getElem?_eq_some_iff.1 h1).1 fun x hx e=>?_
  obtain ⟨_,o2,h3,h4⟩:=hr x hx
  rw [← e,h1] at h3
  simp only [aa] at h3
  rw [← h3,h2] at h4; cases h4
 refine { ext:=⟨hg.os.trans r.ext.os,hg.tape.trans r.ext.tape,hg.output.trans r.ext.output,av r.ext.size hg.size,fun k hk hn=>?_⟩,imm:=fun k o h=>?_,hle:=r.hle,frz:=r.frz,agr:=r.agr,own:=fun i c hc=>Chunk.holds_kept (r.own i c hc) fun b hb=>hcell i c b hc hb,base:=r.base,inj:=r.inj }
 · refine (hne k (bN hk r.ext.size) fun x hx e=>?_).trans (r.ext.block k hk hn)
   have:=(hr x hx).1; omega
 · have h1:=r.imm k o h
   rw [hne k (Array.getElem?_eq_some_iff.1 h1).1 fun x hx e=>?_]
   · exact h1
   · obtain ⟨h2,o2,h3,h4⟩:=hr x hx
     rw [← e,h1] at h3
     simp only [aa] at h3
     rcases hcl k o h with h5 | h5
     · have:=(Array.getElem?_eq_some_iff.1 (hV k o h5)).1
       omega
     · rw [h3,h4] at h5; cases h5
structure KpH (H:Mem) (W W':World):Prop where
 os:W'.os=W.os
 tape:W'.tape=W.tape
 output:W'.output=W.output
 size:W.heap.size≤W'.heap.size
 same:∀ k,H k≠none→W'.heap[k]?=W.heap[k]?
theorem KpH.trans {H:Mem} {A B C:World} (h:KpH H A B) (k:KpH H B C):KpH H A C :=
 ⟨k.os.trans h.os,k.tape.trans h.tape,k.output.trans h.output,av h.size k.size,fun i hi=>(k.same i hi).trans (h.same i hi)⟩
def KpX (H:Mem) (n:Nat) (A B:World):Prop:=KpH H A B∧∀ k o,n≤k→A.heap[k]?=some o→o.isCells=true→B.heap[k]?=some o
def Kp1 (one:Bool) (H:Mem) (n:Nat):World→World→Prop:=match one with
 | true=>KpX H n
 | false=>KpH H
theorem KpH.refl (H:Mem) (A:World):KpH H A A:=⟨rfl,rfl,rfl,aq _,fun _ _=>rfl⟩
theorem Kp1.refl (one:Bool) (H:Mem) (n:Nat) (A:World):Kp1 one H n A A:=by
 cases one with
 | false=>exact KpH.refl H A
 | true=>exact ⟨KpH.refl H A,fun _ _ _ h _=>h⟩
theorem Kp1.trans {one:Bool} {H:Mem} {n:Nat} {A B C:World} (h:Kp1 one H n A B) (k:Kp1 one H n B C):Kp1 one H n A C:=by
 cases one with
 | false=>exact KpH.trans h k
 | true=>exact ⟨KpH.trans h.1 k.1,fun i o h1 h2 h3=>k.2 i o h1 (h.2 i o h1 h2 h3) h3⟩
def uM (one:Bool) (P:Program) (gf:Nat) (caps:List RC) (ok:Int→Prop) (xs:List Int):Prop :=
 ∀ (n:Nat) (V:Vn) (w:World) (lb:List Value),HIn V.H w→fG P V.H→All2 (RC.R V) caps lb →
  SeqStopsK Fence.wide n P gf lb.toArray (fun (x:{ x:Int // ok x })=>#[.int .i64 x.1]) (Kp1 one V.H w.heap.size) (fun ys=>ys.map (·.1)=xs) (fun ys=>ys.map (·.1) <+: xs) xs.length w
def Iter (P:Program) (gf:Nat) (caps:List RC) (ok:Int→Prop) (xs:List Int):Prop :=
 ∀ (n:Nat) (V:Vn) (w:World) (lb:List Value),HIn V.H w→fG P V.H→All2 (RC.R V) caps lb →
  SeqStopsK Fence.wide n P gf lb.toArray (fun (x:{ x:Int // ok x })=>#[.int .i64 x.1]) (KpH V.H) (fun ys=>ys.map (·.1)=xs) (fun ys=>ys.map (·.1) <+: xs) xs.length w
theorem jI {Γ:Ctx} {D:Nat} (hD:Γ.H0 D=none) (o:Obj):({ Γ with ds:=D::Γ.ds,H0:=fun k=>if k=D then some o else Γ.H0 k }:Ctx).base=Γ.base:=by
 unfold Ctx.base
 cases hds:Γ.ds with
 | nil =>
   simp only
   have e:(fun k=>if k∈[D] then none else if k=D then some o else Γ.H0 k)=Γ.H0:=by
    funext k
    by_cases hk:k=D
    · subst hk; simp [hD]
    · simp [hk]
   rw [e]
   cases Γ; simp only at hds; simp [hds]
 | cons E ds =>
   simp only
   congr 1
   funext k
   by_cases hk:k=D
   · subst hk; simp [hD]
   · simp [hk]
theorem pD {l n:Nat} {P:Program} {id:Nat} {o:Oper} {s d:Nat} {a:Act} {w:World} {K:Act→World→Prop} {Q:Exit→Act→World→Prop} (h1:o.op = .assign (.tmp s)) (h2:o.dst=some d) (h3:o.guard=none) (hK:K (a.put (some d) (a.eval (.tmp s))) w) :
 (Code.region id #[o] false).wpIn (Fence.wide.inRound l) n P (Exit.then K Q) a w:=by
 intro b k cs hro hb hr
 refine ⟨.normal,_,_,hK,?_⟩
 have s1:step P (lone (b.atR a (.code (.region id #[o] false)::k)) cs w) = .next (lone (b.atR a (.inRegion #[o] [0]::k)) cs w):=stepR_region
 have ho:(#[o]:Array Oper)[0]?=some o:=rfl
 have hw:Region.wanted o (yielded #[o] a.tmps)=true:=by simp [Region.wanted,h3]
 have hg:=stepGR_op (P:=P) (b:=b) (k:=k) (cs:=cs) (w:=w) (rest:=[]) (a:=a) ho hw
 have hfin:(b.atR a (.inRegion #[o] [0]::k)).finish (a.eval (.tmp s))=b.atR (a.put o.dst (a.eval (.tmp s))) (.inRegion #[o] []::k):=by rw [Frame.finish_atR,ho]; rfl
 have hrun:(execOp a.eval o).run P w = .ok (.value (a.eval (.tmp s))) w:=by
  obtain ⟨dst,op,ty,pos,after,guard⟩:=o
  simp only at h1
  subst h1
  rfl
 have s2:step P (lone (b.atR a (.inRegion #[o] [0]::k)) cs w) = .next (lone (b.atR (a.put (some d) (a.eval (.tmp s))) (.inRegion #[o] []::k)) cs w):=step_lone_go (by
  rw [← h2,hg,← hfin]; simp [stepG.apply,Go.Sy.semAt_run hrun (by simp)])
 have s3:step P (lone (b.atR (a.put (some d) (a.eval (.tmp s))) (.inRegion #[o] []::k)) cs w) = .next (lone (b.atR (a.put (some d) (a.eval (.tmp s))) k) cs w):=stepR_region_end
 exact stepsIn_wide.2 (.head s1 (.head s2 (.one s3)))
theorem Rel.fin {P:Program} {Γ:Ctx} {Q:Out} {fn:Func} {st:ST} {V:Vn} {a:Act} {w:World} (r:Rel Γ st V a w) {l:List SX} (hl:gp P st fn.results.toList=some l) (hq:Q (fV st (gm l)).1 (fV st (gm l)).2) :
 ∃ v,(results fn a.tmps).run P (Go.Sy.took w Γ.ds) = .ok v (Go.Sy.took w Γ.ds)∧gM Γ Q (.returned v) (Go.Sy.took w Γ.ds):=by
 obtain ⟨V1,r1⟩:=r.take
 obtain ⟨v,h1,h2⟩:=yM r1 hl
 obtain ⟨V',h3,h4⟩:=rB r1 h2
 exact ⟨v,h1,.inl ⟨v,V',_,_,rfl,hq,h3,h4⟩⟩
theorem Rel.mark {Γ:Ctx} {st:ST} {V V':Vn} {a:Act} {w W:World} {ck:List Chunk} {D:Nat} (r:Rel Γ st V a w) (hwf:st.wf=true) (hag:Agree st.ck.length V V') (hcl:Cl V.H V'.H) (hw:WOk Γ ck V' W) (hlen:ck.length=st.ck.length)
 (hD:w.heap.size≤D) (hk:W.heap[D]?=some (.deferred (some []))) :
 ∃ V2,Rel { Γ with ds:=D::Γ.ds,H0:=fun k=>if k=D then some (.deferred (some [])) else Γ.H0 k } { st with ck:=ck } V2 { a with defers:={ target:=.collected D,args:=#[] }::a.defers } W:=by
 have hVD:V.H D=none:=by
  cases h:V.H D with
  | none=>rfl
  | some o=>have:=(Array.getElem?_eq_some_iff.1 (r.wok.imm D o h)).1; omega
 have hVD':V'.H D=none:=by
  cases h:V'.H D with
  | none=>rfl
  | some o =>
    have h1:=hw.imm D o h
    rw [hk] at h1
    simp only [aa] at h1
    rcases hcl D o h with h2 | h2
    · rw [hVD] at h2; cases h2
    · rw [← h1] at h2; cases h2
 have hle2:HLe V'.H (fun k=>if k=D then some (.deferred (some [])) else V'.H k):=fun k o h=>by
  show (if k=D then some (.deferred (some [])) else V'.H k)=some o
  rw [if_neg fun e=>by rw [e,hVD'] at h; cases h]; exact h
 refine ⟨⟨fun k=>if k=D then some (.deferred (some [])) else V'.H k,V'.σ,V'.ov⟩,{ size:=r.size,defers:=⟨?_,?_,?_⟩,slots:=fun t sv h=>?_,wok:=?_,few:=⟨r.few.1,by show st.m≤ck.length; rw [hlen]; exact r.few.2⟩ }⟩
 · show { target:=.collected D,args:=#[] }::a.defers=_
   rw [r.defers.eq]; rfl
 · refine List.nodup_cons.2 ⟨fun hm=>?_,r.defers.nodup⟩
   have:=r.wok.hle _ _ (r.defers.at' D hm).1
   rw [hVD] at this; cases this
 · intro E hE
   rcases aJ.1 hE with rfl | hE
   · exact ⟨if_pos rfl,av r.wok.ext.size hD⟩
   · have h1:=r.defers.at' E hE
     refine ⟨?_,h1.2⟩
     show (if E=D then some (.deferred (some [])) else Γ.H0 E)=_
     split
     · rfl
     · exact h1.1
 · simp only [ST.wf,af] at hwf
   exact b4.keep (V:=V') (V':=⟨fun k=>if k=D then some (.deferred (some [])) else V'.H k,V'.σ,V'.ov⟩) (a:=a) rfl rfl hle2.ke rfl ((r.slots t sv h).agree hag (ak.1 hwf.1 _ h))
 · refine { ext:=hw.ext,imm:=fun k o h=>?_,hle:=fun k o h=>?_,frz:=fun k h=>?_,agr:=hw.agr,own:=fun i c hc=>?_,base:=fun i c b hc hb=>⟨(hw.base i c b hc hb).1,?_⟩,inj:=hw.inj }
   · have h':(if k=D then some (.deferred (some [])) else V'.H k)=some o:=h
     split at h'
     · rename_i e; rw [e,hk]; exact h'
     · exact hw.imm k o h'
   · have h':(if k=D then some (.deferred (some [])) else Γ.H0 k)=some o:=h
     show (if k=D then some (.deferred (some [])) else V'.H k)=some o
     split at h'
     · rename_i e; rw [if_pos e]; exact h'
     · rename_i e; rw [if_neg e]; exact hw.hle k o h'
   · by_cases e:k=D
     · left; show (if k=D then some (.deferred (some [])) else Γ.H0 k)≠none
       rw [if_pos e]; simp
     · have h':(if k=D then some (.deferred (some [])) else V'.H k)≠none:=h
       rw [if_neg e] at h'
       rcases hw.frz k h' with h1 | h1
       · left; show (if k=D then some (.deferred (some [])) else Γ.H0 k)≠none
         rw [if_neg e]; exact h1
       · exact .inr h1
   · exact Chunk.holds_keep (V:=V') (V':=⟨fun k=>if k=D then some (.deferred (some [])) else V'.H k,V'.σ,V'.ov⟩) rfl rfl hle2.ke (hw.own i c hc)
   · show (if b=D then some (.deferred (some [])) else V'.H b)=none
     rw [if_neg fun e=>?_]
     · exact (hw.base i c b hc hb).2
     · obtain ⟨o,h1,h2⟩:=Chunk.blk_cells (hw.own i c hc) hb
       rw [e,hk] at h1
       simp only [aa] at h1
       rw [← h1] at h2; cases h2
end Go.Ev
