/- An executor for function bodies of the model over data, part VF: a range over a function. Conditions: the rule's own. An executor for function bodies of the model over data, part VG: the rule of a range over a function. Conditions: the rule's own. -/
import Derived.Test.YtlhgnjmdopjpeaaGreatDoorVe
namespace Go.Ev
open Go.RowKit
/-! ### rounds -/
section
variable{P:Program}{fn n:Nat}{Γ:Ctx}{Q:Out}{root:Code}{st:ST}
theorem lq{id:Nat}:∀{t k:List Item},exitTo id t=none→exitTo id (t++k)=exitTo id k
 |[],_,_=>rfl
 | x :: t,k,h=>by
   cases x with
   | inBlock j =>
     simp only[exitTo,bO]at h ⊢
     split at h
     ·cases h
     · rename_i hj
       rw[if_neg hj];exact lq h
   | _ =>
     simp only[exitTo,bO]at h ⊢
     exact lq h
theorem td{m:FuncId}{l:Nat}{c:Code}{R:Ending→World→Prop}{a:Act}{w:World}(h:Go.Sy.Fin P ⟨m,some l⟩ R [.code c] a w) :
 c.wpIn (Fence.wide.inRound l) n P (fun e _ w'=>(e = .normal∧R (.returned (.bool true)) w')∨(e = .ret∧R (.returned (.bool false)) w')∨∃id,e = .exit id∧R (.returned (.int .i64 ((id:Nat):Int))) w') a w:=by
 intro b k cs hro _ _
 have hro':b.roundOf=some l:=hro
 have:=h b k cs hro' (fun e=>by cases e)
 rcases this with⟨a',w',r,s⟩ |⟨a',k₁,w',r,s⟩ |⟨a',t,w',id,ht,r,s⟩
 ·exact⟨.normal,a',w',.inl ⟨rfl,r⟩,stepsIn_wide.2 s⟩
 ·exact⟨.ret,a',w',.inr (.inl ⟨rfl,r⟩),fun h=>(by rw[hro']at h;cases h),fun _=>⟨k₁,stepsIn_wide.2 s⟩⟩
 · refine⟨.exit id,a',w',.inr (.inr ⟨id,rfl,r⟩),fun k' hk=>?_,fun _ hk=>⟨t++k,?_,stepsIn_wide.2 s⟩⟩
   ·exact stepsIn_wide.2 (s.trans (.one (stepR_exit (by rw[lq ht];exact hk))))
   ·rw[lq ht];exact hk
theorem jX{Γ:Ctx}(h:Γ.ds=[]):Γ.base=Γ:=by unfold Ctx.base;rw[h]
theorem J.roundEnd{m:FuncId}{l:Nat}(hds:Γ.ds=[])(h:Q (.x (.b true)) st.ck):J P ⟨m,some l⟩ root Γ Q [] st:=fun _ V a w r b k cs _ _ =>
 .inl ⟨a,w,.inl ⟨.bool true,V,.x (.b true),st.ck,rfl,h,PR.bool true,by rw[jX hds];exact r.wok⟩,Steps.refl P _⟩
theorem J.roundRet{m:FuncId}{l:Nat}{p:List Nat}{k:List PI}(hds:Γ.ds=[])(hc:sub root p = .ret)(h:Q (.x (.b false)) st.ck):J P ⟨m,some l⟩ root Γ Q (.code p::k) st:=fun _ V a w r b k' cs _ _ =>
 .inr (.inl ⟨a,k.map (PI.den root)++k',w,.inl ⟨.bool false,V,.x (.b false),st.ck,rfl,h,PR.bool false,by rw[jX hds];exact r.wok⟩,by
  simp only[aq,PI.den,hc];exact Steps.refl P _⟩)
end
/-! ### worlds -/
theorem WOk.whole{Γ:Ctx}{ck:List Chunk}{V:Vn}{w:World}(r:WOk Γ ck V w):WOk (entry ck V w) ck V w :=
 {ext:=Fr.refl _ _,imm:=r.imm,hle:=HLe.refl _,frz:=fun _ h=>.inl h,agr:=fun _ _=>⟨rfl,rfl⟩,own:=r.own,base:=fun i c b hc hb=>⟨.inr ⟨i,c,hc,hb⟩,(r.base i c b hc hb).2⟩,inj:=r.inj}
theorem WOk.after{Γ:Ctx}{ck ck':List Chunk}{V V':Vn}{w w':World}(r:WOk Γ ck V w)(hm:Γ.m≤ck.length)(s:WOk (entry ck V w) ck' V' w'):WOk Γ ck' V' w':=by
 have hM:∀b,(entry ck V w).M b→Γ.w0.heap.size≤b∨Γ.M b:=fun b ⟨i,c,hc,hb⟩=>(r.base i c b hc hb).1
 have hsz:=r.ext.size
 refine{ext:=⟨s.ext.os.trans r.ext.os,s.ext.tape.trans r.ext.tape,s.ext.output.trans r.ext.output,aC r.ext.size s.ext.size,fun k hk hn=>?_⟩,imm:=s.imm,hle:=r.hle.trans s.hle,frz:=fun k h=>?_,agr:=fun i hi=>?_,own:=s.own,base:=fun i c b hc hb=>⟨?_,(s.base i c b hc hb).2⟩,inj:=s.inj}
 · have h1:k<w.heap.size:=bW hk hsz
   refine(s.ext.block k h1 fun hk2=>?_).trans (r.ext.block k hk hn)
   rcases hM k hk2 with h |h
   ·omega
   ·exact hn h
 · rcases s.frz k h with h1 |h1 |h1
   ·exact r.frz k h1
   · have h2:w.heap.size≤k:=h1
     exact .inr (.inl (aC hsz h2))
   ·exact .inr (hM k h1)
 · have h1:V'.σ i=V.σ i∧V'.ov i=V.ov i:=s.agr i (bW hi hm)
   exact⟨h1.1.trans (r.agr i hi).1,h1.2.trans (r.agr i hi).2⟩
 · rcases(s.base i c b hc hb).1 with h |h
   · have h2:w.heap.size≤b:=h
     exact .inl (aC hsz h2)
   ·exact hM b h
def iJ(H H':Mem):Mem:=fun k=>match H k with
 |some _=>H' k
 | none=>match H' k with
   |some (.cells a b c)=>some (.cells a b c)
   |_=>none
def PD.noTbl:PD→Bool
 |.tbl _=>false
 |.fnAt _ _=>false
 |.fns _=>false
 |_=>true
theorem qC:∀(t:ETy) (x:t.den),∀p∈t.enc x,p.noTbl=true:=by
 intro t x p hp
 cases t <;> simp[ETy.enc]at hp <;> (try rcases hp with rfl |hp) <;> (try subst hp) <;> (try rfl) <;> (repeat' (first |(rcases hp with rfl |hp) |subst hp)) <;> rfl
theorem PR.keepC{H H':Mem}(hl:∀k a b c,H k=some (.cells a b c)→H' k=some (.cells a b c)){p:PD}{u:Value}(h:PR H p u):p.noTbl=true→PR H' p u:=by
 induction h with
 |int k n=>exact fun _=>.int k n
 |bool b=>exact fun _=>.bool b
 |str s=>exact fun _=>.str s
 |v x h=>exact fun _=>.v x h
 |fl o x h=>exact fun _=>.fl o x h
 |cx o x y h=>exact fun _=>.cx o x y h
 |err t x=>exact fun _=>.err t x
 |tbl l r es clock hb h=>intro hp;cases hp
 |fnAt=>intro hp;cases hp
 |fns=>intro hp;cases hp
 |buf e s b cap cells hb h0 hc hm hs h=>exact fun _=>.buf e s b cap cells (hl _ _ _ _ hb) h0 hc hm hs h
 |emp t ao cap h=>exact fun _=>.emp t ao cap h
 |lst t l b off cap cells e fr hb hc hm hs _ ih=>exact fun _=>.lst t l b off cap cells e fr (hl _ _ _ _ hb) hc hm hs fun i x hx j p hp u hu=>ih i x hx j p hp u hu (qC t x p (List.mem_of_getElem? hp))
 |ref t x o b off cells e fr hb hs _ ih=>exact fun _=>.ref t x o b off cells e fr (hl _ _ _ _ hb) hs fun j p hp u hu=>ih j p hp u hu (qC t x p (List.mem_of_getElem? hp))
def RC.noTbl:RC→Bool
 |.pd p=>p.noTbl
 |.loc _ _=>true
def SC.noTbl:SC→Bool
 |.pd p=>p.noTbl
 |.fn _ a b=>a.all RC.noTbl&&b.all RC.noTbl
 |_=>true
def Chunk.noTbl:Chunk→Bool
 |.cells cs _=>cs.all SC.noTbl
 |.obj _=>false
 |_=>true
theorem Chunk.blk_cells{V:Vn}{w:World}{i b:Nat}{c:Chunk}(hn:c.noTbl=true)(h:c.holds V w i)(hb:c.blk V i=some b):∃o,w.heap[b]?=some o∧o.isCells=true:=by
 cases c with
 |obj o=>cases hn
 |dead=>simp[Chunk.blk]at hb
 | cells cs e =>
   simp only[Chunk.blk,aa]at hb
   subst hb
   obtain⟨us,h1,_⟩:=h
   exact⟨_,h1,rfl⟩
 | own e t l =>
   obtain⟨xs,⟨_,h1⟩,_⟩:=h
   have hb':(V.ov i).ownBlock=some b:=hb
   rcases h1 with h1 |⟨g,cap,cur,q1,q2,q3,q4⟩
   ·rw[h1.1]at hb';simp[Value.ownBlock]at hb'
   · rw[q1]at hb'
     simp only[Value.ownBlock,aa]at hb'
     subst hb'
     exact⟨_,q3,rfl⟩
theorem Chunk.blk_live{V:Vn}{w:World}{i b:Nat}{c:Chunk}(h:c.holds V w i)(hb:c.blk V i=some b):∃o,w.heap[b]?=some o∧∀d,o≠.deferred d:=by
 cases c with
 | obj o =>
   simp only[Chunk.blk,aa]at hb
   subst hb
   exact⟨_,h.1,fun d e=>by cases o <;> cases e⟩
 |dead=>simp[Chunk.blk]at hb
 | cells cs e =>
   simp only[Chunk.blk,aa]at hb
   subst hb
   obtain⟨us,h1,_⟩:=h
   exact⟨_,h1,fun d e=>by cases e⟩
 | own e t l =>
   obtain⟨o,h1,h2⟩:=Chunk.blk_cells (c:=.own e t l) rfl h hb
   exact⟨o,h1,fun d e=>by subst e;cases h2⟩
section
variable{V V':Vn}
theorem RC.R_keepC(h1:V'.σ=V.σ)(hl:∀k a b c,V.H k=some (.cells a b c)→V'.H k=some (.cells a b c)){s:RC}(hn:s.noTbl=true){u:Value}(h:s.R V u):s.R V' u:=by
 cases s with
 |pd p=>exact PR.keepC hl h hn
 |loc i o=>show u=_;rw[h1];exact h
theorem SC.R_keepC(h1:V'.σ=V.σ)(h2:V'.ov=V.ov)(hl:∀k a b c,V.H k=some (.cells a b c)→V'.H k=some (.cells a b c)){s:SC}(hn:s.noTbl=true){u:Value}(h:s.R V u):s.R V' u:=by
 cases s with
 |pd p=>exact PR.keepC hl h hn
 |loc i o=>show u=_;rw[h1];exact h
 |own i=>show u=_;rw[h2];exact h
 |oat i j sz o=>show u=_;rw[h1];exact h
 | fn f a b =>
   simp only[SC.noTbl,af,an]at hn
   obtain⟨ua,ub,e,g1,g2⟩:=h
   exact⟨ua,ub,e,g1.mono fun x _ hx hab=>RC.R_keepC h1 hl (hn.1 x hx) hab,g2.mono fun x _ hx hab=>RC.R_keepC h1 hl (hn.2 x hx) hab⟩
theorem Chunk.holds_keepC(h1:V'.σ=V.σ)(h2:V'.ov=V.ov)(hl:∀k a b c,V.H k=some (.cells a b c)→V'.H k=some (.cells a b c)){w:World}{i:Nat}{c:Chunk}(hn:c.noTbl=true)(h:c.holds V w i):c.holds V' w i:=by
 cases c with
 |dead=>trivial
 | cells cs e =>
   simp only[Chunk.noTbl,an]at hn
   obtain⟨us,g1,g2⟩:=h;exact⟨us,by rw[h1];exact g1,g2.mono fun x _ hx hab=>SC.R_keepC h1 h2 hl (hn x hx) hab⟩
 |obj o=>cases hn
 | own e t l =>
   obtain⟨xs,g1,g2,g3⟩:=h
   refine⟨xs,by rw[h2];exact g1,g2.mono fun x _ hx hab=>PR.keepC hl hab ?_,by rw[h1,h2];exact g3⟩
   obtain⟨y,_,hy⟩:=a7.1 hx
   exact qC t y x hy
end
def Cl(H H':Mem):Prop:=∀k o,H' k=some o→H k=some o∨o.isCells=true
theorem WOk.clean{Γ:Ctx}{ck:List Chunk}{V V':Vn}{w:World}{n:Nat}(r:WOk Γ ck V' w)(hag:Agree n V V')(hle:HLe Γ.H0 V.H)(hn:ck.all Chunk.noTbl=true):∃V2,Agree n V V2∧Cl V.H V2.H∧WOk Γ ck V2 w:=by
 have hc1:∀k a b c,V'.H k=some (.cells a b c)→iJ V.H V'.H k=some (.cells a b c):=fun k a b c h=>by
  unfold iJ
  cases hk:V.H k with
  |none=>simp only[h]
  |some o=>exact h
 have hc2:∀k o,iJ V.H V'.H k=some o→V'.H k=some o:=fun k o h=>by
  unfold iJ at h
  cases hk:V.H k with
  | none =>
    rw[hk]at h
    simp only at h
    split at h
    · rename_i a b c e
      rw[e];exact h
    ·cases h
  |some o2=>rw[hk]at h;exact h
 have hc3:HLe V.H (iJ V.H V'.H):=fun k o h=>by unfold iJ;rw[h];exact hag.hle k o h
 refine⟨⟨iJ V.H V'.H,V'.σ,V'.ov⟩,⟨hc3,hag.same⟩,fun k o h=>?_,?_⟩
 · have h2:iJ V.H V'.H k=some o:=h
   have h3':=hc2 k o h2
   unfold iJ at h2
   cases hk:V.H k with
   | none =>
     rw[hk]at h2
     simp only at h2
     split at h2
     ·simp only[aa]at h2;rw[←h2];exact .inr rfl
     ·cases h2
   | some o2 =>
     have h3:=hag.hle k o2 hk
     rw[h3']at h3
     left;rw[h3]
 · refine{ext:=r.ext,imm:=fun k o h=>r.imm k o (hc2 k o h),hle:=hle.trans hc3,frz:=fun k h=>r.frz k fun e=>h ?_,agr:=r.agr,own:=fun i c hc=>?_,base:=fun i c b hc hb=>⟨(r.base i c b hc hb).1,?_⟩,inj:=r.inj}
   · cases hx:iJ V.H V'.H k with
     |none=>exact hx
     |some o=>rw[hc2 k o hx]at e;cases e
   ·exact Chunk.holds_keepC (V:=V') (V':=⟨iJ V.H V'.H,V'.σ,V'.ov⟩) rfl rfl hc1 (an.1 hn c (List.mem_of_getElem? hc)) (r.own i c hc)
   · cases hx:iJ V.H V'.H b with
     |none=>exact hx
     |some o=>have:=(r.base i c b hc hb).2;rw[hc2 b o hx]at this;cases this
theorem WOk.turned{Γ:Ctx}{ck:List Chunk}{V V':Vn}{w0 W W':World}{row:Option Nat}(r:WOk Γ ck V' W)(hcl:Cl V.H V'.H)(hV:HIn V.H w0)(hs:Γ.w0.heap.size≤w0.heap.size)(hg:W.grownBy W' row)
 (hr:∀x,row=some x→w0.heap.size≤x∧∃o:Obj,W.heap[x]?=some o∧o.isCells=false) (hn:ck.all Chunk.noTbl=true):WOk Γ ck V' W':=by
 have hne:∀k,k<W.heap.size→(∀x,row=some x→k≠x)→W'.heap[k]?=W.heap[k]?:=fun k hk hx=>hg.block k hk fun e=>hx k e.symm rfl
 have hcell:∀(i:Nat) (c:Chunk) (b:Nat),ck[i]?=some c→c.blk V' i=some b→W'.heap[b]?=W.heap[b]?:=fun i c b hc hb=>by
  obtain⟨o,h1,h2⟩:=Chunk.blk_cells (an.1 hn c (List.mem_of_getElem? hc)) (r.own i c hc) hb
  refine hne b (Array.getElem?_eq_some_iff.1 h1).1 fun x hx e=>?_
  obtain⟨_,o2,h3,h4⟩:=hr x hx
  rw[←e,h1]at h3
  simp only[aa]at h3
  rw[←h3,h2]at h4;cases h4
 refine{ext:=⟨hg.os.trans r.ext.os,hg.tape.trans r.ext.tape,hg.output.trans r.ext.output,aC r.ext.size hg.size,fun k hk hn=>?_⟩,imm:=fun k o h=>?_,hle:=r.hle,frz:=r.frz,agr:=r.agr,own:=fun i c hc=>Chunk.holds_kept (r.own i c hc) fun b hb=>hcell i c b hc hb,base:=r.base,inj:=r.inj}
 · refine(hne k (bW hk r.ext.size) fun x hx e=>?_).trans (r.ext.block k hk hn)
   have:=(hr x hx).1;omega
 · have h1:=r.imm k o h
   rw[hne k (Array.getElem?_eq_some_iff.1 h1).1 fun x hx e=>?_]
   ·exact h1
   · obtain⟨h2,o2,h3,h4⟩:=hr x hx
     rw[←e,h1]at h3
     simp only[aa]at h3
     rcases hcl k o h with h5 |h5
     · have:=(Array.getElem?_eq_some_iff.1 (hV k o h5)).1
       omega
     ·rw[h3,h4]at h5;cases h5
structure KpH (H:Mem) (W W':World):Prop where
 os:W'.os=W.os
 tape:W'.tape=W.tape
 output:W'.output=W.output
 size:W.heap.size≤W'.heap.size
 same:∀k,H k≠none→W'.heap[k]?=W.heap[k]?
theorem KpH.trans{H:Mem}{A B C:World}(h:KpH H A B)(k:KpH H B C):KpH H A C :=
 ⟨k.os.trans h.os,k.tape.trans h.tape,k.output.trans h.output,aC h.size k.size,fun i hi=>(k.same i hi).trans (h.same i hi)⟩
def KpX(H:Mem)(n:Nat)(A B:World):Prop:=KpH H A B∧∀k o,n≤k→A.heap[k]?=some o→o.isCells=true→B.heap[k]?=some o
def Kp1(one:Bool)(H:Mem)(n:Nat):World→World→Prop:=match one with
 |true=>KpX H n
 |false=>KpH H
theorem KpH.refl(H:Mem)(A:World):KpH H A A:=⟨rfl,rfl,rfl,av _,fun _ _=>rfl⟩
theorem Kp1.refl(one:Bool)(H:Mem)(n:Nat)(A:World):Kp1 one H n A A:=by
 cases one with
 |false=>exact KpH.refl H A
 |true=>exact⟨KpH.refl H A,fun _ _ _ h _=>h⟩
theorem Kp1.trans{one:Bool}{H:Mem}{n:Nat}{A B C:World}(h:Kp1 one H n A B)(k:Kp1 one H n B C):Kp1 one H n A C:=by
 cases one with
 |false=>exact KpH.trans h k
 |true=>exact⟨KpH.trans h.1 k.1,fun i o h1 h2 h3=>k.2 i o h1 (h.2 i o h1 h2 h3) h3⟩
def Sj(one:Bool)(P:Program)(gf:Nat)(caps:List RC)(ok:Int→Prop)(xs:List Int):Prop :=
 ∀(n:Nat) (V:Vn) (w:World) (lb:List Value),HIn V.H w→hZ P V.H→All2 (RC.R V) caps lb →
  SeqStopsK Fence.wide n P gf lb.toArray (fun(x:{x:Int // ok x})=>#[.int .i64 x.1]) (Kp1 one V.H w.heap.size) (fun ys=>ys.map (·.1)=xs) (fun ys=>ys.map (·.1) <+: xs) xs.length w
def Iter(P:Program)(gf:Nat)(caps:List RC)(ok:Int→Prop)(xs:List Int):Prop :=
 ∀(n:Nat) (V:Vn) (w:World) (lb:List Value),HIn V.H w→hZ P V.H→All2 (RC.R V) caps lb →
  SeqStopsK Fence.wide n P gf lb.toArray (fun(x:{x:Int // ok x})=>#[.int .i64 x.1]) (KpH V.H) (fun ys=>ys.map (·.1)=xs) (fun ys=>ys.map (·.1) <+: xs) xs.length w
theorem lK{Γ:Ctx}{D:Nat}(hD:Γ.H0 D=none)(o:Obj):({Γ with ds:=D::Γ.ds,H0:=fun k=>if k=D then some o else Γ.H0 k}:Ctx).base=Γ.base:=by
 unfold Ctx.base
 cases hds:Γ.ds with
 | nil =>
   simp only
   have e:(fun k=>if k∈[D]then none else if k=D then some o else Γ.H0 k)=Γ.H0:=by
    funext k
    by_cases hk:k=D
    ·subst hk;simp[hD]
    ·simp[hk]
   rw[e]
   cases Γ;simp only at hds;simp[hds]
 | cons E ds =>
   simp only
   congr 1
   funext k
   by_cases hk:k=D
   ·subst hk;simp[hD]
   ·simp[hk]
theorem sH{l n:Nat}{P:Program}{id:Nat}{o:Oper}{s d:Nat}{a:Act}{w:World}{K:Act→World→Prop}{Q:Exit→Act→World→Prop}(h1:o.op = .assign (.tmp s))(h2:o.dst=some d)(h3:o.guard=none)(hK:K (a.put (some d) (a.eval (.tmp s))) w) :
 (Code.region id #[o] false).wpIn (Fence.wide.inRound l) n P (Exit.then K Q) a w:=by
 intro b k cs hro hb hr
 refine⟨.normal,_,_,hK,?_⟩
 have s1:step P (lone (b.atR a (.code (.region id #[o] false)::k)) cs w) = .next (lone (b.atR a (.inRegion #[o] [0]::k)) cs w):=stepR_region
 have ho:(#[o]:Array Oper)[0]?=some o:=rfl
 have hw:Region.wanted o (yielded #[o] a.tmps)=true:=by simp[Region.wanted,h3]
 have hg:=stepGR_op (P:=P) (b:=b) (k:=k) (cs:=cs) (w:=w) (rest:=[]) (a:=a) ho hw
 have hfin:(b.atR a (.inRegion #[o] [0]::k)).finish (a.eval (.tmp s))=b.atR (a.put o.dst (a.eval (.tmp s))) (.inRegion #[o] []::k):=by rw[Frame.finish_atR,ho];rfl
 have hrun:(execOp a.eval o).run P w = .ok (.value (a.eval (.tmp s))) w:=by
  obtain⟨dst,op,ty,pos,after,guard⟩:=o
  simp only at h1
  subst h1
  rfl
 have s2:step P (lone (b.atR a (.inRegion #[o] [0]::k)) cs w) = .next (lone (b.atR (a.put (some d) (a.eval (.tmp s))) (.inRegion #[o] []::k)) cs w):=step_lone_go (by
  rw[←h2,hg,←hfin];simp[stepG.apply,Go.Sy.semAt_run hrun (by simp)])
 have s3:step P (lone (b.atR (a.put (some d) (a.eval (.tmp s))) (.inRegion #[o] []::k)) cs w) = .next (lone (b.atR (a.put (some d) (a.eval (.tmp s))) k) cs w):=stepR_region_end
 exact stepsIn_wide.2 (.head s1 (.head s2 (.one s3)))
theorem Rel.fin{P:Program}{Γ:Ctx}{Q:Out}{fn:Func}{st:ST}{V:Vn}{a:Act}{w:World}(r:Rel Γ st V a w){l:List SX}(hl:iX P st fn.results.toList=some l)(hq:Q (iG st (iS l)).1 (iG st (iS l)).2) :
 ∃v,(results fn a.tmps).run P (Go.Sy.took w Γ.ds) = .ok v (Go.Sy.took w Γ.ds)∧jr Γ Q (.returned v) (Go.Sy.took w Γ.ds):=by
 obtain⟨V1,r1⟩:=r.take
 obtain⟨v,h1,h2⟩:=EP r1 hl
 obtain⟨V',h3,h4⟩:=vQ r1 h2
 exact⟨v,h1,.inl ⟨v,V',_,_,rfl,hq,h3,h4⟩⟩
theorem Rel.mark{Γ:Ctx}{st:ST}{V V':Vn}{a:Act}{w W:World}{ck:List Chunk}{D:Nat}(r:Rel Γ st V a w)(hwf:st.wf=true)(hag:Agree st.ck.length V V')(hcl:Cl V.H V'.H)(hw:WOk Γ ck V' W)(hlen:ck.length=st.ck.length)
 (hD:w.heap.size≤D) (hk:W.heap[D]?=some (.deferred (some []))) :
 ∃V2,Rel {Γ with ds:=D::Γ.ds,H0:=fun k=>if k=D then some (.deferred (some []))else Γ.H0 k} {st with ck:=ck} V2 {a with defers:={target:=.collected D,args:=#[]}::a.defers} W:=by
 have hVD:V.H D=none:=by
  cases h:V.H D with
  |none=>rfl
  |some o=>have:=(Array.getElem?_eq_some_iff.1 (r.wok.imm D o h)).1;omega
 have hVD':V'.H D=none:=by
  cases h:V'.H D with
  |none=>rfl
  | some o =>
    have h1:=hw.imm D o h
    rw[hk]at h1
    simp only[aa]at h1
    rcases hcl D o h with h2 |h2
    ·rw[hVD]at h2;cases h2
    ·rw[←h1]at h2;cases h2
 have hle2:HLe V'.H (fun k=>if k=D then some (.deferred (some []))else V'.H k):=fun k o h=>by
  show(if k=D then some (.deferred (some []))else V'.H k)=some o
  rw[if_neg fun e=>by rw[e,hVD']at h;cases h];exact h
 refine⟨⟨fun k=>if k=D then some (.deferred (some []))else V'.H k,V'.σ,V'.ov⟩,{size:=r.size,defers:=⟨?_,?_,?_⟩,slots:=fun t sv h=>?_,wok:=?_,few:=⟨r.few.1,by show st.m≤ck.length;rw[hlen];exact r.few.2⟩}⟩
 · show{target:=.collected D,args:=#[]}::a.defers=_
   rw[r.defers.eq];rfl
 · refine dv.2 ⟨fun hm=>?_,r.defers.nodup⟩
   have:=r.wok.hle _ _ (r.defers.at' D hm).1
   rw[hVD]at this;cases this
 · intro E hE
   rcases aI.1 hE with rfl |hE
   ·exact⟨if_pos rfl,aC r.wok.ext.size hD⟩
   · have h1:=r.defers.at' E hE
     refine⟨?_,h1.2⟩
     show(if E=D then some (.deferred (some []))else Γ.H0 E)=_
     split
     ·rfl
     ·exact h1.1
 · simp only[ST.wf,af]at hwf
   exact cO.keep (V:=V') (V':=⟨fun k=>if k=D then some (.deferred (some []))else V'.H k,V'.σ,V'.ov⟩) (a:=a) rfl rfl hle2.ke rfl ((r.slots t sv h).agree hag (an.1 hwf.1 _ h))
 · refine{ext:=hw.ext,imm:=fun k o h=>?_,hle:=fun k o h=>?_,frz:=fun k h=>?_,agr:=hw.agr,own:=fun i c hc=>?_,base:=fun i c b hc hb=>⟨(hw.base i c b hc hb).1,?_⟩,inj:=hw.inj}
   · have h':(if k=D then some (.deferred (some []))else V'.H k)=some o:=h
     split at h'
     ·rename_i e;rw[e,hk];exact h'
     ·exact hw.imm k o h'
   · have h':(if k=D then some (.deferred (some []))else Γ.H0 k)=some o:=h
     show(if k=D then some (.deferred (some []))else V'.H k)=some o
     split at h'
     ·rename_i e;rw[if_pos e];exact h'
     ·rename_i e;rw[if_neg e];exact hw.hle k o h'
   · by_cases e:k=D
     · left;show(if k=D then some (.deferred (some []))else Γ.H0 k)≠none
       rw[if_pos e];simp
     · have h':(if k=D then some (.deferred (some []))else V'.H k)≠none:=h
       rw[if_neg e]at h'
       rcases hw.frz k h' with h1 |h1
       · left;show(if k=D then some (.deferred (some []))else Γ.H0 k)≠none
         rw[if_neg e];exact h1
       ·exact .inr h1
   ·exact Chunk.holds_keep (V:=V') (V':=⟨fun k=>if k=D then some (.deferred (some []))else V'.H k,V'.σ,V'.ov⟩) rfl rfl hle2.ke (hw.own i c hc)
   · show(if b=D then some (.deferred (some []))else V'.H b)=none
     rw[if_neg fun e=>?_]
     ·exact(hw.base i c b hc hb).2
     · obtain⟨o,h1,h2⟩:=Chunk.blk_live (hw.own i c hc) hb
       rw[e,hk]at h1
       simp only[aa]at h1
       exact h2 _ h1.symm
variable{P:Program}{Γ:Ctx}{Q:Out}{m:FuncId}{fn:Func}{root:Code}{st:ST}{p:List Nat}{k:List PI}{g s d gf:Nat}
theorem jr.turn{Γ':Ctx}{Q:Out}{e:Ending}{w:World}(h:Γ'.base=Γ.base)(q:jr Γ' Q e w):jr Γ Q e w:=by
 rcases q with⟨v,V',ret,ck',h1,h2,h3,h4⟩ |q
 ·exact .inl ⟨v,V',ret,ck',h1,h2,h3,by rw[←h];exact h4⟩
 ·exact .inr (by rw[←h];exact q)
theorem J.ranges {id:Nat} {o:Oper} {body:Code} {caps:List RC} {ok:Int→Prop} {xs:List Int} {one:Bool} {cx:Code} {vx:SV} (hcv:(cx = .ret∧vx = .x (.b false))∨∃id:Nat,cx = .exit id∧vx = .x (.i (id:Int)))
 (hf:P.funcs[m]?=some fn) (hc:sub root p = .rangeFunc (.tmp g) #[s] (.region id #[o] false) body) (ho1:o.op = .assign (.tmp s)) (ho2:o.dst=some d) (ho3:o.guard=none) (hs:Nat.blt s st.n=true) (hd:Nat.blt d st.n=true) (hsd:Nat.beq s d=false)
 (hg:Ev.lookup st.fr g=some (.x (.c (.fn (.func gf) [] caps)))) (hgf:∀args w,(callFunc gf args).run P w = .ok (.enter gf args) w) (hwf:st.wf=true) (hit:Sj one P gf caps ok xs)
 (cK badx:List Int→Prop) (hone:one=true→∀(l:List Int) (x:Int),¬cK (l++[x])) (hg0:cK []) (ckf ckx:List Int→List Chunk) (h0:ckf []=st.ck) (hlf:∀l,(ckf l).length=st.ck.length) (hlx:∀l,(ckx l).length=st.ck.length) (hnf:∀l,(ckf l).all Chunk.noTbl=true) (hnx:∀l,(ckx l).all Chunk.noTbl=true)
 (hround:∀(l:Nat) (pre:List Int) (x:Int) (Γ:Ctx),Γ.ds=[]→ok x→(∀y∈pre,ok y)→cK pre→pre.length<xs.length→J P ⟨m,some l⟩ root Γ (fun v ck=>(v = .x (.b true)∧cK (pre++[x])∧ck=ckf (pre++[x]))∨(v=vx∧badx (pre++[x])∧ck=ckx (pre++[x]))) [.code (p++[1])]
  {n:=st.n,fr:=bH d (.x (.i x)) (bH s (.x (.i x)) st.fr),ck:=ckf pre,m:=(ckf pre).length})
 (hdone:cK xs→∀Γ',J P m root Γ' Q k {st with ck:=ckf xs})
 (hstop:cx = .ret→∀pre,pre <+: xs→badx pre→∃l,iX P {st with ck:=ckx pre} fn.results.toList=some l∧Q (iG {st with ck:=ckx pre} (iS l)).1 (iG {st with ck:=ckx pre} (iS l)).2)
 (hbrk:∀id,cx = .exit id→∃k2,lT id k=some k2∧∀pre,pre <+: xs→badx pre→∀Γ',J P m root Γ' Q k2 {st with ck:=ckx pre}) :
 J P m root Γ Q (.code p::k) st:=by
 intro hT V a w r
 have hs':s<st.n:=aB hs
 have hd':d<st.n:=aB hd
 have hwf2:=hwf
 simp only[ST.wf,af]at hwf2
 have hgv:=r.slots g _ (cT hg)
 obtain⟨ua,ub,hgv,hua,hub⟩:=hgv
 cases hua
 have hag:a.eval (.tmp g) = .func (.func gf) #[] ub.toArray:=hgv
 have hTV:hZ P V.H:=hT.mono r.wok.hle
 have hΓ:Γ.m≤st.ck.length:=aC r.few.1 r.few.2
 let I:List {x:Int // ok x}→World→Prop:=fun ys W=>cK (ys.map (·.1))∧∃V',Agree st.ck.length V V'∧Cl V.H V'.H∧WOk Γ (ckf (ys.map (·.1))) V' W
 let Ix:Code→List {x:Int // ok x}→World→Prop:=fun c ys W=>(c=cx∧badx (ys.map (·.1)))∧∃V',Agree st.ck.length V V'∧Cl V.H V'.H∧WOk Γ (ckx (ys.map (·.1))) V' W
 let Ax:{x:Int // ok x}→Act→World→Prop:=fun x a' _=>a'=(({a with defers:=[]}:Act).put (some s) (.int .i64 x.1)).put (some d) (.int .i64 x.1)
 have hI:OwnFrom w.heap.size I:=fun ys W W' row ⟨q0,V',q1,q2,q3⟩ hgr hrow=>⟨q0,V',q1,q2,q3.turned q2 r.wok.imm r.wok.ext.size hgr hrow (hnf _)⟩
 have hIx:∀c,OwnFrom w.heap.size (Ix c):=fun c ys W W' row ⟨q0,V',q1,q2,q3⟩ hgr hrow=>⟨q0,V',q1,q2,q3.turned q2 r.wok.imm r.wok.ext.size hgr hrow (hnx _)⟩
 have hI0:I [] w:=⟨hg0,V,Agree.refl _ _,fun _ _ h=>.inl h,by show WOk Γ (ckf []) V w;rw[h0];exact r.wok⟩
 have hAx:∀x a',OwnFrom w.heap.size (fun(_:Unit) W=>Ax x a' W):=fun x a' _ W W' row h _ _=>h
 have hKb:∀(W:World) (l:Nat) (o o':Obj),w.heap.size≤l→W.heap[l]?=some o→o.isCells=false→o.isWalk=false→Kp1 one V.H w.heap.size W (W.putObj l o'):=fun W l o o' hl ho hc _=>by
  have k1:KpH V.H W (W.putObj l o'):=⟨rfl,rfl,rfl,by simp,fun i hi=>World.putObj_heap_other fun e=>by
   cases h:V.H i with
   |none=>exact hi h
   |some ob=>have:=(Array.getElem?_eq_some_iff.1 (r.wok.imm i ob h)).1;omega⟩
  cases one with
  |false=>exact k1
  | true=>exact⟨k1,fun i ob _ hio hic=>(World.putObj_heap_other fun e=>by
     rw[e,ho]at hio
     simp only[aa]at hio
     rw[←hio,hc]at hic;cases hic).trans hio⟩
 let Qk:Exit→Act→World→Prop:=fun e a' w'=>match e with
  |.normal=>Go.Sy.Fin P (m:Go.Sy.Md) (jr Γ Q) (k.map (PI.den root)) a' w'
  |.ret=>∃(v:Value) (ds:List Nat),a'.defers=ds.map (fun D=>({target:=.collected D,args:=#[]}:Deferred))∧ds.Nodup∧(∀D∈ds,w'.heap[D]?=some (.deferred (some [])))∧(results fn a'.tmps).run P (Go.Sy.took w' ds) = .ok v (Go.Sy.took w' ds)∧jr Γ Q (.returned v) (Go.Sy.took w' ds)
  |.exit id=>∃k2:List PI,exitTo id (k.map (PI.den root))=some (k2.map (PI.den root))∧Go.Sy.Fin P (m:Go.Sy.Md) (jr Γ Q) (k2.map (PI.den root)) a' w'
  |_=>False
 have hH0:∀D,w.heap.size≤D→Γ.H0 D=none:=fun D hD=>by
  cases h:Γ.H0 D with
  |none=>rfl
  |some ob=>have:=(Array.getElem?_eq_some_iff.1 (r.wok.imm D ob (r.wok.hle D ob h))).1;omega
 have hT':∀D,w.heap.size≤D→hZ P (fun k=>if k=D then some (.deferred (some []))else Γ.H0 k):=fun D hD=>hT.mono fun k ob h=>by
  show(if k=D then some (.deferred (some []))else Γ.H0 k)=some ob
  rw[if_neg fun e=>by rw[e,hH0 D hD]at h;cases h];exact h
 have key:=wpIn_rangeFunc_ownH (F:=Fence.wide) (n:=1) (P:=P) (g:=.tmp g) (ps:=#[s]) (assign:=.region id #[o] false) (body:=body) (Q:=Qk) (a:=a) (w:=w) rfl (av 1) hag trivial hgf
  (encs:=fun(x:{x:Int // ok x})=>#[.int .i64 x.1]) (Kp:=Kp1 one V.H w.heap.size) (S:=fun ys=>ys.map (·.1)=xs) (Sp:=fun ys=>ys.map (·.1) <+: xs) (N:=xs.length) (w0:=w) (hit _ V w ub r.wok.imm hTV hub)
  (fun h1 h2=>Kp1.trans h1 h2) hKb (Below.refl _ _) (fun _=>rfl) I Ix hI hIx hI0 Ax hAx ?assign ?body ?done ?stop
 case assign =>
  intro l pre x W K hi hK
  have hszs:s<a.tmps.size:=by rw[r.size];exact hs'
  have e:({tmps:=(#[s].zip #[Value.int .i64 x.1]).foldl (fun t (p,v)=>t.setIfInBounds p v) a.tmps,defers:=[]}:Act)=({a with defers:=[]}:Act).put (some s) (.int .i64 x.1):=by
   simp[Act.put]
  show(Code.region id #[o] false).wpIn (Fence.wide.inRound l) _ P (Exit.then K _) ({tmps:=(#[s].zip #[Value.int .i64 x.1]).foldl (fun t (p,v)=>t.setIfInBounds p v) a.tmps,defers:=[]}:Act) W
  rw[e]
  refine sH ho1 ho2 ho3 (hK _ _ (KeepsFrom.refl _ _) (Kp1.refl _ _ _ _) hi ?_)
  show(({a with defers:=[]}:Act).put (some s) (.int .i64 x.1)).put (some d) ((({a with defers:=[]}:Act).put (some s) (.int .i64 x.1)).eval (.tmp s))=_
  have e2:((({a with defers:=[]}:Act).put (some s) (.int .i64 x.1)).eval (.tmp s)) = .int .i64 x.1:=by
   show((({a with defers:=[]}:Act).put (some s) (.int .i64 x.1)).tmps.getD s undef)=_
   simp[Act.put,Array.getD,hszs]
  rw[e2]
 case body =>
  intro l pre x a' W hl hrec hi ha hlt
  obtain⟨hgd,V',q1,q2,q3⟩:=hi
  have ha':a'=(({a with defers:=[]}:Act).put (some s) (.int .i64 x.1)).put (some d) (.int .i64 x.1):=ha
  have hln:=hlf (pre.map (·.1))
  have r0:Rel (entry (ckf (pre.map (·.1))) V' W) {n:=st.n,fr:=st.fr,ck:=ckf (pre.map (·.1)),m:=(ckf (pre.map (·.1))).length} V' {a with defers:=[]} W :=
   {size:=r.size,defers:=.nil rfl,slots:=fun t sv h=>cO.keep (V:=V') (a:=a) rfl rfl (HLe.refl _).ke rfl ((r.slots t sv h).agree q1 (an.1 hwf2.1 _ h)),wok:=q3.whole,few:=⟨av _,av _⟩}
  have r1:=r0.put s (.x (.i x.1)) (.int .i64 x.1) hs' fun a2 _ h=>by show SX.R V' (SX.i x.1) (a2.tmps.getD s undef);rw[h];exact PR.int _ _
  have r2:=r1.put d (.x (.i x.1)) (.int .i64 x.1) hd' fun a2 _ h=>by show SX.R V' (SX.i x.1) (a2.tmps.getD d undef);rw[h];exact PR.int _ _
  rw[←ha']at r2
  have hj:=hround l (pre.map (·.1)) x.1 (entry (ckf (pre.map (·.1))) V' W) rfl x.2 (fun y hy=>by obtain⟨z,_,rfl⟩:=aM.1 hy;exact z.2) hgd (by rw[aP];exact hlt) (hTV.mono q1.hle) V' a' W r2
  have hb:sub root (p++[1])=body:=by rw[gW,hc];rfl
  simp only[aq,cb,PI.den,hb]at hj
  refine wpIn_mono (td hj) fun e a2 W2 hq=>?_
  have common:∀{ck:List Chunk} {V2:Vn},WOk (entry (ckf (pre.map (·.1))) V' W) ck V2 W2→ck.length=st.ck.length→ck.all Chunk.noTbl=true→KeepsFrom w.heap.size W W2∧KpH V.H W W2∧∃V3,Agree st.ck.length V V3∧Cl V.H V3.H∧WOk Γ ck V3 W2:=by
   intro ck V2 hw _ hnt
   have hM:∀b,(entry (ckf (pre.map (·.1))) V' W).M b→(∃ob,W.heap[b]?=some ob∧ob.isCells=true)∧V'.H b=none:=fun b ⟨i,c,hci,hcb⟩=>⟨Chunk.blk_cells (an.1 (hnf _) c (List.mem_of_getElem? hci)) (q3.own i c hci) hcb,(q3.base i c b hci hcb).2⟩
   refine⟨⟨hw.ext.size,fun b ob _ hb1 hb2=>?_⟩,⟨hw.ext.os,hw.ext.tape,hw.ext.output,hw.ext.size,fun b hb1=>?_⟩,?_⟩
   · have hlt2:b<W.heap.size:=(Array.getElem?_eq_some_iff.1 hb1).1
     refine(hw.ext.block b hlt2 fun h=>?_).trans hb1
     obtain⟨⟨o2,h3,h4⟩,_⟩:=hM b h
     rw[hb1]at h3
     simp only[aa]at h3
     rw[←h3,hb2]at h4;cases h4
   · obtain⟨ob,hob⟩:=Option.ne_none_iff_exists'.1 hb1
     have h5:=q3.imm b ob (q1.hle b ob hob)
     have hlt2:b<W.heap.size:=(Array.getElem?_eq_some_iff.1 h5).1
     refine hw.ext.block b hlt2 fun h=>?_
     have:=(hM b h).2
     rw[q1.hle b ob hob]at this;cases this
   · have hΓ2:Γ.m≤(ckf (pre.map (·.1))).length:=by rw[hln];exact hΓ
     have hw3:=q3.after hΓ2 hw
     refine hw3.clean (n:=st.ck.length) ⟨q1.hle.trans hw.hle,fun i hi=>?_⟩ r.wok.hle hnt
     have h1:V2.σ i=V'.σ i∧V2.ov i=V'.ov i:=hw.agr i (by show i<(ckf (pre.map (·.1))).length;rw[hln];exact hi)
     exact⟨h1.1.trans (q1.same i hi).1,h1.2.trans (q1.same i hi).2⟩
  have hmap:(pre++[x]).map (·.1)=pre.map (·.1)++[x.1]:=by simp
  rcases hq with⟨rfl,⟨v,V2,ret,ck2,h1,h2,h3,h4⟩ |h1⟩ |⟨rfl,⟨v,V2,ret,ck2,h1,h2,h3,h4⟩ |h1⟩ |⟨id2,rfl,⟨v,V2,ret,ck2,h1,h2,h3,h4⟩ |h1⟩
  case inl.inr=>exact False.elim h1
  case inr.inl.inr=>exact False.elim h1
  case inr.inr.inr=>exact False.elim h1
  · rw [jX rfl]at h4
    simp only[Ending.returned.injEq]at h1
    rcases h2 with⟨e1,hgx,e2⟩ |⟨e1,hgx,e2⟩
    · subst e2
      obtain⟨g1,g2,g3⟩:=common h4 (hlf _) (hnf _)
      have hon:one=false:=by
       cases one with
       |false=>rfl
       |true=>exact absurd hgx (hone rfl _ _)
      refine⟨g1,by rw[hon];exact g2,?_⟩
      show cK ((pre++[x]).map (·.1))∧∃V',_∧_∧WOk Γ (ckf ((pre++[x]).map (·.1))) V' W2
      rw[hmap];exact⟨hgx,g3⟩
    · exfalso
      subst h1
      rcases hcv with⟨_,e3⟩ |⟨id3,_,e3⟩
      · rw[e1,e3]at h3
        have h5:PR V2.H (.bool false) (.bool true):=h3
        cases h5
      · rw[e1,e3]at h3
        have h5:PR V2.H (.int .i64 (id3:Int)) (.bool true):=h3
        cases h5
  · rw [jX rfl]at h4
    simp only[Ending.returned.injEq]at h1
    subst h1
    rcases h2 with⟨e1,hgx,e2⟩ |⟨e1,hgx,e2⟩
    · subst e1
      have h5:PR V2.H (.bool true) (.bool false):=h3
      cases h5
    · subst e2
      have ec:cx = .ret:=by
       rcases hcv with⟨e4,_⟩ |⟨id3,_,e3⟩
       ·exact e4
       · rw[e1,e3]at h3
         have h5:PR V2.H (.int .i64 (id3:Int)) (.bool false):=h3
         cases h5
      obtain⟨g1,g2,g3⟩:=common h4 (hlx _) (hnx _)
      refine⟨g1,⟨ec.symm,?_⟩,?_⟩
      ·rw[hmap];exact hgx
      · show ∃V',_∧_∧WOk Γ (ckx ((pre++[x]).map (·.1))) V' W2
        rw[hmap];exact g3
  · rw [jX rfl]at h4
    simp only[Ending.returned.injEq]at h1
    subst h1
    rcases h2 with⟨e1,hgx,e2⟩ |⟨e1,hgx,e2⟩
    · subst e1
      have h5:PR V2.H (.bool true) (.int .i64 (id2:Int)):=h3
      cases h5
    · subst e2
      have ec:cx = .exit id2:=by
       rcases hcv with⟨_,e3⟩ |⟨id3,e4,e3⟩
       · rw[e1,e3]at h3
         have h5:PR V2.H (.bool false) (.int .i64 (id2:Int)):=h3
         cases h5
       · rw[e1,e3]at h3
         have h5:PR V2.H (.int .i64 (id3:Int)) (.int .i64 (id2:Int)):=h3
         have h6:(id3:Int)=(id2:Int):=by cases h5;rfl
         rw[e4,show id3=id2 by omega]
      obtain⟨g1,g2,g3⟩:=common h4 (hlx _) (hnx _)
      refine⟨g1,⟨ec.symm,?_⟩,?_⟩
      ·rw[hmap];exact hgx
      · show ∃V',_∧_∧WOk Γ (ckx ((pre++[x]).map (·.1))) V' W2
        rw[hmap];exact g3
 case done =>
  intro D ys W hD hS hi hk
  obtain⟨hgd,V',q1,q2,q3⟩:=hi
  have hS':ys.map (·.1)=xs:=hS
  rw[hS']at q3 hgd
  obtain⟨V2,r2⟩:=r.mark hwf q1 q2 q3 (hlf xs) hD hk
  exact Go.Sy.Fin.mono (fun e w' hq=>hq.turn (lK (hH0 D hD) _)) (hdone hgd _ (hT' D hD) V2 _ W r2)
 case stop =>
  intro D c ys W hD hS hi hk
  obtain⟨⟨rfl,hbd⟩,V',q1,q2,q3⟩:=hi
  obtain⟨V2,r2⟩:=r.mark hwf q1 q2 q3 (hlx _) hD hk
  rcases hcv with⟨e4,_⟩ |⟨id3,e4,_⟩
  case inr =>
   subst e4
   obtain⟨k2,hk2,hj⟩:=hbrk id3 rfl
   refine wpIn_exit ?_
   exact⟨k2,kC hk2,Go.Sy.Fin.mono (fun e w' hq=>hq.turn (lK (hH0 D hD) _)) (hj _ hS hbd _ (hT' D hD) V2 _ W r2)⟩
  subst e4
  obtain⟨l,hl1,hl2⟩:=hstop rfl _ hS hbd
  obtain⟨v,g1,g2⟩:=r2.fin hl1 hl2
  refine wpIn_ret ?_
  exact⟨v,D::Γ.ds,r2.defers.eq,r2.defers.nodup,fun E hE=>r2.wok.imm _ _ (r2.wok.hle _ _ (r2.defers.at' E hE).1),g1,g2.turn (lK (hH0 D hD) _)⟩
 intro b k' cs hro hb0
 obtain⟨hb,hkd,hk0⟩:=hb0 rfl
 subst hk0
 simp only[aq,PI.den,hc]
 obtain⟨e,a',w',hq,harr⟩:=key b (k.map (PI.den root)++[]) cs hro trivial (room_wide _)
 have harr':=harr
 cases e with
 |normal=>exact Go.Sy.EndAt.of_steps (stepsIn_wide.1 harr') (hq b [] cs hro hb0)
 | ret =>
   obtain⟨v,ds,e1,e2,e3,e4,e5⟩:=hq
   obtain⟨todo,hst⟩:=harr'.1 hro
   refine⟨.returned v,Go.Sy.took w' ds,_,e5,(stepsIn_wide.1 hst).trans (Go.Sy.leave_marks ds w' _ cs rfl e1 e2 e3),hb,?_⟩
   exact⟨rfl,rfl,hkd,fn,by simpa[Frame.atR,hb]using hf,e4⟩
 | exit id =>
   obtain⟨k2,h1,hq⟩:=hq
   exact Go.Sy.EndAt.of_steps (stepsIn_wide.1 (harr'.1 (k2.map (PI.den root)++[]) (by rw[aO,aO];exact h1))) (hq b [] cs hro hb0)
 |_=>exact hq.elim
def sl(root:Code)(p:List Nat):Option (Nat×Nat×Nat) :=
 match sub root p with
 | .rangeFunc (.tmp g) ⟨[s]⟩ (.region _ ⟨[o]⟩ false) _=>match o.op,o.dst,o.guard with
   |.assign (.tmp s'),some d,none=>bif Nat.beq s' s then some (g,s,d)else none
   |_,_,_=>none
 |_=>none
theorem J.range{caps:List RC}{ok:Int→Prop}{xs:List Int}
 (hf:P.funcs[m]?=some fn) (hc:sl root p=some (g,s,d)) (hs:Nat.blt s st.n=true) (hd:Nat.blt d st.n=true) (hsd:Nat.beq s d=false)
 (hg:Ev.lookup st.fr g=some (.x (.c (.fn (.func gf) [] caps)))) (hgf:∀args w,(callFunc gf args).run P w = .ok (.enter gf args) w) (hwf:st.wf=true) (hit:Iter P gf caps ok xs)
 (cK badx:List Int→Prop) (hg0:cK []) (ckf ckx:List Int→List Chunk) (h0:ckf []=st.ck) (hlf:∀l,(ckf l).length=st.ck.length) (hlx:∀l,(ckx l).length=st.ck.length) (hnf:∀l,(ckf l).all Chunk.noTbl=true) (hnx:∀l,(ckx l).all Chunk.noTbl=true)
 (hround:∀(l:Nat) (pre:List Int) (x:Int) (Γ:Ctx),Γ.ds=[]→ok x→(∀y∈pre,ok y)→cK pre→pre.length<xs.length→J P ⟨m,some l⟩ root Γ (fun v ck=>(v = .x (.b true)∧cK (pre++[x])∧ck=ckf (pre++[x]))∨(v = .x (.b false)∧badx (pre++[x])∧ck=ckx (pre++[x]))) [.code (p++[1])]
  {n:=st.n,fr:=bH d (.x (.i x)) (bH s (.x (.i x)) st.fr),ck:=ckf pre,m:=(ckf pre).length})
 (hdone:cK xs→∀Γ',J P m root Γ' Q k {st with ck:=ckf xs})
 (hstop:∀pre,pre <+: xs→badx pre→∃l,iX P {st with ck:=ckx pre} fn.results.toList=some l∧Q (iG {st with ck:=ckx pre} (iS l)).1 (iG {st with ck:=ckx pre} (iS l)).2) :
 J P m root Γ Q (.code p::k) st:=by
 unfold sl at hc
 split at hc
 · rename_i g' s' id o body hcode
   split at hc
   · rename_i s2 d' ho1 ho2 ho3
     cases hb:Nat.beq s2 s'
     ·rw[hb]at hc;cases hc
     · rw[hb]at hc
       simp only[cond_true,aa,ae]at hc
       obtain⟨rfl,rfl,rfl⟩:=hc
       have e:=ak hb
       subst e
       exact J.ranges (.inl ⟨rfl,rfl⟩) hf hcode ho1 ho2 ho3 hs hd hsd hg hgf hwf (one:=false) hit cK badx (fun h=>by cases h) hg0 ckf ckx h0 hlf hlx hnf hnx hround hdone (fun _=>hstop) fun id h=>by cases h
   ·cases hc
 ·cases hc
end Go.Ev
