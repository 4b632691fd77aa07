/- An executor for function bodies of the model over data, part PF: the call's own blocks: made, written, given up, put into memory that nobody writes. Conditions: none. An executor for function bodies of the model over data, part PG: operations that make or write the call's own blocks. Conditions: each operation's own, told as a proposition. -/
import Derived.Test.YtlhgnjmdopjpeaaGreatDoorPE
namespace Go.Ev
open Go.RowKit
/-! ### references stay within the chunks that there are -/
def RC.lt(n:Nat):RC→Bool
 |.pd _=>true
 |.loc i _=>Nat.blt i n
def SC.lt(n:Nat):SC→Bool
 |.pd _=>true
 |.loc i _=>Nat.blt i n
 |.own i=>Nat.blt i n
 |.oat i _ _ _=>Nat.blt i n
 |.fn _ a b=>a.all (RC.lt n)&&b.all (RC.lt n)
def SX.lt(n:Nat):SX→Bool
 |.c s=>s.lt n
 |.agg cs=>cs.all (SC.lt n)
def SV.lt(n:Nat):SV→Bool
 |.x s=>s.lt n
 |.tup l=>l.all (SX.lt n)
 |.grd _ _ v=>v.lt n
def Ob.lt(n:Nat):Ob→Bool
 |.it j _ _=>Nat.blt j n
 |_=>true
def Chunk.lt(n:Nat):Chunk→Bool
 |.obj o=>o.lt n
 |.cells cs _=>cs.all (SC.lt n)
 |_=>true
def mc(ck:List Chunk):Bool:=ck.all (Chunk.lt ck.length)
def ST.wf(st:ST):Bool:=st.fr.all (fun p=>p.2.lt st.ck.length)&&mc st.ck
structure Agree (n:Nat) (V V':Vn):Prop where
 hle:HLe V.H V'.H
 same:∀i,i<n→V'.σ i=V.σ i∧V'.ov i=V.ov i
theorem Agree.refl(n:Nat)(V:Vn):Agree n V V:=⟨HLe.refl _,fun _ _=>⟨rfl,rfl⟩⟩
section
variable{n:Nat}{V V':Vn}
theorem RC.R_agree(h:Agree n V V'){s:RC}(hs:s.lt n=true){u:Value}(hr:s.R V u):s.R V' u:=by
 cases s with
 |pd p=>exact PR.mono h.hle hr
 |loc i o=>simp[RC.lt]at hs;show u=_;rw[(h.same i hs).1];exact hr
theorem ym(h:Agree n V V'){l:List RC}(hs:l.all (RC.lt n)=true){us:List Value}(hr:All2 (RC.R V) l us):All2 (RC.R V') l us :=
 hr.mono fun a b ha hab=>RC.R_agree h (an.1 hs a ha) hab
theorem SC.R_agree(h:Agree n V V'){s:SC}(hs:s.lt n=true){u:Value}(hr:s.R V u):s.R V' u:=by
 cases s with
 |pd p=>exact PR.mono h.hle hr
 |loc i o=>simp[SC.lt]at hs;show u=_;rw[(h.same i hs).1];exact hr
 |own i=>simp[SC.lt]at hs;show u=_;rw[(h.same i hs).2];exact hr
 |oat i j sz o=>simp[SC.lt]at hs;show u=_;rw[(h.same i hs).1];exact hr
 | fn f x y =>
   simp only[SC.lt,af]at hs
   obtain⟨ua,ub,e,h1,h2⟩:=hr
   exact⟨ua,ub,e,ym h hs.1 h1,ym h hs.2 h2⟩
theorem lZ(h:Agree n V V'){l:List SC}(hs:l.all (SC.lt n)=true){us:List Value}(hr:All2 (SC.R V) l us):All2 (SC.R V') l us :=
 hr.mono fun a b ha hab=>SC.R_agree h (an.1 hs a ha) hab
theorem SX.R_agree(h:Agree n V V'){s:SX}(hs:s.lt n=true){u:Value}(hr:s.R V u):s.R V' u:=by
 cases s with
 |c s=>exact SC.R_agree h hs hr
 |agg cs=>obtain⟨us,e,h1⟩:=hr;exact⟨us,e,lZ h hs h1⟩
theorem cO.agree(h:Agree n V V'){a:Act}{t:Nat}{sv:SV}(hs:sv.lt n=true)(hk:cO V a t sv):cO V' a t sv:=by
 cases sv with
 |x s=>exact SX.R_agree h hs hk
 |tup l=>obtain⟨us,e,h1⟩:=hk;exact⟨us,e,h1.mono fun a b ha hab=>SX.R_agree h (an.1 hs a ha) hab⟩
 |grd s b v=>exact⟨fun hb=>SX.R_agree h hs (hk.1 hb),hk.2⟩
theorem Ob.mem_agree(h:Agree n V V'){o:Ob}(hs:o.lt n=true):o.mem V'=o.mem V:=by
 cases o with
 |set=>rfl
 |it j d c=>simp[Ob.lt]at hs;simp[Ob.mem,(h.same j hs).1]
theorem Chunk.holds_agree(h:Agree n V V'){w:World}{i:Nat}(hi:i<n){c:Chunk}(hs:c.lt n=true)(hk:c.holds V w i):c.holds V' w i:=by
 cases c with
 |dead=>trivial
 | cells cs e =>
   obtain⟨us,h1,h2⟩:=hk
   exact⟨us,by rw[(h.same i hi).1];exact h1,lZ h hs h2⟩
 | own e t l =>
   obtain⟨xs,h1,h2,h3⟩:=hk
   exact⟨xs,by rw[(h.same i hi).2];exact h1,h2.mono fun _ _ _ hp=>hp.mono h.hle,by rw[(h.same i hi).2,(h.same i hi).1];exact h3⟩
 |obj o=>exact⟨by rw[(h.same i hi).1,Ob.mem_agree h hs];exact hk.1,by rw[(h.same i hi).1,(h.same i hi).2];exact hk.2⟩
theorem Chunk.blk_agree(h:Agree n V V'){i:Nat}(hi:i<n)(c:Chunk):c.blk V' i=c.blk V i:=by
 cases c with
 |dead=>rfl
 |cells cs e=>simp[Chunk.blk,(h.same i hi).1]
 |own e t l=>simp[Chunk.blk,(h.same i hi).2]
 |obj o=>simp[Chunk.blk,(h.same i hi).1]
theorem jt{ck:List Chunk}(hwf:mc ck=true){i:Nat}{c:Chunk}(hc:ck[i]?=some c):i<ck.length∧c.lt ck.length=true :=
 ⟨(List.getElem?_eq_some_iff.1 hc).1,an.1 hwf c (List.mem_of_getElem? hc)⟩
theorem Chunk.blk_lt{i b:Nat}{c:Chunk}{w:World}(hk:c.holds V w i)(hb:c.blk V i=some b):b<w.heap.size:=by
 cases c with
 |dead=>simp[Chunk.blk]at hb
 | cells cs e =>
   simp only[Chunk.blk,aa]at hb
   subst hb
   obtain⟨us,h1,_⟩:=hk
   exact(Array.getElem?_eq_some_iff.1 h1).1
 |own e t l=>obtain⟨xs,h1,_⟩:=hk;exact(World.ownsRow.lt h1 b hb).2
 | obj o =>
   simp only[Chunk.blk,aa]at hb
   subst hb
   exact(Array.getElem?_eq_some_iff.1 hk.1).1
theorem Chunk.holds_kept{i:Nat}{c:Chunk}{w w':World}(hk:c.holds V w i)(hb:∀b,c.blk V i=some b→w'.heap[b]?=w.heap[b]?):c.holds V w' i:=by
 cases c with
 |dead=>trivial
 | cells cs e =>
   obtain⟨us,h1,h2⟩:=hk
   exact⟨us,by rw[hb _ rfl];exact h1,h2⟩
 | own e t l =>
   obtain⟨xs,h1,h2,h3⟩:=hk
   refine⟨xs,⟨h1.1,?_⟩,h2,h3⟩
   rcases h1.2 with h |⟨g,cap,cur,q1,q2,q3,q4⟩
   ·exact .inl h
   ·exact .inr ⟨g,cap,cur,q1,q2,by rw[hb g (by simp[Chunk.blk,q1,Value.ownBlock])];exact q3,q4⟩
 |obj o=>exact⟨by rw[hb _ rfl];exact hk.1,hk.2⟩
end
def cZ:Option Nat→List Chunk→List Chunk
 |some i,ck=>ck.set i .dead
 |none,ck=>ck
theorem pT(k:Option Nat)(ck:List Chunk):(cZ k ck).length=ck.length:=by cases k <;> simp[cZ]
theorem iE{k:Option Nat}{ck:List Chunk}{i:Nat}{c:Chunk}(hc:(cZ k ck)[i]?=some c):c = .dead∨(ck[i]?=some c∧k≠some i):=by
 cases k with
 |none=>exact .inr ⟨hc,by simp⟩
 | some j =>
   simp only[cZ]at hc
   by_cases hij:i=j
   · subst hij
     have hi:i<ck.length:=by have:=(List.getElem?_eq_some_iff.1 hc).1;simpa using this
     rw[List.getElem?_set_self hi]at hc
     exact .inl (by simpa using hc.symm)
   · rw[List.getElem?_set_ne (Ne.symm hij)]at hc
     exact .inr ⟨hc,by simp[Ne.symm hij]⟩
section
variable{Γ:Ctx}{ck:List Chunk}{V:Vn}{w:World}
theorem WOk.regrow(r:WOk Γ ck V w)(hwf:mc ck=true)(hm:Γ.m≤ck.length)(k:Option Nat){c:Chunk}{v':Value}{s':Nat}{w':World}{row:Option Nat}
 (hrow:∀b,row=some b→∃i c,k=some i∧ck[i]?=some c∧c.blk V i=some b) (hg:w.grownBy w' row)
 (hc:∀V',Agree ck.length V V'→V'.H=V.H→V'.σ ck.length=s'→V'.ov ck.length=v'→c.holds V' w' ck.length∧∀b,c.blk V' ck.length=some b→row=some b∨w.heap.size≤b) :
 ∃V',Agree ck.length V V'∧V'.H=V.H∧V'.σ ck.length=s'∧V'.ov ck.length=v'∧WOk Γ (cZ k ck++[c]) V' w':=by
 let V':Vn:=⟨V.H,fun i=>if i=ck.length then s' else V.σ i,fun i=>if i=ck.length then v' else V.ov i⟩
 have hag:Agree ck.length V V':=⟨HLe.refl _,fun i hi=>⟨if_neg (by omega),if_neg (by omega)⟩⟩
 have e1:V'.σ ck.length=s':=if_pos rfl
 have e2:V'.ov ck.length=v':=if_pos rfl
 obtain⟨hh,hblk⟩:=hc V' hag rfl e1 e2
 have hlen:=pT k ck
 have hrow':∀b,row=some b→(Γ.w0.heap.size≤b∨Γ.M b)∧V.H b=none∧b<w.heap.size∧∀(i:Nat) c,ck[i]?=some c→k≠some i→c.blk V' i≠some b:=by
  intro b hb
  obtain⟨i,c,hk,hc,hcb⟩:=hrow b hb
  have hb':=r.base i c b hc hcb
  refine⟨hb'.1,hb'.2,Chunk.blk_lt (r.own i c hc) hcb,fun j d hd hkj hdb=>?_⟩
  rw[Chunk.blk_agree hag (jt hwf hd).1]at hdb
  have:=r.inj i j c d b hc hd hcb hdb
  subst this
  exact hkj hk
 have hold:∀b,b<w.heap.size→row≠some b→w'.heap[b]?=w.heap[b]?:=fun b hb hne=>hg.block b hb (fun e=>hne e.symm)
 have hget:∀(i:Nat) d,(cZ k ck++[c])[i]?=some d→(i<ck.length∧(cZ k ck)[i]?=some d)∨(i=ck.length∧d=c):=by
  intro i d hd
  rcases Nat.lt_trichotomy i (cZ k ck).length with hi |hi |hi
  ·rw[List.getElem?_append_left hi]at hd;exact .inl ⟨by omega,hd⟩
  ·subst hi;simp at hd;exact .inr ⟨hlen,hd.symm⟩
  ·rw[List.getElem?_eq_none (by simp;omega)]at hd;cases hd
 have hB:Γ.w0.heap.size≤w.heap.size:=r.ext.size
 have hold':∀(i:Nat) d,ck[i]?=some d→d.holds V' w i∧d.blk V' i=d.blk V i:=fun i d hd=>⟨Chunk.holds_agree hag (jt hwf hd).1 (jt hwf hd).2 (r.own i d hd),Chunk.blk_agree hag (jt hwf hd).1 d⟩
 have hnewH:∀b,w.heap.size≤b→V.H b=none:=by
  intro b hb
  cases hH:V.H b with
  |none=>rfl
  |some x=>have:=(Array.getElem?_eq_some_iff.1 (r.imm _ _ hH)).1;omega
 refine⟨V',hag,rfl,e1,e2,{ext:=?_,imm:=?_,hle:=r.hle,frz:=r.frz,agr:=?_,own:=?_,base:=?_,inj:=?_}⟩
 · refine⟨hg.os.trans r.ext.os,hg.tape.trans r.ext.tape,hg.output.trans r.ext.output,aC hB hg.size,fun b hb hM=>?_⟩
   rw[←r.ext.block b hb hM]
   refine hold b (by omega) fun he=>?_
   rcases(hrow' b he).1 with h |h
   ·omega
   ·exact hM h
 · intro b x hb
   have:=r.imm b x hb
   rw[hold b (Array.getElem?_eq_some_iff.1 this).1 (fun he=>by have h2:V.H b=some x:=hb;rw[(hrow' b he).2.1]at h2;cases h2)];exact this
 · intro i hi
   have h1:=hag.same i (by omega)
   rw[h1.1,h1.2];exact r.agr i hi
 · intro i d hd
   rcases hget i d hd with⟨hi,hd⟩ |⟨rfl,rfl⟩
   · rcases iE hd with rfl |⟨hd,hk⟩
     ·trivial
     ·exact Chunk.holds_kept (hold' i d hd).1 fun b hb=>hold b (Chunk.blk_lt (hold' i d hd).1 hb) (fun he=>(hrow' b he).2.2.2 i d hd hk hb)
   ·exact hh
 · intro i d b hd hb
   rcases hget i d hd with⟨hi,hd⟩ |⟨rfl,rfl⟩
   · rcases iE hd with rfl |⟨hd,hk⟩
     ·simp[Chunk.blk]at hb
     ·rw[(hold' i d hd).2]at hb;exact r.base i d b hd hb
   · rcases hblk b hb with h |h
     ·exact⟨(hrow' b h).1,(hrow' b h).2.1⟩
     ·exact⟨.inl (by omega),hnewH b h⟩
 · intro i j d d' b hd hd' hb1 hb2
   rcases hget i d hd with⟨hi,hd1⟩ |⟨hi,hd1⟩ <;> rcases hget j d' hd' with⟨hj,hd2⟩ |⟨hj,hd2⟩
   · rcases iE hd1 with rfl |⟨hd1,hk1⟩
     ·simp[Chunk.blk]at hb1
     · rcases iE hd2 with rfl |⟨hd2,hk2⟩
       ·simp[Chunk.blk]at hb2
       · rw[(hold' i d hd1).2]at hb1;rw[(hold' j d' hd2).2]at hb2
         exact r.inj i j d d' b hd1 hd2 hb1 hb2
   · subst hj;subst hd2
     rcases iE hd1 with rfl |⟨hd1,hk1⟩
     ·simp[Chunk.blk]at hb1
     · rcases hblk b hb2 with h |h
       ·exact absurd hb1 ((hrow' b h).2.2.2 i d hd1 hk1)
       ·have:=Chunk.blk_lt (hold' i d hd1).1 hb1;omega
   · subst hi;subst hd1
     rcases iE hd2 with rfl |⟨hd2,hk2⟩
     ·simp[Chunk.blk]at hb2
     · rcases hblk b hb1 with h |h
       ·exact absurd hb2 ((hrow' b h).2.2.2 j d' hd2 hk2)
       ·have:=Chunk.blk_lt (hold' j d' hd2).1 hb2;omega
   ·rw[hi,hj]
theorem gX(w:World)(o:Obj):w.grownBy (w.alloc o) none:=⟨rfl,rfl,rfl,by simp,fun k hk _=>Below.heap_alloc w o k hk⟩
theorem WOk.rewrite(r:WOk Γ ck V w){i:Nat}{c:Chunk}(hc:ck[i]?=some c)(c':Chunk){w':World}(h1:w'.os=w.os∧w'.tape=w.tape∧w'.output=w.output∧w'.heap.size=w.heap.size)
 (hoth:∀b,c.blk V i≠some b→w'.heap[b]?=w.heap[b]?) (hb:c'.blk V i=c.blk V i) (hh:c'.holds V w' i):WOk Γ (ck.set i c') V w':=by
 have hi:i<ck.length:=(List.getElem?_eq_some_iff.1 hc).1
 have hget:∀(j:Nat) d,(ck.set i c')[j]?=some d→(j≠i∧ck[j]?=some d)∨(j=i∧d=c'):=by
  intro j d hd
  by_cases hj:j=i
  ·subst hj;rw[List.getElem?_set_self hi]at hd;exact .inr ⟨rfl,by simpa using hd.symm⟩
  ·rw[List.getElem?_set_ne (Ne.symm hj)]at hd;exact .inl ⟨hj,hd⟩
 refine{ext:=?_,imm:=?_,hle:=r.hle,frz:=r.frz,agr:=r.agr,own:=?_,base:=?_,inj:=?_}
 · refine⟨h1.1.trans r.ext.os,h1.2.1.trans r.ext.tape,h1.2.2.1.trans r.ext.output,by rw[h1.2.2.2];exact r.ext.size,fun b hb' hM=>?_⟩
   rw[←r.ext.block b hb' hM]
   refine hoth b fun he=>?_
   rcases(r.base i c b hc he).1 with h |h
   ·omega
   ·exact hM h
 · intro b x hx
   rw[hoth b (fun he=>by rw[(r.base i c b hc he).2]at hx;cases hx)];exact r.imm b x hx
 · intro j d hd
   rcases hget j d hd with⟨hj,hd⟩ |⟨rfl,rfl⟩
   ·exact Chunk.holds_kept (r.own j d hd) fun b hb'=>hoth b fun e=>hj (r.inj j i d c b hd hc hb' e)
   ·exact hh
 · intro j d b hd hb'
   rcases hget j d hd with⟨hj,hd⟩ |⟨rfl,rfl⟩
   ·exact r.base j d b hd hb'
   ·exact r.base j c b hc (by rw[←hb];exact hb')
 · intro j k d d' b hd hd' hb1 hb2
   rcases hget j d hd with⟨hj,hd1⟩ |⟨hj,hd1⟩ <;> rcases hget k d' hd' with⟨hk,hd2⟩ |⟨hk,hd2⟩
   ·exact r.inj j k d d' b hd1 hd2 hb1 hb2
   ·subst hk;subst hd2;exact r.inj j k d c b hd1 hc hb1 (by rw[←hb];exact hb2)
   ·subst hj;subst hd1;exact r.inj j k c d' b hc hd2 (by rw[←hb];exact hb1) hb2
   ·rw[hj,hk]
theorem WOk.freeze(r:WOk Γ ck V w){i g:Nat}{c:Chunk}{o:Obj}(hc:ck[i]?=some c)(hb:c.blk V i=some g)(ho:w.heap[g]?=some o) :
 HLe V.H (fun k=>if k=g then some o else V.H k)∧(∀k,k≠g→(if k=g then some o else V.H k)=V.H k)∧WOk Γ (ck.set i .dead) ⟨fun k=>if k=g then some o else V.H k,V.σ,V.ov⟩ w:=by
 have hi:i<ck.length:=(List.getElem?_eq_some_iff.1 hc).1
 have hbase:=r.base i c g hc hb
 have hle:HLe V.H (fun k=>if k=g then some o else V.H k):=by
  intro k x hk
  have:k≠g:=fun he=>by subst he;rw[hbase.2]at hk;cases hk
  simp[this,hk]
 have hget:∀(j:Nat) d,(ck.set i .dead)[j]?=some d→(j≠i∧ck[j]?=some d)∨(j=i∧d = .dead):=by
  intro j d hd
  by_cases hj:j=i
  ·subst hj;rw[List.getElem?_set_self hi]at hd;exact .inr ⟨rfl,by simpa using hd.symm⟩
  ·rw[List.getElem?_set_ne (Ne.symm hj)]at hd;exact .inl ⟨hj,hd⟩
 have hblk:∀(j:Nat) (d:Chunk),d.blk ⟨fun k=>if k=g then some o else V.H k,V.σ,V.ov⟩ j=d.blk V j:=by intro j d;cases d <;> rfl
 refine⟨hle,fun k hk=>if_neg hk,{ext:=r.ext,imm:=?_,hle:=r.hle.trans hle,frz:=?_,agr:=r.agr,own:=?_,base:=?_,inj:=?_}⟩
 · intro k x hk
   by_cases he:k=g
   ·subst he;simp at hk;subst hk;exact ho
   ·simp[he]at hk;exact r.imm k x hk
 · intro k hk
   by_cases he:k=g
   ·subst he;exact .inr hbase.1
   ·simp[he]at hk;exact r.frz k hk
 · intro j d hd
   rcases hget j d hd with⟨hj,hd⟩ |⟨rfl,rfl⟩
   · have h:=r.own j d hd
     have hag:∀n,Agree n V ⟨fun k=>if k=g then some o else V.H k,V.σ,V.ov⟩:=fun n=>⟨hle,fun _ _=>⟨rfl,rfl⟩⟩
     cases d with
     |dead=>trivial
     | cells cs e =>
       obtain⟨us,h1,h2⟩:=h
       refine⟨us,h1,h2.mono fun s u _ hs=>?_⟩
       cases s with
       |pd p=>exact PR.mono hle hs
       |loc i o=>exact hs
       |own i=>exact hs
       |oat i j sz o=>exact hs
       | fn f x y =>
         obtain⟨ua,ub,q1,q2,q3⟩:=hs
         refine⟨ua,ub,q1,q2.mono fun a b _ hab=>?_,q3.mono fun a b _ hab=>?_⟩ <;> cases a <;> first |exact PR.mono hle hab |exact hab
     | own e t l =>
       obtain⟨xs,h1,h2,h3⟩:=h
       exact⟨xs,h1,h2.mono fun _ _ _ hp=>hp.mono hle,h3⟩
     |obj o=>cases o <;> exact h
   ·trivial
 · intro j d b hd hb'
   rw[hblk]at hb'
   rcases hget j d hd with⟨hj,hd⟩ |⟨rfl,rfl⟩
   · have h:=r.base j d b hd hb'
     refine⟨h.1,?_⟩
     have:b≠g:=fun he=>hj (r.inj j i d c b hd hc hb' (by rw[he];exact hb))
     simp[this,h.2]
   ·simp[Chunk.blk]at hb'
 · intro j k d d' b hd hd' hb1 hb2
   rw[hblk]at hb1 hb2
   rcases hget j d hd with⟨hj,hd1⟩ |⟨hj,hd1⟩ <;> rcases hget k d' hd' with⟨hk,hd2⟩ |⟨hk,hd2⟩
   ·exact r.inj j k d d' b hd1 hd2 hb1 hb2
   ·subst hd2;simp[Chunk.blk]at hb2
   ·subst hd1;simp[Chunk.blk]at hb1
   ·rw[hj,hk]
theorem WOk.kill(r:WOk Γ ck V w)(i:Nat):WOk Γ (ck.set i .dead) V w:=by
 have hget:∀(j:Nat) d,(ck.set i .dead)[j]?=some d→ck[j]?=some d∨d = .dead:=by
  intro j d hd
  rcases iE (k:=some i) hd with h |h
  ·exact .inr h
  ·exact .inl h.1
 refine{ext:=r.ext,imm:=r.imm,hle:=r.hle,frz:=r.frz,agr:=r.agr,own:=?_,base:=?_,inj:=?_}
 · intro j d hd
   rcases hget j d hd with h |rfl
   ·exact r.own j d h
   ·trivial
 · intro j d b hd hb
   rcases hget j d hd with h |rfl
   ·exact r.base j d b h hb
   ·simp[Chunk.blk]at hb
 · intro j k d d' b hd hd' hb1 hb2
   rcases hget j d hd with h |rfl
   · rcases hget k d' hd' with h' |rfl
     ·exact r.inj j k d d' b h h' hb1 hb2
     ·simp[Chunk.blk]at hb2
   ·simp[Chunk.blk]at hb1
theorem WOk.freezeOwn(r:WOk Γ ck V w){i:Nat}{e:TypeId}{t:ETy}{l:List t.den}(hc:ck[i]?=some (.own e t l)) :
 ∃H',HLe V.H H'∧WOk Γ (ck.set i .dead) ⟨H',V.σ,V.ov⟩ w∧PR H' (.lst t l) (V.ov i):=by
 obtain⟨xs,h1,h2,h3⟩:=r.own i _ hc
 rcases h1.2 with⟨q1,q2⟩ |⟨g,cap,cur,q1,q2,q3,q4,q5,q6,q7⟩
 · have:l=[]:=bE q2
   subst this
   exact⟨V.H,HLe.refl _,r.kill i,by rw[q1];exact .emp t none 0 (fun _=>rfl)⟩
 · obtain⟨g1,g2,g3⟩:=r.freeze hc (by simp[Chunk.blk,q1,Value.ownBlock]) q3
   refine⟨_,g1,g3,?_⟩
   rw[q1]
   refine .lst t l g 0 cap cur e (0,0) (by simp) q4 q5 (by rw[q6,ba];exact bQ _ q4) fun j x hx k p hp u hu=>?_
   have h5:=mX hx hp
   obtain⟨u',h6,h7⟩:=h2.get h5
   rw[←q7,List.getElem?_take]at h6
   split at h6
   · rw[ba]at hu
     have:cur[j * t.size+k]?=some u':=by simpa using h6
     rw[this]at hu
     simp only[aa]at hu
     subst hu
     exact h7.mono g1
   ·cases h6
end
section
variable{Γ:Ctx}{st:ST}{V:Vn}{a:Act}{w:World}
theorem Rel.turn(r:Rel Γ st V a w)(hwf:st.wf=true){V':Vn}{ck':List Chunk}{w':World}(hag:Agree st.ck.length V V')(hw:WOk Γ ck' V' w')(hl:st.ck.length≤ck'.length):Rel Γ {st with ck:=ck'} V' a w':=by
 simp only[ST.wf,af]at hwf
 exact{size:=r.size,defers:=r.defers,slots:=fun t sv hm=>(r.slots t sv hm).agree hag (an.1 hwf.1 _ hm),wok:=hw,few:=⟨r.few.1,aC r.few.2 hl⟩}
end
abbrev Tys:=List (Nat×ETy)
def Hz:Tys→Nat→Option ETy
 |[],_=>none
 |p::r,e=>bif Nat.beq p.1 e then some p.2 else Hz r e
def wO(ck:List Chunk):SC→Bool
 |.own i=>match ck[i]? with |some (.own _ _ _)=>true |_=>false
 |_=>true
def oy(ck:List Chunk):SX→Option (List SC)
 |.c s=>bif wO ck s then some [s]else none
 |.agg cs=>bif cs.all (wO ck)then some cs else none
def kJ(st:ST)(g:Option (Nat×Bool)):List (Nat×Operand)→Option (List (Nat×List SC))
 |[]=>some []
 | (i,x)::r=>match(bt st g x).bind (oy st.ck),kJ st g r with
   |some v,some l=>some ((i,v)::l)
   |_,_=>none
def mo(place:Nat→Option (Nat×Nat))(cells:List SC):List (Nat×List SC)→Option (List SC)
 |[]=>some cells
 | (i,v)::rest=>match place i with
   |none=>none
   |some (off,size)=>bif Nat.beq v.length size&&Nat.ble (off+v.length) cells.length then mo place (cells.take off++v++cells.drop (off+v.length)) rest else none
def l8(P:Program)(t:TypeId):Option (List SC):=(P.info? t).bind fun i=>i.zero.bind fun z=>bif z.cells.toList.all (fun v=>v.oneCell')then some (z.cells.toList.map fun v=>.pd (ofC v))else none
def CA(z:List SC):Nat→List SC
 |0=>[]
 |n+1=>z++CA z n
def jj:List SC→Option (List PD)
 |[]=>some []
 |.pd p::r=>(jj r).map (p::·)
 |_::_=>none
def oC(t:ETy):Nat→List SC→Option (List t.den)
 |0,cs=>match cs with | []=>some [] |_=>none
 | n+1,cs=>match(jj (cs.take t.size)).bind t.dec,oC t n (cs.drop t.size)with
   |some x,some l=>some (x::l)
   |_,_=>none
def opM(P:Program)(tys:Tys)(st:ST):Op→Option (SX×List Chunk)
 | .box e x=>match(bt st none x),gE P e with
   | some sv,some n=>match oy st.ck sv with
     |some cs=>bif Nat.beq cs.length n&&st.wf&&cs.all (SC.lt st.ck.length)then some (.c (.loc st.ck.length 0),st.ck++[.cells cs e])else none
     |none=>none
   |_,_=>none
 | .alloc e=>match l8 P e with
   |some z=>bif st.wf then some (.c (.loc st.ck.length 0),st.ck++[.cells z e])else none
   |none=>none
 | .makeMap t none=>match P.underlying t with
   | some (.map kt _)=>match P.underlying kt with
     |some (.int _)=>bif st.wf then some (.c (.own st.ck.length),st.ck++[.obj (.set [] 0)])else none
     |_=>none
   |_=>none
 | .range t x=>match bt st none x,P.underlying t with
   | some (.c (.own j)),some (.map _ _)=>match st.ck[j]? with
     |some (.obj (.set _ clk))=>bif st.wf&&Nat.blt j st.ck.length then some (.c (.loc st.ck.length 0),st.ck++[.obj (.it j [] clk)])else none
     |_=>none
   |_,_=>none
 | .buildSlice t len parts=>match P.underlying t with
   | some (.slice e)=>match gE P e,l8 P e,kJ st none parts.toList,Hz tys e with
     | some n,some z,some ps,some ty =>
       match(mo (fun i=>some (i * n,n)) (CA z len) ps).bind (oC ty len)with
       |some l=>bif st.wf&&Nat.ble (len * n) 16777216&&Nat.beq n ty.size&&Nat.beq z.length n&&Nat.beq l.length len then some (.c (.own st.ck.length),st.ck++[.own e ty l])else none
       |none=>none
     |_,_,_,_=>none
   |_=>none
 |_=>none
def opS(P:Program)(st:ST):Op→Option (Option Prop×List Chunk)
 | .mapUpdate t m k v=>match bt st none m,bt st none k,bt st none v,P.underlying t with
   | some (.c (.own j)),some (.c (.pd (.int .i64 n))),some (.c (.pd (.bool true))),some (.map kt _)=>match st.ck[j]?,P.underlying kt with
     |some (.obj (.set es clk)),some (.int _)=>some (none,st.ck.set j (.obj (.set (jD es clk n) (ky es clk n))))
     |_,_=>none
   |_,_,_,_=>none
 | .store t ad x=>match bt st none ad,(bt st none x).bind (oy st.ck),gE P t with
   | some (.c (.loc i off)),some vs,some n=>match st.ck[i]? with
     |some (.cells cs e)=>bif Nat.beq vs.length n&&Nat.ble (off+n) cs.length then some (none,st.ck.set i (.cells (cs.take off++vs++cs.drop (off+n)) e))else none
     |_=>none
   | some (.c (.oat i j sz off)),some vs,some n=>match st.ck[i]? with
     | some (.own e ty l)=>match(jj (((ty.enc (ty.get l j)).map SC.pd).take off++vs++((ty.enc (ty.get l j)).map SC.pd).drop (off+n))).bind ty.dec with
       |some x=>bif Nat.beq vs.length n&&Nat.ble (off+n) ty.size&&Nat.beq sz ty.size then some (some (j<l.length),st.ck.set i (.own e ty (l.set j x)))else none
       |none=>none
     |_=>none
   |_,_,_=>none
 |_=>none
def opB(P:Program)(st:ST)(g:Option (Nat×Bool)):Op→Option SX
 | .build t parts=>match P.underlying t,l8 P t,kJ st g parts.toList with
   | some (.struct fs),some z,some ps=>match szList P fs.toList with
     |some places=>(mo (places[·]?) z ps).map .agg
     |none=>none
   | some (.array _ e),some z,some ps=>match gE P e with
     |some n=>(mo (fun i=>some (i * n,n)) z ps).map .agg
     |none=>none
   |_,_,_=>none
 |_=>none
where szList (P:Program):List Field→Option (List (Nat×Nat))
 |[]=>some []
 | f::r=>match gE P f.type,szList P r with
   |some n,some l=>some ((f.offset,n)::l)
   |_,_=>none
section
variable{Γ:Ctx}{P:Program}{st:ST}{V:Vn}{a:Act}{w:World}
theorem vE{ck:List Chunk}(r:WOk Γ ck V w){s:SC}(h:wO ck s=true){u:Value}(hr:s.R V u):u.oneCell'=true:=by
 cases s with
 |pd p=>exact PR.one hr
 |loc i o=>have:u=_:=hr;subst this;rfl
 |oat i j sz o=>have:u=_:=hr;subst this;rfl
 |fn f x y=>obtain⟨ua,ub,e,_⟩:=hr;subst e;rfl
 | own i =>
   simp only[wO]at h
   split at h
   · rename_i e t l hck
     obtain⟨xs,h1,_⟩:=r.own i _ hck
     obtain⟨ad,c,h2,_⟩:=Cf h1
     have:u=_:=hr
     rw[this,h2];rfl
   ·cases h
theorem HR{u:Value}(h:u.oneCell'=true):u.cells.toList=[u]:=by
 cases u <;> first |rfl |(simp[Value.oneCell']at h)
theorem kz{ck:List Chunk}(r:WOk Γ ck V w){sx:SX}{cs:List SC}(h:oy ck sx=some cs){u:Value}(hr:sx.R V u):All2 (SC.R V) cs u.cells.toList∧∀v∈u.cells.toList,v.oneCell'=true:=by
 cases sx with
 | c s =>
   simp only[oy]at h
   cases hb:wO ck s
   ·rw[hb]at h;simp at h
   · rw[hb]at h
     simp only[cond_true,aa]at h
     subst h
     have h1:=vE r hb hr
     rw[HR h1]
     exact⟨.cons hr .nil,by simp[h1]⟩
 | agg cs' =>
   simp only[oy]at h
   cases hb:cs'.all (wO ck)
   ·rw[hb]at h;simp at h
   · rw[hb]at h
     simp only[cond_true,aa]at h
     subst h
     obtain⟨us,e,h1⟩:=hr
     subst e
     have e2:(Value.agg us.toArray).cells.toList=us:=rfl
     rw[e2]
     refine⟨h1,fun v hv=>?_⟩
     obtain⟨i,hi⟩:=List.getElem?_of_mem hv
     obtain⟨s,h2,h3⟩:=h1.get' hi
     exact vE r (an.1 hb s (List.mem_of_getElem? h2)) h3
def pX(V:Vn)(p:Nat×List SC)(q:Nat×Value):Prop:=p.1=q.1∧All2 (SC.R V) p.2 q.2.cells.toList∧∀v∈q.2.cells.toList,v.oneCell'=true
theorem kK(r:Rel Γ st V a w){g:Option (Nat×Bool)}(hg:fN a g):∀(l:List (Nat×Operand)) (ps:List (Nat×List SC)),kJ st g l=some ps→All2 (pX V) ps (l.map fun p=>(p.1,a.eval p.2))
 |[],ps,h=>by simp[kJ]at h;subst h;exact .nil
 | (i,x)::l,ps,h=>by
   simp only[kJ]at h
   split at h
   · rename_i v l' h1 h2
     simp only[aa]at h
     subst h
     simp only[bm]at h1
     obtain⟨sx,h3,h4⟩:=h1
     obtain⟨h5,h6⟩:=kz r.wok h4 (aJ r hg h3)
     exact .cons ⟨rfl,h5,h6⟩ (kK r hg l l' h2)
   ·simp at h
theorem s9:∀(cs:List Value) (k off:Nat) (cells:Array Value),off+k+cs.length≤cells.size →
 ((cs.zipIdx k).foldl (fun(acc:Array Value) (p:Value×Nat)=>acc.setIfInBounds (off+p.2) p.1) cells).toList=cells.toList.take (off+k)++cs++cells.toList.drop (off+k+cs.length)
 |[],k,off,cells,h=>by simp
 | c::cs,k,off,cells,h=>by
   simp only[ax]at h
   simp only[List.zipIdx_cons,bT]
   rw[s9 cs (k+1) off _ (by rw[du];omega)]
   simp only[Array.toList_setIfInBounds,ax]
   have hlt:off+k<cells.toList.length:=by rw[cl];omega
   rw[List.take_set,List.drop_set]
   rw[show off+(k+1)=off+k+1 from by omega]
   rw[aL hlt]
   rw[List.set_append_right _ _ (by simp only[a6];omega)]
   have hl:(List.take (off+k) cells.toList).length=off+k:=by rw[a6];omega
   simp only[hl,eY,List.set_cons_zero]
   rw[if_pos (by omega)]
   have e3:off+k+1+cs.length=off+k+(cs.length+1):=by omega
   rw[e3]
   simp
theorem lr (place:Nat→Option (Nat×Nat)) {qs:List (Nat×Value)} {ps:List (Nat×List SC)} (hp:All2 (pX V) ps qs):∀{cells r:List SC} {us:List Value},mo place cells ps=some r→All2 (SC.R V) cells us →
 (∀v∈us,v.oneCell'=true)→∃rs,Instr.fill place us.toArray qs=some rs.toArray∧All2 (SC.R V) r rs∧∀v∈rs,v.oneCell'=true:=by
 induction hp with
 |nil=>intro cells r us h hu h1;simp[mo]at h;subst h;exact⟨us,rfl,hu,h1⟩
 | @cons p q ps qs h0 _ ih =>
   intro cells r us h hu h1
   obtain⟨i,v⟩:=p
   obtain⟨i',v'⟩:=q
   obtain⟨e,h2,h3⟩:=h0
   simp only at e h2 h3
   subst e
   simp only[mo]at h
   split at h
   ·simp at h
   · rename_i off size hpl
     cases hb:(Nat.beq v.length size&&Nat.ble (off+v.length) cells.length)
     ·rw[hb]at h;simp at h
     · rw [hb]at h
       simp only[cond_true]at h
       simp only[af]at hb
       have h4:=ak hb.1
       have h5:=aB hb.2
       have hvl:=h2.length
       have hcl:=hu.length
       have hsz:v'.cells.toList.length=v'.cells.size:=cl
       obtain⟨rs,g1,g2,g3⟩:=ih (us:=us.take off++v'.cells.toList++us.drop (off+v'.cells.toList.length)) h (((hu.take off).append h2).append (by rw[h2.length];exact hu.drop _)) (by
        intro x hx
        rcases bK.1 hx with hx |hx
        · rcases bK.1 hx with hx |hx
          ·exact h1 x (List.mem_of_mem_take hx)
          ·exact h3 x hx
        ·exact h1 x (List.mem_of_mem_drop hx))
       refine⟨rs,?_,g2,g3⟩
       rw[←g1]
       conv=>lhs;unfold Instr.fill
       simp only[hpl]
       rw[if_neg (by simp only[List.size_toArray,ne_eq,aN,decide_eq_true_eq,gt_iff_lt,not_or,Decidable.not_not,Nat.not_lt];omega)]
       congr 1
       apply dQ.1
       rw[←Array.foldl_toList,Array.toList_zipIdx]
       have:=s9 v'.cells.toList 0 off us.toArray (by simp[cl];omega)
       simpa using this
theorem nu{w:World}{t:TypeId}{z:List SC}(h:l8 P t=some z):∃v,(zeroValue t).run P w = .ok v w∧All2 (SC.R V) z v.cells.toList∧∀u∈v.cells.toList,u.oneCell'=true:=by
 unfold l8 at h
 simp only[bm]at h
 obtain⟨i,hi,v,hv,h⟩:=h
 cases hb:v.cells.toList.all fun v=>v.oneCell'
 ·rw[hb]at h;simp at h
 · rw[hb]at h
   simp only[cond_true,aa]at h
   subst h
   have h1:=an.1 hb
   refine⟨v,by simp[zeroValue,typeInfo,hi,hv,go_sem],All2.of (by simp) fun i p u hp hu=>?_,fun u hu=>h1 u hu⟩
   simp only[List.getElem?_map,hu,bu,aa]at hp
   subst hp
   exact JY (h1 u (List.mem_of_getElem? hu))
theorem vU{w:World}:∀(fs:List Field) (l:List (Nat×Nat)),opB.szList P fs=some l→(fs.mapM (m:=Sem) fun f=>do pure (f.offset,←sizeOf f.type)).run P w = .ok l w
 |[],l,h=>by simp[opB.szList]at h;subst h;rfl
 | f :: fs,l,h=>by
   simp only[opB.szList]at h
   split at h
   · rename_i n l' h1 h2
     simp only[aa]at h;subst h
     simp only[List.mapM_cons,Sem.run_bind,fU h1,Result.andThen_ok,run_pure',vU fs l' h2]
   ·simp at h
theorem J1(r:Rel Γ st V a w){g:Option (Nat×Bool)}(hg:fN a g)
 {o:Oper} {sx:SX} (h:opB P st g o.op=some sx):∃v,(execOp a.eval o).run P w = .ok (.value v) w∧sx.R V v:=by
 obtain⟨dst,op,ty,pos,after,guard⟩:=o
 simp only at h
 cases op <;> first |(simp[opB]at h;done) |skip
 rename_i t parts
 simp only[opB]at h
 have hparts:∀ps,kJ st g parts.toList=some ps→All2 (pX V) ps (parts.map fun p=>(p.1,a.eval p.2)).toList:=fun ps hp=>by
  rw[dc];exact kK r hg _ _ hp
 split at h
 · rename_i fs z ps hu hz hp
   split at h
   · rename_i places hpl
     simp only[aj]at h
     obtain⟨cells,hf,rfl⟩:=h
     obtain⟨v,hv,hvz,hv1⟩:=nu (V:=V) (w:=w) hz
     obtain⟨rs,g1,g2,_⟩:=lr _ (hparts ps hp) hf hvz hv1
     refine⟨.agg rs.toArray,?_,rs,rfl,g2⟩
     simp only[execOp]
     refine bo ?_
     have hmm:(fs.mapM (m:=Sem) fun f=>do pure (f.offset,←sizeOf f.type)).run P w = .ok places.toArray w:=by
      have:=vU (w:=w) fs.toList places hpl
      rw[Array.mapM_eq_mapM_toList]
      simp only[map_eq_pure_bind,Sem.run_bind,this,Result.andThen_ok]
      rfl
     have e:(fun i:Nat=>places.toArray[i]?)=(fun i:Nat=>places[i]?):=by funext i;simp
     rw[fm]at g1
     simp only[Instr.build,Sem.run_bind,hv,Result.andThen_ok,run_underlying hu,hmm]
     rw[e,g1];rfl
   ·simp at h
 · rename_i n' e z ps hu hz hp
   split at h
   · rename_i n hn
     simp only[aj]at h
     obtain⟨cells,hf,rfl⟩:=h
     obtain⟨v,hv,hvz,hv1⟩:=nu (V:=V) (w:=w) hz
     obtain⟨rs,g1,g2,_⟩:=lr _ (hparts ps hp) hf hvz hv1
     refine⟨.agg rs.toArray,?_,rs,rfl,g2⟩
     simp only[execOp]
     refine bo ?_
     rw[fm]at g1
     simp only[Instr.build,Sem.run_bind,hv,Result.andThen_ok,run_underlying hu,fU hn,g1]
     rfl
   ·simp at h
 ·simp at h
theorem ry{z:List SC}{us:List Value}(h:All2 (SC.R V) z us):∀n,∃vs,All2 (SC.R V) (CA z n) vs∧vs.length=n * us.length∧∀i,i<n * us.length→vs[i]?=us[i % us.length]?
 |0=>⟨[],.nil,by simp,by simp⟩
 | n+1=>by
   obtain⟨vs,h1,h2,h3⟩:=ry h n
   refine⟨us++vs,h.append h1,by rw[au,h2,cN];omega,fun i hi=>?_⟩
   by_cases hlt:i<us.length
   ·rw[List.getElem?_append_left hlt,Nat.mod_eq_of_lt hlt]
   ·rw[List.getElem?_append_right (by omega),h3 _ (by rw[cN]at hi;omega),←Nat.mod_eq_sub_mod (by omega)]
theorem kL:∀{cs:List SC} {ps:List PD},jj cs=some ps→∀{us:List Value},All2 (SC.R V) cs us→All2 (PR V.H) ps us
 |[],ps,h,us,hu=>by simp[jj]at h;subst h;cases hu;exact .nil
 | .pd p::cs,ps,h,us,hu=>by
   simp only[jj,aj]at h
   obtain⟨l,h1,rfl⟩:=h
   cases hu with |cons g1 g2=>exact .cons g1 (kL h1 g2)
 |.loc _ _::cs,ps,h,us,hu=>by simp[jj]at h
 |.own _::cs,ps,h,us,hu=>by simp[jj]at h
 |.oat _ _ _ _::cs,ps,h,us,hu=>by simp[jj]at h
 |.fn _ _ _::cs,ps,h,us,hu=>by simp[jj]at h
theorem pR{t:ETy}:∀{n:Nat} {cs:List SC} {l:List t.den},oC t n cs=some l→∀{us:List Value},All2 (SC.R V) cs us→All2 (PR V.H) (l.flatMap t.enc) us
 | 0,cs,l,h,us,hu=>by
   simp only[oC]at h
   split at h
   ·simp only[aa]at h;subst h;cases hu;exact .nil
   ·simp at h
 | n + 1,cs,l,h,us,hu=>by
   simp only[oC]at h
   split at h
   · rename_i x l' h1 h2
     simp only[aa]at h;subst h
     simp only[bm]at h1
     obtain⟨ps,h3,h4⟩:=h1
     rw[bF,←dp t.size us]
     exact(ETy.dec_PR h4 (kL h3 (hu.take _))).append (pR h2 (hu.drop _))
   ·simp at h
end
end Go.Ev
