/- An executor for function bodies of the model over data, part PV: one operation of a statement whose order Go leaves open, by itself. Conditions: the operation's own. -/
import Derived.Test.YtlhgnjmdopjpeaaGreatDoorPU
namespace Go.Ev
open Go.RowKit
theorem RC.refs_map{ρ:Nat→Nat}(s:RC):(s.map ρ).refs=s.refs.map ρ:=by cases s <;> rfl
theorem fT{α:Type}{ρ:Nat→Nat}{f:α→List Nat}{g:α→α}(h:∀x,f (g x)=(f x).map ρ)(l:List α):(l.map g).flatMap f=(l.flatMap f).map ρ:=by
 induction l with
 |nil=>rfl
 |cons a l ih=>simp only[aq,bF,h,ih,bC]
theorem SC.refs_map{ρ:Nat→Nat}(s:SC):(s.map ρ).refs=s.refs.map ρ:=by
 cases s with
 |fn f a b=>simp only[SC.map,SC.refs,bC];rw[fT RC.refs_map,fT RC.refs_map]
 |_=>rfl
theorem Chunk.refs_map{ρ:Nat→Nat}(s:Chunk):(s.map ρ).refs=s.refs.map ρ:=by
 cases s with
 |cells cs e=>simp only[Chunk.map,Chunk.refs];rw[fT SC.refs_map]
 |obj o=>cases o <;> rfl
 |_=>rfl
theorem mb{c:Chunk}{n:Nat}(h:c.lt n=true):∀z∈c.refs,z<n:=by
 have hrl:∀r:RC,r.lt n=true→∀z∈r.refs,z<n:=by
  intro r hr z hz
  cases r with
  |pd p=>simp[RC.refs]at hz
  |loc i o=>simp only[RC.refs,aQ]at hz;subst hz;exact aB hr
 have hsl:∀c:SC,c.lt n=true→∀z∈c.refs,z<n:=by
  intro c hc z hz
  cases c with
  |pd p=>simp[SC.refs]at hz
  |loc i o=>simp only[SC.refs,aQ]at hz;subst hz;exact aB hc
  |own i=>simp only[SC.refs,aQ]at hz;subst hz;exact aB hc
  |oat i j sz o=>simp only[SC.refs,aQ]at hz;subst hz;exact aB hc
  | fn f a b =>
    simp only[SC.lt,af]at hc
    rcases bK.1 hz with hz |hz
    ·obtain⟨r,hr,hz⟩:=a7.1 hz;exact hrl r (an.1 hc.1 r hr) z hz
    ·obtain⟨r,hr,hz⟩:=a7.1 hz;exact hrl r (an.1 hc.2 r hr) z hz
 intro z hz
 cases c with
 |dead=>simp[Chunk.refs]at hz
 |own _ _ _=>simp[Chunk.refs]at hz
 | obj o =>
   cases o with
   |set=>simp[Chunk.refs,Ob.refs]at hz
   |it j d c=>simp only[Chunk.refs,Ob.refs,aQ]at hz;subst hz;exact aB h
 | cells cs e =>
   obtain⟨c,hc,hz⟩:=a7.1 hz
   exact hsl c (an.1 h c hc) z hz
theorem rm{ck1 ck2:List Chunk}:∀{m:List Nat},(∀x∈m,ck1[x]?=ck2[x]?)→fu ck1 m=fu ck2 m
 |[],_=>rfl
 | x::m,h=>by
   simp only[fu]
   rw[h x az,rm fun y hy=>h y (aD _ hy)]
theorem xm{m:List Nat}{y:Nat}{c:Chunk}:∀{cs:List Chunk},(∀(i j:Nat) x,m[i]?=some x→m[j]?=some x→i=j)→∀j:Nat,m[j]?=some y→cs[j]?=some c→ee (m.zip cs) y=some c:=by
 induction m with
 |nil=>intro cs _ j hj _;simp at hj
 | cons x m ih =>
   intro cs hi j hj hc
   cases cs with
   |nil=>simp at hc
   | cons d cs =>
     simp only[List.zip_cons_cons,ee]
     cases hb:Nat.beq x y
     · simp only[cond_false]
       cases j with
       |zero=>simp only[List.getElem?_cons_zero,aa]at hj;subst hj;simp at hb
       | succ j =>
         exact ih (fun a b z ha hb=>by have:=hi (a+1) (b+1) z (by simpa using ha) (by simpa using hb);omega) j (by simpa using hj) (by simpa using hc)
     · simp only[cond_true]
       have e:=ak hb
       subst e
       have:=hi 0 j x rfl hj
       subst this
       simpa using hc
theorem jq{m:List Nat}{y:Nat}:∀{cs:List Chunk},(∀j:Nat,m[j]?≠some y)→ee (m.zip cs) y=none:=by
 induction m with
 |nil=>intro cs _;rfl
 | cons x m ih =>
   intro cs h
   cases cs with
   |nil=>rfl
   | cons d cs =>
     simp only[List.zip_cons_cons,ee]
     cases hb:Nat.beq x y
     ·exact ih fun j hj=>h (j+1) (by simpa using hj)
     ·exact absurd (by rw[ak hb];rfl) (h 0)
theorem qB{x y:Nat}{c:Chunk}:∀{l:List (Nat×Chunk)},ee (l++[(x,c)]) y=match ee l y with |some d=>some d |none=>bif Nat.beq x y then some c else none
 |[]=>rfl
 | p::l=>by
   simp only[bO,ee]
   rw[qB]
   cases Nat.beq p.1 y <;> rfl
theorem xS{i y:Nat}{c:Chunk}:∀{ef:List (Nat×Chunk)},(i,y,c)∈ef.map (fun q=>(i,q.1,q.2))→ee ef y≠none
 |[],h=>by simp at h
 | p :: ef,h=>by
   simp only[ee]
   cases hb:Nat.beq p.1 y
   · simp only[cond_false]
     rcases aI.1 h with h |h
     · simp only[ae]at h
       rw[h.2.1]at hb;simp at hb
     ·exact xS h
   ·simp
def RnW(ρ ρ':Nat→Nat)(m:Nat)(c c':List Chunk):Prop :=
 (∀(j:Nat) (x':Chunk),c'[j]?=some x'→x' = .dead∨∃x,c[ρ' j]?=some x∧x'=x.map ρ∧ρ (ρ' j)=j∧∀i∈x.refs,ρ' (ρ i)=i) ∧
 (∀j,j<m→ρ' j=j)
def Rn(m:Nat)(c c':List Chunk):Prop:=∃ρ ρ':Nat→Nat,RnW ρ ρ' m c c'
theorem Rn.refl(m:Nat)(c:List Chunk):Rn m c c:=by
 refine⟨id,id,fun j x' h=>.inr ⟨x',h,?_,rfl,fun i _=>rfl⟩,fun j _=>rfl⟩
 have hR:∀r:RC,r.map id=r:=fun r=>by cases r <;> rfl
 have hS:∀s:SC,s.map id=s:=fun s=>by
  cases s with
  | fn f a b =>
    have e:∀l:List RC,l.map (RC.map id)=l:=fun l=>(fF fun r _=>hR r).trans (List.map_id l)
    show SC.fn f (a.map (RC.map id)) (b.map (RC.map id))=_
    rw[e,e]
  |_=>rfl
 cases x' with
 | cells cs e =>
   show _=Chunk.cells (cs.map (SC.map id)) e
   have e2:cs.map (SC.map id)=cs:=(fF fun s _=>hS s).trans (List.map_id cs)
   rw[e2]
 |obj o=>cases o <;> rfl
 |_=>rfl
section
variable{Γ:Ctx}
theorem WOk.renum{ck ck':List Chunk}{V:Vn}{w:World}(r:WOk Γ ck V w){m:Nat}(hm:Γ.m≤m){ρ ρ':Nat→Nat}(h:RnW ρ ρ' m ck ck'):∃V':Vn,HLe V.H V'.H∧WOk Γ ck' V' w∧∀l:List Nat,(∀i∈l,ρ' (ρ i)=i)→Turned ρ V V' l:=by
 obtain⟨h1,h2⟩:=h
 let V2:Vn:=⟨V.H,fun j=>V.σ (ρ' j),fun j=>V.ov (ρ' j)⟩
 have hlive:∀(j:Nat) (x':Chunk),ck'[j]?=some x'→x'≠.dead→∃x,ck[ρ' j]?=some x∧x'=x.map ρ∧ρ (ρ' j)=j∧Turned ρ V V2 (ρ' j::x.refs):=by
  intro j x' hj hne
  rcases h1 j x' hj with e |⟨x,g1,g2,g3,g4⟩
  ·exact absurd e hne
  · refine⟨x,g1,g2,g3,HLe.refl _,fun i hi=>?_⟩
    have e:ρ' (ρ i)=i:=by
     rcases aI.1 hi with rfl |hi
     ·rw[g3]
     ·exact g4 i hi
    exact⟨congrArg V.σ e,congrArg V.ov e⟩
 have hblk:∀(j:Nat) (x':Chunk) (b:Nat),ck'[j]?=some x'→x'.blk V2 j=some b→∃x,ck[ρ' j]?=some x∧x.blk V (ρ' j)=some b∧ρ (ρ' j)=j:=by
  intro j x' b hj hb
  obtain⟨x,g1,g2,g3,g4⟩:=hlive j x' hj (fun e=>by subst e;cases hb)
  refine⟨x,g1,?_,g3⟩
  rw[g2]at hb
  have:=Chunk.blk_map (c:=x) (i:=ρ' j) (g4.sub fun i hi=>by rcases aQ.1 hi with rfl;exact az)
  rw[g3]at this
  rw[←this];exact hb
 refine⟨V2,HLe.refl _,{ext:=r.ext,imm:=r.imm,hle:=r.hle,frz:=r.frz,agr:=?_,own:=?_,base:=?_,inj:=?_},fun l hl=>⟨HLe.refl _,fun i hi=>⟨congrArg V.σ (hl i hi),congrArg V.ov (hl i hi)⟩⟩⟩
 · intro i hi
   have e:=h2 i (by omega)
   have h3:=r.agr i hi
   exact⟨(congrArg V.σ e).trans h3.1,(congrArg V.ov e).trans h3.2⟩
 · intro j x' hj
   by_cases hd:x' = .dead
   ·subst hd;trivial
   · obtain⟨x,g1,g2,g3,g4⟩:=hlive j x' hj hd
     have:=Chunk.holds_map g4 (r.own _ _ g1)
     rw[g3]at this
     rw[g2];exact this
 · intro j x' b hj hb
   obtain⟨x,g1,g2,_⟩:=hblk j x' b hj hb
   exact r.base _ x b g1 g2
 · intro i j c d b hc hd hb hb2
   obtain⟨x,g1,g2,g3⟩:=hblk i c b hc hb
   obtain⟨y,k1,k2,k3⟩:=hblk j d b hd hb2
   have:=r.inj _ _ x y b g1 k1 g2 k2
   rw[←g3,←k3,this]
end
def Upd(ck:List Chunk)(ef:List (Nat×Chunk))(L:List Chunk):Prop :=
 L.length=ck.length∧∀(y:Nat) c,L[y]?=some c→ee ef y=some c∨(ee ef y=none∧ck[y]?=some c)
theorem Dz{ck:List Chunk}{m:List Nat}{cs:List Chunk}(hm:gD m=true)(hl:m.length≤cs.length):Upd ck (m.zip cs) (ei ck m cs):=by
 refine⟨cM _ _ _,fun y c hy=>?_⟩
 rcases gy m ck cs (eS hm) hl y c hy with⟨j,h1,h2⟩ |⟨h1,h2⟩
 ·exact .inl (xm (eS hm) j h1 h2)
 ·exact .inr ⟨jq h1,h2⟩
section
variable{Γ:Ctx}{P:Program}{cfg:Cfg}{st s:ST}{V:Vn}{a:Act}{w:World}{ck:List Chunk}{ops:Array Oper}{fs:List FX}
theorem WOk.sub(r:WOk Γ ck V w){ck2:List Chunk}(h:∀(x:Nat) c,ck2[x]?=some c→c = .dead∨ck[x]?=some c):WOk Γ ck2 V w:=by
 refine{ext:=r.ext,imm:=r.imm,hle:=r.hle,frz:=r.frz,agr:=r.agr,own:=?_,base:=?_,inj:=?_}
 · intro j d hd
   rcases h j d hd with rfl |h
   ·trivial
   ·exact r.own j d h
 · intro j d b hd hb
   rcases h j d hd with rfl |h
   ·simp[Chunk.blk]at hb
   ·exact r.base j d b h hb
 · intro j k d d' b hd hd' hb1 hb2
   rcases h j d hd with rfl |h1
   ·simp[Chunk.blk]at hb1
   · rcases h k d' hd' with rfl |h2
     ·simp[Chunk.blk]at hb2
     ·exact r.inj j k d d' b h1 h2 hb1 hb2
theorem Cy{n x y:Nat}(h:y≠n):ren n x y=y:=by
 unfold ren
 cases hb:Nat.beq y n
 ·rfl
 ·exact absurd (ak hb) h
theorem Cz{n x:Nat}:ren n x n=x:=by simp[ren]
theorem WOk.move{c:Chunk}(r:WOk Γ (ck++[c]) V w){x:Nat}(hx:ck[x]?=some .dead)(hm:Γ.m≤x)(hr:∀d∈ck++[c],x ∉ d.refs) :
 ∃V',V'.H=V.H∧(∀y,y≠x→V'.σ y=V.σ y∧V'.ov y=V.ov y)∧(∀l,x ∉ l→Turned (ren ck.length x) V V' l) ∧
  WOk Γ ((ck.map (Chunk.map (ren ck.length x))).set x (c.map (ren ck.length x))) V' w:=by
 let V':Vn:=⟨V.H,fun y=>if y=x then V.σ ck.length else V.σ y,fun y=>if y=x then V.ov ck.length else V.ov y⟩
 have hxl:x<ck.length:=(List.getElem?_eq_some_iff.1 hx).1
 have hoth:∀y,y≠x→V'.σ y=V.σ y∧V'.ov y=V.ov y:=fun y hy=>⟨if_neg hy,if_neg hy⟩
 have hT:∀l,x ∉ l→Turned (ren ck.length x) V V' l:=by
  intro l hl
  refine⟨HLe.refl _,fun y hy=>?_⟩
  by_cases e:y=ck.length
  ·subst e;rw[Cz];exact⟨if_pos rfl,if_pos rfl⟩
  ·rw[Cy e];exact hoth y (fun e2=>hl (e2 ▸ hy))
 have hget:∀(i:Nat) d,((ck.map (Chunk.map (ren ck.length x))).set x (c.map (ren ck.length x)))[i]?=some d→∃j d0,(ck++[c])[j]?=some d0∧j≠x∧i=ren ck.length x j∧d=d0.map (ren ck.length x):=by
  intro i d hd
  by_cases e:i=x
  · subst e
    rw[List.getElem?_set_self (by simpa using hxl)]at hd
    simp only[aa]at hd
    exact⟨ck.length,c,by simp,by omega,Cz.symm,hd.symm⟩
  · rw[List.getElem?_set_ne (Ne.symm e),List.getElem?_map,aj]at hd
    obtain⟨d0,h1,rfl⟩:=hd
    have hi:=(List.getElem?_eq_some_iff.1 h1).1
    exact⟨i,d0,by rw[List.getElem?_append_left hi];exact h1,e,(Cy (by omega)).symm,rfl⟩
 have hblk:∀(j:Nat) (d0:Chunk),j≠x→(d0.map (ren ck.length x)).blk V' (ren ck.length x j)=d0.blk V j:=fun j d0 hj=>Chunk.blk_map (hT [j] (by simpa using Ne.symm hj))
 refine⟨V',rfl,hoth,hT,{ext:=r.ext,imm:=r.imm,hle:=r.hle,frz:=r.frz,agr:=?_,own:=?_,base:=?_,inj:=?_}⟩
 · intro i hi
   have h1:=hoth i (by omega)
   rw[h1.1,h1.2];exact r.agr i hi
 · intro i d hd
   obtain⟨j,d0,h1,h2,rfl,rfl⟩:=hget i d hd
   exact Chunk.holds_map (hT (j::d0.refs) (by
    simp only[aI,not_or]
    exact⟨Ne.symm h2,hr d0 (List.mem_of_getElem? h1)⟩)) (r.own j d0 h1)
 · intro i d b hd hb
   obtain⟨j,d0,h1,h2,rfl,rfl⟩:=hget i d hd
   rw[hblk j d0 h2]at hb
   exact r.base j d0 b h1 hb
 · intro i k d d' b hd hd' hb1 hb2
   obtain⟨j,d0,h1,h2,rfl,rfl⟩:=hget i d hd
   obtain⟨j',d0',g1,g2,rfl,rfl⟩:=hget k d' hd'
   rw[hblk j d0 h2]at hb1
   rw[hblk j' d0' g2]at hb2
   rw[r.inj j j' d0 d0' b h1 g1 hb1 hb2]
theorem SV.R_mono{V':Vn}(h1:V'.σ=V.σ)(h2:V'.ov=V.ov)(hle:HLe V.H V'.H){sv:SV}{v:Value}(h:sv.R V v):sv.R V' v :=
 SV.R_on hle (fun i _=>⟨by rw[h1],by rw[h2]⟩) h
theorem qI{v:Value}:∀{l ck:List Chunk} {V:Vn} {sv sv':SV} {q:Prop},WOk Γ (ck++l) V w→jK ck.length l sv=some sv'→(q→sv.R V v)→∃H',HLe V.H H'∧WOk Γ ck ⟨H',V.σ,V.ov⟩ w∧(q→sv'.R ⟨H',V.σ,V.ov⟩ v)
 | [],ck,V,sv,sv',q,r,h,hr=>by
   simp only[jK,aa]at h
   subst h
   rw[aO]at r
   exact⟨V.H,HLe.refl _,r,hr⟩
 | .own e t l0::l,ck,V,sv,sv',q,r,h,hr=>by
   simp only[jK]at h
   obtain⟨H1,m1,m2,m3⟩:=r.freezeOwn (i:=ck.length) (e:=e) (t:=t) (l:=l0) (by simp)
   have hset:(ck++Chunk.own e t l0::l).set ck.length .dead=(ck++[.dead])++l:=by simp
   rw[hset]at m2
   have hl:(ck++[Chunk.dead]).length=ck.length+1:=by simp
   rw[←hl]at h
   obtain⟨H2,k1,k2,k3⟩:=qI m2 h (fun hq=>SV.R_frz (V:=⟨H1,V.σ,V.ov⟩) (z:=.own ck.length t l0) m3 (SV.R_mono (V:=V) (V':=⟨H1,V.σ,V.ov⟩) rfl rfl m1 (hr hq)))
   exact⟨H2,m1.trans k1,k2.chop,k3⟩
 |.dead::l,ck,V,sv,sv',q,r,h,hr=>by simp[jK]at h
 |.cells cs e::l,ck,V,sv,sv',q,r,h,hr=>by simp[jK]at h
 |.obj o::l,ck,V,sv,sv',q,r,h,hr=>by simp[jK]at h
theorem JA(ht:TOk P cfg.tab Γ)(r:Rel Γ s V a w){g:Option (Nat×Bool)}(hg:fN a g){o:Oper}{f:Nat}{args:List SX}(hc:callee P cfg.tys s g o.op=some (f,args)){p:Option Prop}{sv:SV}(h:goB P cfg s f args=some (p,sv))(hp:Holds p) :
 o7 P o a w fun v w'=>Fr (fun _=>False) w w'∧sv.R V v:=by
 obtain⟨vs,h1,h2⟩:=ja (P:=P) r hg hc (B3 h)
 obtain⟨_,_,h3⟩:=qM ht r h hp h2
 refine .inr (.inr ⟨_,_,w,h1,h3.mono fun e w2 hq=>?_⟩)
 obtain⟨v,rfl,hr,hf,_⟩:=hq
 exact⟨v,rfl,hf,hr⟩
theorem vP(ht:TOk P cfg.tab Γ)(r:Rel Γ s V a w){g:Option (Nat×Bool)}(hg:fN a g){o:Oper}{p:Option Prop}{sv:SV}(h:G5 P cfg s g o.op=some (p,sv))(hp:Holds p) :
 o7 P o a w fun v w'=>Fr (fun _=>False) w w'∧sv.R V v:=by
 unfold G5 at h
 split at h
 · rename_i p' sx hv
   simp only[aa,ae]at h
   obtain⟨rfl,rfl⟩:=h
   obtain⟨v,h1,h2⟩:=pH r hg hv hp
   exact .inl ⟨v,w,h1,Fr.refl _ _,h2⟩
 · split at h
   · split at h
     · rename_i f args hc
       exact JA ht r hg hc h hp
     ·simp at h
   · split at h
     · rename_i l hl
       simp only[aa,ae]at h
       obtain⟨rfl,rfl⟩:=h
       obtain⟨v,h1,h2⟩:=yi (P:=P) r hl
       exact .inl ⟨v,w,h1,Fr.refl _ _,h2⟩
     · split at h
       · rename_i sx hx
         simp only[aa,ae]at h
         obtain⟨rfl,rfl⟩:=h
         obtain⟨v,w',h1,h2,h3⟩:=yf (P:=P) r hx
         exact .inl ⟨v,w',h1,h3,h2⟩
       · split at h
         · rename_i f args hc
           cases hb:within [] (args.flatMap SX.refs)
           ·rw[hb]at h;exact JA ht r hg hc h hp
           ·rw[hb]at h;simp at h
         ·simp at h
theorem J2 (r:Rel Γ s V a w) {o:Oper} {sx:SX} (h:opN P s o.op=some sx):∃v w' V',(execOp a.eval o).run P w = .ok (.value v) w'∧sx.R V' v∧WOk Γ s.ck V' w':=by
 obtain⟨dst,op,ty,pos,after,guard⟩:=o
 simp only at h
 cases op <;> first |(simp[opN]at h;done) |skip
 case buildSlice t len parts =>
  simp only[opN]at h
  split at h
  · rename_i e hu
    split at h
    · rename_i n z ps hn hz hp
      split at h
      · rename_i cells hf
        split at h
        · rename_i l hl
          cases hb:(s.wf&&Nat.beq n 1&&Nat.ble (len * n) 16777216&&Nat.beq z.length n&&Nat.beq l.length len&&cells.all (SC.lt s.ck.length))
          ·rw[hb]at h;simp at h
          · rw [hb]at h
            simp only[cond_true,aa]at h
            subst h
            simp only[af]at hb
            have h5:=ak hb.1.2
            obtain⟨rs,g1,hrun⟩:=wc r hu hn hz hp hf (aB hb.1.1.1.2) (ak hb.1.1.2)
            obtain⟨V1,hag,hH,e1,e2,hw1⟩:=r.wok.regrow (by have:=hb.1.1.1.1.1;simp only[ST.wf,af]at this;exact this.2) (aC r.few.1 r.few.2) none (c:=.cells cells e) (v':=undef) (s':=w.heap.size) (row:=none) (by simp) (gX w (.cells rs.toArray e)) (fun V' hag _ h1 _=>by
             refine⟨⟨rs,?_,lZ hag hb.2 g1⟩,fun b hb=>.inr ?_⟩
             ·rw[h1,heap_alloc_new]
             ·simp only[Chunk.blk,h1,aa]at hb;omega)
            have hc:(cZ none s.ck++[.cells cells e])[s.ck.length]?=some (.cells cells e):=by simp[cZ]
            have hcell:=heap_alloc_new w (Obj.cells rs.toArray e (0,0))
            obtain⟨k1,k2,k3⟩:=hw1.freeze hc (g:=w.heap.size) (by show some (V1.σ _)=_;rw[e1]) hcell
            have k4:WOk Γ (s.ck++[.dead]) ⟨fun k=>if k=w.heap.size then some (Obj.cells rs.toArray e (0,0))else V1.H k,V1.σ,V1.ov⟩ (w.alloc (.cells rs.toArray e)):=by
             have:(cZ none s.ck++[Chunk.cells cells e]).set s.ck.length .dead=s.ck++[.dead]:=by simp[cZ]
             rw[this]at k3;exact k3
            obtain⟨hll,uss,hus⟩:=mY hl g1
            refine⟨.slice (some ⟨w.heap.size,0,none⟩) len len,_,_,?_,?_,k4.chop⟩
            · simp only[execOp]
              exact bo hrun
            · rw[←h5]
              exact PR.fns (H:=fun k=>if k=w.heap.size then some (Obj.cells rs.toArray e (0,0))else V1.H k) l w.heap.size l.length rs.toArray e (0,0) uss (by simp) (av _) (fun i q hq=>⟨by simpa using(hus i q hq).1,(hus i q hq).2.length.symm⟩) (fun i q hq j p hp u hu=>by
               obtain⟨u',g4,g5⟩:=(hus i q hq).2.get hp
               rw[hu]at g4
               simp only[aa]at g4
               subst g4
               refine(g5.mono (H':=V1.H) (by rw[hH];exact HLe.refl _)).mono k1)
        ·simp at h
      ·simp at h
    ·simp at h
  ·simp at h
theorem HJ(ht:TOk P cfg.tab Γ)(r:Rel Γ s V a w){o:Oper}{p:Option Prop}{ret:SV}{ck':List Chunk}(h:On P cfg s o=some (p,ret,ck'))(hp:Holds p) :
 o7 P o a w fun v w'=>∃V',WOk Γ ck' V' w'∧(o.dst≠none→ret.R V' v):=by
 unfold On at h
 split at h
 · rename_i sx hn
   simp only[aa,ae]at h
   obtain⟨rfl,rfl,rfl⟩:=h
   obtain⟨v,w',V',h1,h2,h3⟩:=J2 (P:=P) r hn
   exact .inl ⟨v,w',h1,V',h3,fun _=>h2⟩
 split at h
 · rename_i sx ck1 hm
   simp only[aa,ae]at h
   obtain⟨rfl,rfl,rfl⟩:=h
   obtain⟨v,w',V',h1,h2,r'⟩:=yg r hm
   exact .inl ⟨v,w',h1,V',r'.wok,fun _=>h2⟩
 · split at h
   · rename_i p' ck1 hs hd
     simp only[aa,ae]at h
     obtain⟨rfl,rfl,rfl⟩:=h
     obtain⟨w',h1,r'⟩:=yh r hs hp
     exact .inr (.inl ⟨w',h1,hd,V,r'.wok,fun hn=>absurd hd hn⟩)
   · split at h
     · rename_i p' sx ck1 hm
       simp only[aa,ae]at h
       obtain⟨rfl,rfl,rfl⟩:=h
       obtain⟨v,w',V',h1,h2,r'⟩:=yj r hm hp
       exact .inl ⟨v,w',h1,V',r'.wok,fun _=>h2⟩
     · split at h
       · rename_i f args hc
         obtain⟨vs,h1,h2⟩:=ja (P:=P) r (g:=none) trivial hc (B2 h)
         obtain⟨_,_,h3⟩:=qL ht r h hp h2
         refine .inr (.inr ⟨_,_,w,h1,h3.mono fun e w2 hq=>?_⟩)
         obtain⟨v,V',rfl,hr,_,_,_,hwok⟩:=hq
         exact⟨v,rfl,V',hwok,fun _=>hr⟩
       ·simp at h
theorem Q3(rf:WOk Γ ck V w)(r:Rel Γ s V a w){m:List Nat}{ck0:List Chunk}(hp:fu ck m=some ck0)(hin:within m (ck0.flatMap Chunk.refs)=true)(hm:gD m=true) :
 Rel (entry (ck0.map (Chunk.map fun i=>c6 i m 0)) (iy m V) w) {n:=s.n,fr:=(s.fr.filter fun p=>within m p.2.refs).map (fun p=>(p.1,p.2.map fun i=>c6 i m 0)),ck:=ck0.map (Chunk.map fun i=>c6 i m 0),kn:=[],m:=m.length} (iy m V) {a with defers:=[]} w:=by
 have hl:(ck0.map (Chunk.map fun i=>c6 i m 0)).length=m.length:=by rw[aP,(kM hp).1]
 refine{size:=r.size,defers:=.nil rfl,slots:=?_,wok:=rf.lend hp hin hm,few:=⟨?_,?_⟩}
 · intro t sv hmem
   obtain⟨⟨t',sv'⟩,h5,h6⟩:=aM.1 hmem
   simp only[ae]at h6
   obtain⟨rfl,rfl⟩:=h6
   obtain⟨h7,h8⟩:=aH.1 h5
   exact cO.map (hU h8) (r.slots _ _ h7)
 · show(ck0.map (Chunk.map fun i=>c6 i m 0)).length≤m.length
   omega
 · show m.length≤(ck0.map (Chunk.map fun i=>c6 i m 0)).length
   omega
theorem sW:∀{l L:List Chunk},marked l=some L→l=L++[.dead]∧∀c∈L,∃e t x,c=Chunk.own e t x
 |[],L,h=>by simp[marked]at h
 |[.dead],L,h=>by simp[marked]at h;subst h;simp
 | .own e t x::r,L,h=>by
   have h':(marked r).map (Chunk.own e t x::·)=some L:=by
    cases r <;> exact h
   obtain⟨M,h1,rfl⟩:=aj.1 h'
   obtain⟨h2,h3⟩:=sW h1
   exact⟨by rw[h2];rfl,fun c hc=>by rcases aI.1 hc with rfl |hc;exact⟨_,_,_,rfl⟩;exact h3 c hc⟩
 |.cells _ _::r,L,h=>by simp[marked]at h
 |.dead::_::_,L,h=>by simp[marked]at h
def newAt(x sz k y:Nat):Option Nat:=if x≤y∧(y - x) % sz=0∧(y - x) / sz<k then some ((y - x) / sz)else none
theorem kG{x sz k y j:Nat}(h:newAt x sz k y=some j):y=x+j * sz∧j<k:=by
 unfold newAt at h
 split at h
 · rename_i hc
   simp only[aa]at h
   subst h
   have:=Nat.div_add_mod (y - x) sz
   rw[hc.2.1,cF,Nat.mul_comm]at this
   exact⟨by omega,hc.2.2⟩
 ·cases h
theorem ye{x sz k j:Nat}(hs:0<sz)(hj:j<k):newAt x sz k (x+j * sz)=some j:=by
 have h1:(x+j * sz - x) % sz=0:=by rw[eF];exact Nat.mul_mod_left _ _
 have h2:(x+j * sz - x) / sz=j:=by rw[eF];exact Nat.mul_div_cancel _ hs
 unfold newAt
 rw[if_pos ⟨by omega,h1,by rw[h2];exact hj⟩,h2]
theorem sM{x sz:Nat}{y:Nat}:∀{L:List Chunk} {j:Nat},(∀t,t<L.length→y≠x+(j+t) * sz)→ee (nR x sz j L) y=none
 |[],_,_=>rfl
 | c::L,j,h=>by
   have h0:Nat.beq (x+j * sz) y=false:=by
    cases hb:Nat.beq (x+j * sz) y
    ·rfl
    · have:=ak hb
      exact absurd this.symm (by have:=h 0 (by simp);simpa using this)
   simp only[nR,ee,h0,cond_false]
   exact sM fun t ht=>by have:=h (t+1) (by simpa using ht);rwa[show j+(t+1)=j+1+t from by omega]at this
theorem vj{x sz:Nat}(hs:0<sz):∀{L:List Chunk} {j t:Nat} {c:Chunk},L[t]?=some c→ee (nR x sz j L) (x+(j+t) * sz)=some c
 |[],_,_,_,h=>by simp at h
 | d::L,j,0,c,h=>by
   simp only[List.getElem?_cons_zero,aa]at h
   subst h
   simp only[nR,ee,cF,Nat.beq_refl,cond_true]
 | d::L,j,t+1,c,h=>by
   have hne:Nat.beq (x+j * sz) (x+(j+(t+1)) * sz)=false:=by
    cases hb:Nat.beq (x+j * sz) (x+(j+(t+1)) * sz)
    ·rfl
    · have h1:=ak hb
      have h2:(j+(t+1)) * sz=j * sz+(t+1) * sz:=cN _ _ _
      have h3:0<(t+1) * sz:=Nat.mul_pos (by omega) hs
      omega
   simp only[nR,ee,hne,cond_false]
   have:=vj (x:=x) hs (j:=j+1) (t:=t) (c:=c) (L:=L) (by simpa using h)
   rwa[show j+1+t=j+(t+1)from by omega]at this
theorem nN{y:Nat}:∀{l r:List (Nat×Chunk)},ee (l++r) y=match ee l y with |some d=>some d |none=>ee r y
 |[],r=>rfl
 | p::l,r=>by
   simp only[bO,ee]
   rw[nN]
   cases Nat.beq p.1 y <;> rfl
theorem G4 (rf:WOk Γ ck V w) (hwf:mc ck=true) {n x sz:Nat} (hn:ck.length=n) (hsz:0<sz) {m:List Nat} {ck0:List Chunk} (hp:fu ck m=some ck0) (hin:within m (ck0.flatMap Chunk.refs)=true) (hm:gD m=true)
 (hxs:∀j,j<3→ck[x+j * sz]?=some .dead) (hΓ:Γ.m≤x) (hxms:∀j,j<3→x+j * sz ∉ m) (hxrs:∀j,j<3→∀d∈ck,x+j * sz ∉ d.refs)
 {ck2:List Chunk} {V2:Vn} {w2:World} (r2:WOk (entry (ck0.map (Chunk.map fun i=>c6 i m 0)) (iy m V) w) ck2 V2 w2) (hl:m.length≤ck2.length) {keep:Bool} {ret sv:SV} {ef:List (Nat×Chunk)} (h:M8 n x sz m keep ret ck2=some (sv,ef)) (hg:jM ret=true) {q:Prop} {v:Value} (hr:q→ret.R V2 v) :
 ∃V' L,HLe V.H V'.H∧(∀y,y<n→(∀j,j<3→y≠x+j * sz)→V'.σ y=V.σ y∧V'.ov y=V.ov y)∧WOk Γ L V' w2∧Upd ck ef L∧(q→sv.R V' v):=by
 subst hn
 have hx:ck[x]?=some .dead:=by have:=hxs 0 (by omega);simpa using this
 have hxm:x ∉ m:=by have:=hxms 0 (by omega);simpa using this
 have hxr:∀d∈ck,x ∉ d.refs:=by have:=hxrs 0 (by omega);simpa using this
 have h0x:∀{y:Nat},(∀j,j<3→y≠x+j * sz)→y≠x:=fun h=>by have:=h 0 (by omega);simpa using this
 have hxl:x<ck.length:=(List.getElem?_eq_some_iff.1 hx).1
 obtain⟨V3,g1,g2,g3⟩:=rf.back hwf (by omega) hp hin hm r2 hl
 have hr3:q→(ret.map (back m ck.length)).R V3 v:=fun hq=>ET g2 (hr hq)
 have hag:∀y,y<ck.length→(∀j,j<3→y≠x+j * sz)→V3.σ y=V.σ y∧V3.ov y=V.ov y:=fun y hy _=>g1.same y hy
 have hcl:m.length≤(ck2.map (Chunk.map (back m ck.length))).length:=by rw[aP];exact hl
 have hupd:=Dz (ck:=ck) hm hcl
 have hfrz:∀{l:List Chunk},ck2.drop m.length=l→∀{sv':SV},jK ck.length (l.map (Chunk.map (back m ck.length))) (ret.map (back m ck.length))=some sv' →
  ∃V' L,HLe V.H V'.H∧(∀y,y<ck.length→(∀j,j<3→y≠x+j * sz)→V'.σ y=V.σ y∧V'.ov y=V.ov y)∧WOk Γ L V' w2∧Upd ck (m.zip (ck2.map (Chunk.map (back m ck.length)))) L∧(q→sv'.R V' v):=by
  intro l hd sv' hf
  rw[hd]at g3
  rw[←cM m ck (ck2.map (Chunk.map (back m ck.length)))]at hf
  obtain⟨H',k1,k2,k3⟩:=qI g3 (by rw[cM]at hf ⊢;exact hf) hr3
  exact⟨⟨H',V3.σ,V3.ov⟩,_,g1.hle.trans k1,hag,k2,hupd,k3⟩
 unfold M8 at h
 split at h
 · rename_i hd
   simp only[aa,ae]at h
   obtain⟨rfl,rfl⟩:=h
   rw[hd,cb,aO]at g3
   exact⟨V3,_,g1.hle,hag,g3,hupd,hr3⟩
 · rename_i c hd
   cases hb:(keep||OQ c)
   · rw[hb]at h
     simp only[cond_false]at h
     split at h
     · rename_i sv' hf
       simp only[aa,ae]at h
       obtain⟨rfl,rfl⟩:=h
       exact hfrz hd hf
     ·simp at h
   · rw [hb]at h
     simp only[cond_true,aa,ae]at h
     obtain⟨rfl,rfl⟩:=h
     rw[hd,aq,cb]at g3
     have hbk:∀j,x≠back m ck.length j:=by
      intro j e
      unfold back at e
      cases hj:m[j]? with
      |some i=>rw[hj]at e;simp only at e;subst e;exact hxm (List.mem_of_getElem? hj)
      |none=>rw[hj]at e;simp only at e;omega
     have hmapref:∀d:Chunk,x ∉ (d.map (back m ck.length)).refs:=by
      intro d hd
      rw[Chunk.refs_map]at hd
      obtain⟨j,_,hj⟩:=aM.1 hd
      exact hbk j hj.symm
     have hpbx:(ei ck m (ck2.map (Chunk.map (back m ck.length))))[x]?=some .dead:=by
      have hlt:x<(ei ck m (ck2.map (Chunk.map (back m ck.length)))).length:=by rw[cM];exact hxl
      have hg0:=List.getElem?_eq_getElem hlt
      rcases gy m ck _ (eS hm) hcl x _ hg0 with⟨j,h1,_⟩ |⟨_,h2⟩
      ·exact absurd (List.mem_of_getElem? h1) hxm
      ·rw[hg0,←h2];exact hx
     have hnoref:∀d∈ei ck m (ck2.map (Chunk.map (back m ck.length)))++[c.map (back m ck.length)],x ∉ d.refs:=by
      intro d hdm
      rcases bK.1 hdm with hdm |hdm
      · obtain⟨y,hy⟩:=List.getElem?_of_mem hdm
        rcases gy m ck _ (eS hm) hcl y d hy with⟨j,_,h2⟩ |⟨_,h2⟩
        · rw[List.getElem?_map,aj]at h2
          obtain⟨d0,_,rfl⟩:=h2
          exact hmapref d0
        ·exact hxr d (List.mem_of_getElem? h2)
      · simp only[aQ]at hdm
        subst hdm;exact hmapref c
     obtain⟨V4,k1,k2,k3,k4⟩:=g3.move hpbx hΓ hnoref
     rw[cM]at k3 k4
     have hretx:x ∉ (ret.map (back m ck.length)).refs:=by
      intro hxr2
      have:∀sv:SV,(sv.map (back m ck.length)).refs=sv.refs.map (back m ck.length):=by
       intro sv
       have hsx:∀sx:SX,(sx.map (back m ck.length)).refs=sx.refs.map (back m ck.length):=by
        intro sx
        cases sx with
        |c s=>exact SC.refs_map s
        |agg cs=>simp only[SX.map,SX.refs];rw[fT SC.refs_map]
       cases sv with
       |x sx=>exact hsx sx
       |tup l=>simp only[SV.map,SV.refs];rw[fT hsx]
       |grd _ _ sx=>exact hsx sx
      rw[this]at hxr2
      obtain⟨j,_,hj⟩:=aM.1 hxr2
      exact hbk j hj.symm
     refine⟨V4,_,by rw[k1];exact g1.hle,fun y hy hne=>⟨(k2 y (h0x hne)).1.trans (hag y hy hne).1,(k2 y (h0x hne)).2.trans (hag y hy hne).2⟩,k4,?_,fun hq=>?_⟩
     · refine⟨by rw[bA,aP,cM],fun y d hy=>?_⟩
       rw[qB]
       by_cases e:y=x
       · subst e
         rw[List.getElem?_set_self (by rw[aP,cM];exact hxl)]at hy
         rw[jq fun j hj=>hxm (List.mem_of_getElem? hj)]
         simp only[Nat.beq_refl,cond_true]
         exact .inl hy
       · rw[List.getElem?_set_ne (Ne.symm e),List.getElem?_map,aj]at hy
         obtain⟨d0,h1,rfl⟩:=hy
         have hbe:Nat.beq x y=false:=by
          cases hb2:Nat.beq x y
          ·rfl
          ·exact absurd (ak hb2).symm e
         rcases gy m ck _ (eS hm) hcl y d0 h1 with⟨j,h2,h3⟩ |⟨h2,h3⟩
         · rw[xm (c:=d0.map (ren ck.length x)) (eS hm) j h2 (by rw[List.getElem?_map,h3];rfl)]
           exact .inl rfl
         · rw[jq h2,hbe]
           refine .inr ⟨rfl,?_⟩
           rw[h3,Chunk.map_eq]
           intro z hz
           have hlt:d0.lt ck.length=true:=(jt hwf h3).2
           have:z<ck.length:=mb hlt z hz
           exact Cy (by omega)
     · have:=hr3 hq
       cases hsv:ret.map (back m ck.length)with
       |x s=>rw[hsv]at this hretx;exact SX.R_map (k3 _ hretx) this
       |tup l=>rw[hsv]at this hretx;obtain⟨us,e,h1⟩:=this;exact⟨us,e,lg (k3 _ hretx) h1⟩
       |grd s b v=>rw[hsv]at this;exact this.elim
 · rename_i l _ _
   split at h
   · rename_i L hmk
     obtain⟨hlL,hown⟩:=sW hmk
     cases hb:(Nat.ble L.length 3&&okR (ck.length+L.length) (ret.map (back m ck.length)).refs&&okR (ck.length+L.length) ((ck2.map (Chunk.map (back m ck.length))).flatMap Chunk.refs))
     ·rw[hb]at h;simp at h
     · rw [hb]at h
       simp only[cond_true,aa,ae]at h
       obtain⟨rfl,rfl⟩:=h
       simp only[af]at hb
       obtain⟨⟨hk3,hretr⟩,hckr⟩:=hb
       have hk3:=aB hk3
       have okR_mem:∀{b:Nat} {l:List Nat},okR b l=true→∀y∈l,y<b:=fun h y hy=>aB (an.1 h y hy)
       let ρ:Nat→Nat:=tR ck.length x sz L.length
       let ρ':Nat→Nat:=fun y=>match newAt x sz L.length y with |some j=>ck.length+j |none=>y
       have hbk:∀j t,t<3→x+t * sz≠back m ck.length j:=by
        intro j t ht e
        have hlt:x+t * sz<ck.length:=(List.getElem?_eq_some_iff.1 (hxs t ht)).1
        unfold back at e
        cases hj:m[j]? with
        |some i=>rw[hj]at e;simp only at e;exact hxms t ht (by rw[e];exact List.mem_of_getElem? hj)
        |none=>rw[hj]at e;simp only at e;omega
       have hρlow:∀{y:Nat},y<ck.length→ρ y=y:=fun{y} hy=>by
        show tR _ _ _ _ _=_
        unfold tR
        have:Nat.ble ck.length y=false:=by
         cases hb:Nat.ble ck.length y
         ·rfl
         ·have:=aB hb;omega
        rw[this];rfl
       have hρnew:∀{j:Nat},j<L.length→ρ (ck.length+j)=x+j * sz:=fun{j} hj=>by
        show tR _ _ _ _ _=_
        unfold tR
        rw[show Nat.ble ck.length (ck.length+j)=true from eX (by omega),show Nat.blt (ck.length+j) (ck.length+L.length)=true from eX (by omega)]
        simp only[Bool.and_self,cond_true]
        rw[eF]
       have hround:∀{y:Nat},y<ck.length+L.length→(∀t,t<3→y≠x+t * sz)→ρ' (ρ y)=y:=by
        intro y hy hne
        by_cases hyn:y<ck.length
        · rw[hρlow hyn]
          show(match newAt x sz L.length y with |some j=>ck.length+j |none=>y)=y
          cases hna:newAt x sz L.length y with
          |none=>rfl
          |some j=>obtain⟨h1,h2⟩:=kG hna;exact absurd h1 (hne j (by omega))
        · obtain⟨j,rfl⟩:∃j,y=ck.length+j:=⟨y - ck.length,by omega⟩
          have hj:j<L.length:=by omega
          rw[hρnew hj]
          show(match newAt x sz L.length (x+j * sz)with |some j=>ck.length+j |none=>_)=_
          rw[ye hsz hj]
       have hsx:∀sx:SX,(sx.map (back m ck.length)).refs=sx.refs.map (back m ck.length):=by
        intro sx
        cases sx with
        |c s=>exact SC.refs_map s
        |agg cs=>simp only[SX.map,SX.refs];rw[fT SC.refs_map]
       have hretref:∀y∈(ret.map (back m ck.length)).refs,ρ' (ρ y)=y:=by
        intro y hy
        refine hround (okR_mem hretr y hy) fun t ht e=>?_
        have:(ret.map (back m ck.length)).refs=ret.refs.map (back m ck.length):=by
         cases ret with
         |x sx=>exact hsx sx
         |tup l=>simp only[SV.map,SV.refs];rw[fT hsx]
         |grd _ _ sx=>exact hsx sx
        rw[this]at hy
        obtain⟨j,_,hj⟩:=aM.1 hy
        exact hbk j t ht (by rw[←e,hj])
       have hlow:∀{d:Chunk},d.lt ck.length=true→∀z∈d.refs,z<ck.length:=by
        intro d hd z hz
        exact mb hd z hz
       have hpbref:∀(y:Nat) (d:Chunk),(ei ck m (ck2.map (Chunk.map (back m ck.length))))[y]?=some d→∀z∈d.refs,ρ' (ρ z)=z:=by
        intro y d hy z hz
        rcases gy m ck _ (eS hm) hcl y d hy with⟨j,_,h2⟩ |⟨_,h2⟩
        · refine hround (okR_mem hckr z (a7.2 ⟨d,List.mem_of_getElem? h2,hz⟩)) fun t ht e=>?_
          rw[List.getElem?_map,aj]at h2
          obtain⟨d0,_,rfl⟩:=h2
          rw[Chunk.refs_map]at hz
          obtain⟨j',_,hj'⟩:=aM.1 hz
          exact hbk j' t ht (by rw[←e,hj'])
        · have hzl:=hlow (jt hwf h2).2 z hz
          exact hround (by omega) fun t ht e=>hxrs t ht d (List.mem_of_getElem? h2) (by rw[←e];exact hz)
       have hPBl:(ei ck m (ck2.map (Chunk.map (back m ck.length)))).length=ck.length:=cM _ _ _
       have hmapL:(ck2.drop m.length).map (Chunk.map (back m ck.length))=L++[.dead]:=by
        rw[hlL,bC]
        congr 1
        exact hP fun c hc=>by obtain⟨e,t,y,rfl⟩:=hown c hc;rfl
       rw[hmapL]at g3
       let FL:List Chunk:=(List.range ck.length).map fun y=>match newAt x sz L.length y with |some j=>L.getD j .dead |none=>((ei ck m (ck2.map (Chunk.map (back m ck.length)))).getD y .dead).map ρ
       have hFL:∀(y:Nat) (c:Chunk),FL[y]?=some c→y<ck.length∧((∃j,newAt x sz L.length y=some j∧L[j]?=some c)∨(newAt x sz L.length y=none∧∃d,(ei ck m (ck2.map (Chunk.map (back m ck.length))))[y]?=some d∧c=d.map ρ)):=by
        intro y c hy
        rw[List.getElem?_map,aj]at hy
        obtain⟨y',h1,h2⟩:=hy
        have hyl:y<ck.length:=by have:=(List.getElem?_eq_some_iff.1 h1).1;simpa using this
        rw[List.getElem?_range hyl,aa]at h1
        subst h1
        refine⟨hyl,?_⟩
        cases hna:newAt x sz L.length y with
        | some j =>
          rw[hna]at h2
          have hj:=(kG hna).2
          exact .inl ⟨j,rfl,by rw[←h2,List.getElem?_eq_getElem hj];simp[List.getD_eq_getElem?_getD,hj]⟩
        | none =>
          rw[hna]at h2
          have hy2:y<(ei ck m (ck2.map (Chunk.map (back m ck.length)))).length:=by rw[hPBl];exact hyl
          exact .inr ⟨rfl,_,List.getElem?_eq_getElem hy2,by rw[←h2];simp[List.getD_eq_getElem?_getD,hy2]⟩
       have hrn:RnW ρ ρ' x (ei ck m (ck2.map (Chunk.map (back m ck.length)))++(L++[.dead])) FL:=by
        refine⟨fun y c hy=>?_,fun y hy=>?_⟩
        · obtain⟨hyl,hcase⟩:=hFL y c hy
          right
          rcases hcase with⟨j,hna,hLj⟩ |⟨hna,d,hd,rfl⟩
          · obtain⟨h1,h2⟩:=kG hna
            have e1:ρ' y=ck.length+j:=by show(match newAt x sz L.length y with |some j=>ck.length+j |none=>y)=_;rw[hna]
            obtain⟨e,t,z,rfl⟩:=hown c (List.mem_of_getElem? hLj)
            refine⟨.own e t z,?_,rfl,by rw[e1,hρnew h2,h1],fun i hi=>by simp[Chunk.refs]at hi⟩
            rw[e1,List.getElem?_append_right (by omega),hPBl,eF,List.getElem?_append_left h2,hLj]
          · have e1:ρ' y=y:=by show(match newAt x sz L.length y with |some j=>ck.length+j |none=>y)=_;rw[hna]
            refine⟨d,?_,rfl,by rw[e1,hρlow hyl],hpbref y d hd⟩
            rw[e1,List.getElem?_append_left (by rw[hPBl];exact hyl),hd]
        · show(match newAt x sz L.length y with |some j=>ck.length+j |none=>y)=y
          cases hna:newAt x sz L.length y with
          |none=>rfl
          |some j=>have:=(kG hna).1;omega
       obtain⟨V4,k1,k2,k3⟩:=g3.renum hΓ hrn
       refine⟨V4,FL,g1.hle.trans k1,fun y hy hne=>?_,k2,⟨by simp[FL],fun y c hy=>?_⟩,fun hq=>?_⟩
       · have h1:=(k3 [y] (fun i hi=>by rcases aQ.1 hi with rfl;exact hround (by omega) hne)).same y (by simp)
         rw[hρlow hy]at h1
         have h2:=hag y hy hne
         exact⟨h1.1.trans h2.1,h1.2.trans h2.2⟩
       · obtain⟨hyl,hcase⟩:=hFL y c hy
         rcases hcase with⟨j,hna,hLj⟩ |⟨hna,d,hd,rfl⟩
         · obtain⟨h1,h2⟩:=kG hna
           left
           rw[nN,jq fun t ht=>hxms j (by omega) (by rw[←h1];exact List.mem_of_getElem? ht)]
           have:=vj hsz (x:=x) (j:=0) (t:=j) hLj
           rw[ba,←h1]at this
           exact this
         · have hnone:ee (nR x sz 0 L) y=none:=sM fun t ht e=>by
            rw[ba]at e
            rw[e,ye hsz ht]at hna;cases hna
           rcases gy m ck _ (eS hm) hcl y d hd with⟨j,h2,h3⟩ |⟨h2,h3⟩
           · left
             rw[nN,xm (c:=d.map ρ) (eS hm) j h2 (by rw[List.getElem?_map,h3];rfl)]
           · right
             refine⟨by rw[nN,jq h2];exact hnone,?_⟩
             rw[h3,Chunk.map_eq fun z hz=>hρlow (hlow (jt hwf h3).2 z hz)]
       · have:=hr3 hq
         cases hsv:ret.map (back m ck.length)with
         |x s=>rw[hsv]at this hretref;exact SX.R_map (k3 _ hretref) this
         |tup l=>rw[hsv]at this hretref;obtain⟨us,e,h1⟩:=this;exact⟨us,e,lg (k3 _ hretref) h1⟩
         |grd s b v=>rw[hsv]at this;exact this.elim
   · split at h
     · rename_i sv' hf
       simp only[aa,ae]at h
       obtain⟨rfl,rfl⟩:=h
       exact hfrz rfl hf
     ·simp at h
end
end Go.Ev
