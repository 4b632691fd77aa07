/- An executor for function bodies of the model over data, part PX: a slice moved to a number of its own; a nil slice in a lent block. Conditions: none. An executor for function bodies of the model over data, part PY: blocks renumbered behind a call; a nil slice in a block of the call's own. Conditions: none. An executor for function bodies of the model over data, part PZ: a slice set against nil; a contract told otherwise. Conditions: none. An executor for function bodies of the model over data, part VB: a function looked up in a map that nobody writes. Conditions: each rule's own. -/
import Derived.Test.YtpfidgnkokidoaaGreatDoorDa
import Derived.Lib.SliceRun
import Derived.MapKept
namespace Go.Ev
open Go.RowKit
def kX (i n:Nat) (j:Nat):Nat:=bif Nat.beq j i then n else j
def HB (i:Nat) (st:ST):ST:=match st.ck[i]? with
 | some (.own e t l)=>{ st with fr:=st.fr.map (fun p=>(p.1,p.2.map (kX i st.ck.length))),ck:=(eU (some i) st.ck++[Chunk.own e t l]).map (Chunk.map (kX i st.ck.length)) }
 | _=>st
section
variable {P:Program} {f:FuncId} {root:Code} {Γ:Ctx} {Q:Out} {st:ST} {todo:List PI}
theorem WOk.renamed {ck:List Chunk} {V:Vn} {w:World} (r:WOk Γ ck V w) {ρ:Nat→Nat} (h:∀ s,Turned ρ V V s):WOk Γ (ck.map (Chunk.map ρ)) V w:=by
 have hget:∀ (i:Nat) (c:Chunk),(ck.map (Chunk.map ρ))[i]?=some c→∃ c0,ck[i]?=some c0∧c=c0.map ρ:=by
  intro i c hc
  rw [List.getElem?_map,au] at hc
  obtain ⟨c0,h1,h2⟩:=hc
  exact ⟨c0,h1,h2.symm⟩
 have hblk:∀ (i:Nat) (c0:Chunk),(c0.map ρ).blk V i=c0.blk V i:=fun i c0=>by cases c0 <;> rfl
 refine { ext:=r.ext,imm:=r.imm,hle:=r.hle,frz:=r.frz,agr:=r.agr,own:=?_,base:=?_,inj:=?_ }
 · intro i c hc
   obtain ⟨c0,h1,rfl⟩:=hget i c hc
   have h2:=r.own i c0 h1
   cases c0 with
   | dead=>trivial
   | cells cs e =>
     obtain ⟨us,h3,h4⟩:=h2
     exact ⟨us,h3,sa (h _) h4⟩
   | own e t l=>exact h2
 · intro i c b hc hb
   obtain ⟨c0,h1,rfl⟩:=hget i c hc
   rw [hblk] at hb
   exact r.base i c0 b h1 hb
 · intro i j c d b hc hd hb1 hb2
   obtain ⟨c0,h1,rfl⟩:=hget i c hc
   obtain ⟨d0,h2,rfl⟩:=hget j d hd
   rw [hblk] at hb1 hb2
   exact r.inj i j c0 d0 b h1 h2 hb1 hb2
theorem J.move (i:Nat) (hwf:st.wf=true) (hk:J P f root Γ Q todo (HB i st)):J P f root Γ Q todo st:=by
 unfold HB at hk
 split at hk
 · rename_i e t l hck
   intro hT V a w r
   obtain ⟨xs,h1,h2,h3⟩:=r.wok.own i _ hck
   have hi:i<st.ck.length:=(List.getElem?_eq_some_iff.1 hck).1
   obtain ⟨V',hag,hH,g1,g2,r'⟩:=r.grow hwf (some i) (c:=.own e t l) (v':=V.ov i) (s':=V.σ i) (w':=w) (row:=(V.ov i).ownBlock) (fun b hb=>⟨i,_,rfl,hck,hb⟩) (World.grownBy.refl _ _) (fun V' hag hH f1 f2=>by
    refine ⟨⟨xs,by rw [f2]; exact h1,by rw [hH]; exact h2,fun b hb=>?_⟩,fun b hb=>.inl ?_⟩
    · rw [f2] at hb; rw [f1]; exact h3 b hb
    · simpa only [Chunk.blk,f2] using hb)
   have hT2:∀ s,Turned (kX i st.ck.length) V' V' s:=fun s=>⟨HLe.refl _,fun j _=>by
    unfold kX
    cases hb:Nat.beq j i
    · exact ⟨rfl,rfl⟩
    · have:=aq hb
      subst this
      have hs:=hag.same j hi
      simp only [cond_true]
      exact ⟨g1.trans hs.1.symm,g2.trans hs.2.symm⟩⟩
   refine hk hT V' a w { size:=r'.size,defers:=r'.defers,slots:=?_,wok:=r'.wok.renamed hT2,few:=?_ }
   · intro s sv hm
     obtain ⟨⟨s',sv'⟩,h5,h6⟩:=ba.1 hm
     simp only [ae] at h6
     obtain ⟨rfl,rfl⟩:=h6
     exact (r'.slots _ _ h5).map (hT2 _)
   · have:=r'.few
     simpa using this
 · exact hk
theorem WOk.seen {Γ':Ctx} {ck:List Chunk} {V:Vn} {w:World} (r:WOk Γ ck V w) (h0:Γ'.w0=Γ.w0) (hM:∀ b,Γ.M b→Γ'.M b) (hH:Γ'.H0=Γ.H0) (hm:Γ'.m≤Γ.m) (hs:∀ i,i<Γ'.m→Γ.σ0 i=Γ'.σ0 i∧Γ.ov0 i=Γ'.ov0 i):WOk Γ' ck V w:=by
 refine { ext:=?_,imm:=r.imm,hle:=by rw [hH]; exact r.hle,frz:=?_,agr:=?_,own:=r.own,base:=?_,inj:=r.inj }
 · rw [h0]
   exact ⟨r.ext.os,r.ext.tape,r.ext.output,r.ext.size,fun k hk hn=>r.ext.block k hk fun hMk=>hn (hM k hMk)⟩
 · intro k hk
   rw [hH,h0]
   rcases r.frz k hk with h | h | h
   · exact .inl h
   · exact .inr (.inl h)
   · exact .inr (.inr (hM k h))
 · intro i hi
   have h1:=r.agr i (dI hi hm)
   have h2:=hs i hi
   exact ⟨h1.1.trans h2.1,h1.2.trans h2.2⟩
 · intro i c b hc hb
   obtain ⟨h1,h2⟩:=r.base i c b hc hb
   rw [h0]
   exact ⟨h1.imp id (hM b),h2⟩
theorem ak.nilCell {args:List SX} {cs:List SC} {e E:TypeId} {k:Nat} {t:ETy} {ret:SV} {ck':List Chunk} (hk:cs[k]?=some (.pd (.v (.slice none 0 0)))) (hcs:cs.all (SC.lt 1)=true) (ha:args.all (SX.lt 1)=true)
 (h:ak P f args [.cells (cs.set k (.own 1)) e,.own E t []] ret ck'):ak P f args [.cells cs e] ret ck':=by
 intro w V vs hw hT hv
 let V2:Vn:=⟨V.H,V.σ,fun j=>if j=1 then .slice none 0 0 else V.ov j⟩
 have hag:Agree 1 V V2:=⟨HLe.refl _,fun i hi=>⟨rfl,if_neg (by omega)⟩⟩
 have h0:=hw.own 0 _ rfl
 obtain ⟨us,q1,q2⟩:=h0
 have hown:∀ (i:Nat) (c:Chunk),[Chunk.cells (cs.set k (.own 1)) e,.own E t []][i]?=some c→c.holds V2 w i:=by
  intro i c hc
  match i,hc with
  | 0, hc =>
    simp only [List.getElem?_cons_zero,aa] at hc
    subst hc
    refine ⟨us,q1,?_⟩
    have h5:=lj hag hcs q2
    obtain ⟨u,h6,h7⟩:=h5.get hk
    have hu:u = .slice none 0 0:=by
     have h8:PR V2.H (.v (.slice none 0 0)) u:=h7
     cases h8; rfl
    have h9:=h5.set (a:=.own 1) (b:=u) (show u=V2.ov 1 from hu) k
    have h10:us.set k u=us:=by
     apply List.ext_getElem?
     intro j
     rw [List.getElem?_set]
     split
     · rename_i hj; subst hj
       split
       · exact h6.symm
       · rename_i hlt; rw [List.getElem?_eq_none (by omega)]
     · rfl
    rw [h10] at h9
    exact h9
  | 1,hc =>
    simp only [List.getElem?_cons_succ,List.getElem?_cons_zero,aa] at hc
    subst hc
    have e1:V2.ov 1 = .slice none 0 0:=rfl
    refine ⟨[],?_,.nil,fun b hb=>?_⟩
    · rw [e1]; exact World.ownsRow_nil w 0 E t.size
    · rw [e1] at hb; simp [Value.ownBlock] at hb
  | i+2,hc=>simp at hc
 have hb1:∀ (i:Nat) (c:Chunk) (b:Nat),[Chunk.cells (cs.set k (.own 1)) e,.own E t []][i]?=some c→c.blk V2 i=some b→i=0∧b=V.σ 0:=by
  intro i c b hc hb
  match i,hc with
  | 0,hc =>
    simp only [List.getElem?_cons_zero,aa] at hc
    subst hc
    simp only [Chunk.blk,aa] at hb
    exact ⟨rfl,hb.symm⟩
  | 1,hc =>
    simp only [List.getElem?_cons_succ,List.getElem?_cons_zero,aa] at hc
    subst hc
    have e1:V2.ov 1 = .slice none 0 0:=rfl
    simp only [Chunk.blk] at hb
    rw [e1] at hb
    simp [Value.ownBlock] at hb
  | i+2,hc=>simp at hc
 have hM0:(entry [.cells cs e] V w).M (V.σ 0):=⟨0,_,rfl,rfl⟩
 have hM2:(entry [.cells (cs.set k (.own 1)) e,.own E t []] V2 w).M (V.σ 0):=⟨0,_,rfl,rfl⟩
 have hbase:=hw.base 0 _ (V.σ 0) rfl rfl
 have hw2:WOk (entry [.cells (cs.set k (.own 1)) e,.own E t []] V2 w) [.cells (cs.set k (.own 1)) e,.own E t []] V2 w:=by
  refine { ext:=Fr.refl _ _,imm:=hw.imm,hle:=HLe.refl _,frz:=fun k hk=>.inl hk,agr:=fun i _=>⟨rfl,rfl⟩,own:=hown,base:=?_,inj:=?_ }
  · intro i c b hc hb
    obtain ⟨rfl,rfl⟩:=hb1 i c b hc hb
    exact ⟨.inr hM2,hbase.2⟩
  · intro i j c d b hc hd hbc hbd
    obtain ⟨rfl,_⟩:=hb1 i c b hc hbc
    obtain ⟨rfl,_⟩:=hb1 j d b hd hbd
    rfl
 refine (h w V2 vs hw2 hT (hv.mono fun a b ha' hab=>SX.R_agree hag (al.1 ha a ha') hab)).mono fun e' w' hq=>?_
 obtain ⟨v,V',rfl,h1,h2⟩:=hq
 refine ⟨v,V',rfl,h1,h2.seen rfl ?_ rfl (by simp [entry]) ?_⟩
 · rintro b ⟨i,c,hc,hb⟩
   obtain ⟨rfl,rfl⟩:=hb1 i c b hc hb
   exact hM0
 · intro i hi
   have hi':i=0:=by have:i<1:=hi; omega
   subst hi'
   exact ⟨rfl,rfl⟩
theorem WOk.moved {cs:List SC} {e E:TypeId} {t:ETy} {l:List t.den} {V:Vn} {w:World} (r:WOk Γ [.cells cs e,.own E t l] V w) (hm:Γ.m≤2) (hcs:(cs.flatMap SC.refs).all (fun i=>Nat.blt i 2)=true) :
 ∃ V':Vn,HLe V.H V'.H∧WOk Γ [.cells (cs.map (SC.map (kX 1 2))) e,.dead,.own E t l] V' w:=by
 let V2:Vn:=⟨V.H,fun i=>if i=2 then V.σ 1 else V.σ i,fun i=>if i=2 then V.ov 1 else V.ov i⟩
 have hT:Turned (kX 1 2) V V2 (cs.flatMap SC.refs):=⟨HLe.refl _,fun j hj=>by
  have hj2:j<2:=by have:=al.1 hcs j hj; simpa using this
  unfold kX
  cases hb:Nat.beq j 1
  · simp only [cond_false,V2]
    exact ⟨if_neg (by omega),if_neg (by omega)⟩
  · have:=aq hb
    subst this
    exact ⟨rfl,rfl⟩⟩
 have e0:V2.σ 0=V.σ 0:=rfl
 have e2:V2.ov 2=V.ov 1:=rfl
 have e3:V2.σ 2=V.σ 1:=rfl
 have hget:∀ (i:Nat) (c:Chunk) (b:Nat),[Chunk.cells (cs.map (SC.map (kX 1 2))) e,.dead,.own E t l][i]?=some c→c.blk V2 i=some b→∃ (j:Nat) (c0:Chunk),[Chunk.cells cs e,.own E t l][j]?=some c0∧c0.blk V j=some b∧(i=0∧j=0∨i=2∧j=1):=by
  intro i c b hc hb
  match i,hc with
  | 0,hc =>
    simp only [List.getElem?_cons_zero,aa] at hc
    subst hc
    exact ⟨0,_,rfl,hb,.inl ⟨rfl,rfl⟩⟩
  | 1,hc =>
    simp only [List.getElem?_cons_succ,List.getElem?_cons_zero,aa] at hc
    subst hc
    cases hb
  | 2,hc =>
    simp only [List.getElem?_cons_succ,List.getElem?_cons_zero,aa] at hc
    subst hc
    exact ⟨1,_,rfl,hb,.inr ⟨rfl,rfl⟩⟩
  | i+3,hc=>simp at hc
 refine ⟨V2,HLe.refl _,{ ext:=r.ext,imm:=r.imm,hle:=r.hle,frz:=r.frz,agr:=?_,own:=?_,base:=?_,inj:=?_ }⟩
 · intro i hi
   have h1:=r.agr i hi
   have hne:i≠2:=by omega
   exact ⟨(if_neg hne).trans h1.1,(if_neg hne).trans h1.2⟩
 · intro i c hc
   match i,hc with
   | 0,hc =>
     simp only [List.getElem?_cons_zero,aa] at hc
     subst hc
     obtain ⟨us,h1,h2⟩:=r.own 0 _ rfl
     exact ⟨us,by rw [e0]; exact h1,sa hT h2⟩
   | 1,hc =>
     simp only [List.getElem?_cons_succ,List.getElem?_cons_zero,aa] at hc
     subst hc; trivial
   | 2,hc =>
     simp only [List.getElem?_cons_succ,List.getElem?_cons_zero,aa] at hc
     subst hc
     obtain ⟨xs,h1,h2,h3⟩:=r.own 1 _ rfl
     exact ⟨xs,by rw [e2]; exact h1,h2,fun b hb=>by rw [e2] at hb; rw [e3]; exact h3 b hb⟩
   | i+3,hc=>simp at hc
 · intro i c b hc hb
   obtain ⟨j,c0,h1,h2,_⟩:=hget i c b hc hb
   exact r.base j c0 b h1 h2
 · intro i j c d b hc hd hb hb2
   obtain ⟨i',c0,h1,h2,h3⟩:=hget i c b hc hb
   obtain ⟨j',d0,g1,g2,g3⟩:=hget j d b hd hb2
   have:=r.inj i' j' c0 d0 b h1 g1 h2 g2
   rcases h3 with ⟨rfl,rfl⟩ | ⟨rfl,rfl⟩ <;> rcases g3 with ⟨rfl,rfl⟩ | ⟨rfl,rfl⟩ <;> omega
def Kept (ret:SV) (cs:List SC) (e E:TypeId) (t:ETy) (l:List t.den):Out:=fun v ck=>v=ret∧(ck=[.cells cs e,.own E t l]∨ck=[.cells (cs.map (SC.map (kX 1 2))) e,.dead,.own E t l])
theorem ak.kept {fn:Func} {args:List SX} {ck:List Chunk} {cs:List SC} {e E:TypeId} {t:ETy} {l:List t.den} {ret:SV} (hf:P.funcs[f]?=some fn) (hb:fn.body.isSome=true) (hn:Nat.ble args.length fn.ntmps=true) (hl:ck.length=2)
 (hr:ret = .tup []∨∃ p,ret = .x (.c (.pd p))) (hcs:(cs.flatMap SC.refs).all (fun i=>Nat.blt i 2)=true)
 (h:∀ Γ,J P f (aI fn) Γ (Kept ret cs e E t l) [.code []] (cN fn.ntmps args ck)):ak P f args ck ret [.cells (cs.map (SC.map (kX 1 2))) e,.dead,.own E t l]:=by
 intro w V vs hw hT hv
 refine (kE hf (lF hb) hn (Γ:=entry ck V w) rfl (h _) hw hT hv).mono fun en w' hq=>?_
 obtain ⟨v,V',r,c,rfl,⟨rfl,hc⟩,h1,h2⟩:=hq
 rcases hc with rfl | rfl
 · have hH:∀ V2:Vn,HLe V'.H V2.H→r.R V2 v:=by
    intro V2 hle
    rcases hr with rfl | ⟨p,rfl⟩
    · obtain ⟨us,e1,h5⟩:=h1
      cases h5
      exact ⟨[],e1,.nil⟩
    · exact PR.mono hle h1
   obtain ⟨V2,hle,h3⟩:=h2.moved (by show ck.length≤2; omega) hcs
   exact ⟨v,V2,rfl,hH V2 hle,h3⟩
 · exact ⟨v,V',rfl,h1,h2⟩
end
end Go.Ev
namespace Go.Ev
open Go.RowKit
section
variable {P:Program} {f:FuncId} {root:Code} {Γ:Ctx} {Q:Out} {st:ST} {todo:List PI}
theorem ak.renum {fn:Func} {args:List SX} {ck ck':List Chunk} {ret:SV} (hf:P.funcs[f]?=some fn) (hb:fn.body.isSome=true) (hn:Nat.ble args.length fn.ntmps=true) (hr:ur ret=true)
 (h:∀ Γ,J P f (aI fn) Γ (fun v c=>v=ret∧Rn ck.length c ck') [.code []] (cN fn.ntmps args ck)):ak P f args ck ret ck':=by
 intro w V vs hw hT hv
 refine (kE hf (lF hb) hn (Γ:=entry ck V w) rfl (h _) hw hT hv).mono fun en w' hq=>?_
 obtain ⟨v,V',r,c,rfl,⟨rfl,hc⟩,h1,h2⟩:=hq
 obtain ⟨ρ,ρ',hc⟩:=hc
 obtain ⟨V2,_,h3,_⟩:=h2.renum (m:=ck.length) (av _) hc
 exact ⟨v,V2,rfl,xq hr h1,h3⟩
theorem J.renum (ρ ρ':Nat→Nat) {ck':List Chunk} (h:RnW ρ ρ' st.m st.ck ck') (hl:st.m≤ck'.length) (hs:∀ p∈st.fr,∀ i∈p.2.refs,ρ' (ρ i)=i)
 (hk:J P f root Γ Q todo { st with fr:=st.fr.map (fun p=>(p.1,p.2.map ρ)),ck:=ck' }):J P f root Γ Q todo st:=by
 intro hT V a w r
 obtain ⟨V2,_,h3,h4⟩:=r.wok.renum r.few.1 h
 refine hk hT V2 a w { size:=r.size,defers:=r.defers,slots:=?_,wok:=h3,few:=⟨r.few.1,hl⟩ }
 intro s sv hm
 obtain ⟨⟨s',sv'⟩,h5,h6⟩:=ba.1 hm
 simp only [ae] at h6
 obtain ⟨rfl,rfl⟩:=h6
 exact (r.slots _ _ h5).map (h4 _ (hs _ h5))
theorem J.nilCk (i k:Nat) (e:TypeId) (t:ETy) {cs:List SC} {E:TypeId} (hc:st.ck[i]?=some (.cells cs E)) (hk:cs[k]?=some (.pd (.v (.slice none 0 0)))) (hwf:st.wf=true)
 (hj:J P f root Γ Q todo { st with ck:=st.ck.set i (.cells (cs.set k (.own st.ck.length)) E)++[.own e t []] }):J P f root Γ Q todo st:=by
 intro hT V a w r
 have hwf2:iY st.ck=true:=by simp only [ST.wf,ab] at hwf; exact hwf.2
 have hwf1:=hwf
 simp only [ST.wf,ab] at hwf1
 obtain ⟨V',hag,_,_,e2,hw⟩:=r.wok.regrow hwf2 (ay r.few.1 r.few.2) none (c:=.own e t []) (v':=.slice none 0 0) (s':=0) (w':=w) (row:=none) (by simp) (World.grownBy.refl _ _) (fun V' hag hH f1 f2=>by
  refine ⟨⟨[],?_,.nil,fun b hb=>by rw [f2] at hb; simp [Value.ownBlock] at hb⟩,fun b hb=>by simp [Chunk.blk,f2,Value.ownBlock] at hb⟩
  rw [f2]; exact World.ownsRow_nil w 0 e t.size)
 have hi:i<st.ck.length:=(List.getElem?_eq_some_iff.1 hc).1
 have hck:(eU none st.ck++[Chunk.own e t []])[i]?=some (.cells cs E):=by
  show (st.ck++[Chunk.own e t []])[i]?=_
  rw [List.getElem?_append_left hi]; exact hc
 have hset:st.ck.set i (.cells (cs.set k (.own st.ck.length)) E)++[.own e t []]=(eU none st.ck++[Chunk.own e t []]).set i (.cells (cs.set k (.own st.ck.length)) E):=by
  show _=(st.ck++[Chunk.own e t []]).set i _
  rw [List.set_append_left _ _ hi]
 have hlen:i<(eU none st.ck++[Chunk.own e t []]).length:=(List.getElem?_eq_some_iff.1 hck).1
 have hget:∀ (j:Nat) (c:Chunk),((eU none st.ck++[Chunk.own e t []]).set i (.cells (cs.set k (.own st.ck.length)) E))[j]?=some c→(j=i∧c = .cells (cs.set k (.own st.ck.length)) E)∨(j≠i∧(eU none st.ck++[Chunk.own e t []])[j]?=some c):=by
  intro j c hj
  by_cases hji:i=j
  · subst hji
    rw [List.getElem?_set_self hlen] at hj
    simp only [aa] at hj
    exact .inl ⟨rfl,hj.symm⟩
  · rw [List.getElem?_set_ne hji] at hj
    exact .inr ⟨fun e=>hji e.symm,hj⟩
 have hblk:∀ (j:Nat) (c:Chunk) (b:Nat),((eU none st.ck++[Chunk.own e t []]).set i (.cells (cs.set k (.own st.ck.length)) E))[j]?=some c→c.blk V' j=some b→∃ c0,(eU none st.ck++[Chunk.own e t []])[j]?=some c0∧c0.blk V' j=some b:=by
  intro j c b hj hb
  rcases hget j c hj with ⟨rfl,rfl⟩ | ⟨_,h2⟩
  · exact ⟨_,hck,hb⟩
  · exact ⟨c,h2,hb⟩
 refine hj hT V' a w { size:=r.size,defers:=r.defers,slots:=?_,wok:=?_,few:=⟨r.few.1,?_⟩ }
 · intro s sv hm
   exact (r.slots s sv hm).agree hag (al.1 hwf1.1 _ hm)
 · show WOk Γ (st.ck.set i (.cells (cs.set k (.own st.ck.length)) E)++[.own e t []]) V' w
   rw [hset]
   refine { ext:=hw.ext,imm:=hw.imm,hle:=hw.hle,frz:=hw.frz,agr:=hw.agr,own:=?_,base:=?_,inj:=?_ }
   · intro j c hj
     rcases hget j c hj with ⟨rfl,rfl⟩ | ⟨_,h2⟩
     · obtain ⟨us,q1,q2⟩:=hw.own j _ hck
       refine ⟨us,q1,?_⟩
       obtain ⟨u,h6,h7⟩:=q2.get hk
       have hu:u = .slice none 0 0:=by
        have h8:PR V'.H (.v (.slice none 0 0)) u:=h7
        cases h8; rfl
       have h9:=q2.set (a:=SC.own st.ck.length) (b:=u) (show u=V'.ov st.ck.length by rw [hu,e2]) k
       have h10:us.set k u=us:=by
        apply List.ext_getElem?
        intro x
        rw [List.getElem?_set]
        split
        · rename_i hx; subst hx
          split
          · exact h6.symm
          · rename_i hlt; rw [List.getElem?_eq_none (by omega)]
        · rfl
       rw [h10] at h9
       exact h9
     · exact hw.own j c h2
   · intro j c b hj hb
     obtain ⟨c0,h1,h2⟩:=hblk j c b hj hb
     exact hw.base j c0 b h1 h2
   · intro x y c d b hc' hd hb hb2
     obtain ⟨c0,h1,h2⟩:=hblk x c b hc' hb
     obtain ⟨d0,g1,g2⟩:=hblk y d b hd hb2
     exact hw.inj x y c0 d0 b h1 g1 h2 g2
 · show st.m≤(st.ck.set i (.cells (cs.set k (SC.own st.ck.length)) E)++[Chunk.own e t []]).length
   rw [ag,cW]; have:=r.few.2; omega
end
end Go.Ev
namespace Go.Ev
open Go.RowKit
section
variable {P:Program} {f:FuncId} {root:Code} {Γ:Ctx} {Q:Out} {st:ST} {k:List PI}
theorem ak.ret {args:List SX} {ck ck':List Chunk} {ret ret':SV} (h:ak P f args ck ret ck') (hr:∀ (V:Vn) (v:Value),ret.R V v→ret'.R V v):ak P f args ck ret' ck':=by
 intro w V vs hw hT hv
 refine (h w V vs hw hT hv).mono fun e w' hq=>?_
 obtain ⟨v,V',rfl,h1,h2⟩:=hq
 exact ⟨v,V',rfl,hr _ _ h1,h2⟩
theorem ak.nilOwn {fn:Func} {args:List SX} {e:TypeId} {t:ETy} {l:List t.den} (hf:P.funcs[f]?=some fn) (hb:fn.body.isSome=true) (hn:Nat.ble args.length fn.ntmps=true)
 (h:∀ Γ,J P f (aI fn) Γ (fun v ck=>(v = .x (.c (.own 0))∧ck=[.own e t l])∨(l=[]∧v = .x (.c (.pd (.v (.slice none 0 0))))∧ck=[])) [.code []] (cN fn.ntmps args [])):ak P f args [] (.x (.c (.own 0))) [.own e t l]:=by
 intro w V vs hw hT hv
 refine (kE hf (lF hb) hn (Γ:=entry [] V w) rfl (h _) hw hT hv).mono fun en w' hq=>?_
 obtain ⟨v,V',r,c,rfl,hc,h1,h2⟩:=hq
 rcases hc with ⟨rfl,rfl⟩ | ⟨rfl,rfl,rfl⟩
 · exact ⟨v,V',rfl,h1,h2⟩
 · have hv:v = .slice none 0 0:=by
    have h3:PR V'.H (.v (.slice none 0 0)) v:=h1
    cases h3; rfl
   obtain ⟨V2,hag,_,_,e2,hw2⟩:=h2.regrow (ck:=[]) rfl (bt _) none (c:=.own e t []) (v':=.slice none 0 0) (s':=0) (w':=w') (row:=none) (by simp) (World.grownBy.refl _ _) (fun V' hag hH f1 f2=>by
    have f3:V'.ov 0 = .slice none 0 0:=f2
    refine ⟨⟨[],?_,.nil,fun b hb=>by rw [f2] at hb; simp [Value.ownBlock] at hb⟩,fun b hb=>by simp [Chunk.blk,f3,Value.ownBlock] at hb⟩
    rw [f2]; exact World.ownsRow_nil w' 0 e t.size)
   refine ⟨v,V2,rfl,?_,hw2⟩
   show v=V2.ov 0
   rw [hv]; exact e2.symm
/-! ### blocks in another order -/
end
end Go.Ev
namespace Go.Ev
open Go.RowKit
def fX:List (Str×Nat)→Str→Option Nat
 | [],_=>none
 | p::r,s=>bif p.1==s then some p.2 else fX r s
theorem Oq {a b:Str} (h:bs a=bs b):a=b:=by
 have:=congrArg (fun x:ByteArray=>x.data.toList) h
 simpa [cF] using this
theorem ss (s:Str):∀ (l:List (Str×Nat)) (es:List MapEntry) (i:Nat),es.map (fun e=>(e.key,e.val))=l.map (fun p=>(Value.string (bs p.1),Value.func (.func p.2) #[] #[])) →
 ∃ r,Instr.findNow .string (.string (bs s)) es i=some r∧r.map (·.2)=(fX l s).map fun f=>Value.func (.func f) #[] #[]
 | [],es,i,h=>by
   have:es=[]:=by simpa using h
   subst this
   exact ⟨none,rfl,rfl⟩
 | p :: l,es,i,h=>by
   cases es with
   | nil=>simp at h
   | cons e es =>
     simp only [aw,List.cons.injEq,ae] at h
     obtain ⟨⟨h1,h2⟩,h3⟩:=h
     have hs:Instr.sameNow .string (.string (bs s)) e.key=some (p.1==s):=by
      rw [h1]
      show some (bs s==bs p.1)=_
      congr 1
      cases hb:p.1==s
      · cases hc:(bs s==bs p.1)
        · rfl
        · rw [beq_eq_false_iff_ne] at hb
          exact absurd (Oq ((MapKept.bytes_beq _ _).1 hc)).symm hb
      · rw [eq_of_beq hb]; exact (MapKept.bytes_beq _ _).2 rfl
     cases hb:p.1==s
     · obtain ⟨r,g1,g2⟩:=ss s l es (i+1) h3
       refine ⟨r,?_,?_⟩
       · simp only [Instr.findNow,hs,hb]; exact g1
       · simp only [fX,hb,cond_false]; exact g2
     · refine ⟨some (i,e.val),?_,?_⟩
       · simp only [Instr.findNow,hs,hb]
       · simp only [fX,hb,cond_true,cn,h2]
theorem wW {P:Program} {w:World} {t kt et:TypeId} {r clock:Nat} {es:Array MapEntry} {l:List (Str×Nat)} (ht:P.underlying t=some (.map kt et)) (hk:P.underlying kt=some .string) (hb:w.heap[r]?=some (.map es clock))
 (h:es.toList.map (fun e=>(e.key,e.val))=l.map fun p=>(Value.string (bs p.1),Value.func (.func p.2) #[] #[])) (s:Str) {z:Value} (hz:fX l s=none→(zeroValue et).run P w = .ok z w) :
 (Instr.lookup t (.map (some r)) (.string (bs s)) false).run P w = .ok (match fX l s with | some f=>.func (.func f) #[] #[] | none=>z) w:=by
 obtain ⟨q,h1,h2⟩:=ss s l es.toList 0 h
 have hc:∀ b,(Instr.checkKey b 10000 kt (.string (bs s))).run P w = .ok () w:=fun b=>by
  rw [show (10000:Nat)=9999+1 from rfl,Instr.checkKey]
  simp only [Sem.run_bind,run_underlying hk,Result.andThen_ok]
  rfl
 have hf:(Instr.findKey kt (.string (bs s)) es.toList).run P w = .ok q w:=by
  simp [Instr.findKey,run_underlying hk,h1,Result.andThen]
 cases hg:fX l s with
 | none =>
   rw [hg] at h2
   have hq:q=none:=by cases q with | none=>rfl | some x=>simp at h2
   subst hq
   simp [Instr.lookup,run_underlying ht,MapKept.run_getObj_map hb,hc,hf,hz hg,Result.andThen]
 | some f =>
   rw [hg] at h2
   cases q with
   | none=>simp at h2
   | some x =>
     obtain ⟨i,v⟩:=x
     simp only [cn,aa] at h2
     subst h2
     simp [Instr.lookup,run_underlying ht,MapKept.run_getObj_map hb,hc,hf,Result.andThen]
def C4 (P:Program) (root:Code) (p:List Nat) (i:Nat) (st:ST):Option (Nat×Nat×Operand×TypeId) :=
 match (opsOf (sub root p))[i]? with
 | some o=>match o.guard,o.dst,o.op with
   | none,some d,.lookup ty (.tmp m) k false=>match P.underlying ty with
     | some (.map kt et)=>match P.underlying kt with
       | some .string=>bif Nat.blt d st.n then some (d,m,k,et) else none
       | _=>none
     | _=>none
   | _,_,_=>none
 | none=>none
section
variable {P:Program} {f:FuncId} {root:Code} {Γ:Ctx} {Q:Out} {st:ST} {k:List PI}
theorem J.lookup {p:List Nat} {i d m:Nat} {kx:Operand} {et:TypeId} {l:List (Str×Nat)} {s:Str} (h:C4 P root p i st=some (d,m,kx,et)) (hm:lookup st.fr m=some (.x (.c (.pd (.tbl l))))) (hs:bT st none kx=some (.c (.pd (.str s)))) {z:PD} {zv:Value} (hz:iE zv=some (.c (.pd z)))
 (hzr:fX l s=none→∀ w:World,(zeroValue et).run P w = .ok zv w)
 (hk:J P f root Γ Q (.ops p (i+1)::k) { st with fr:=ej d (.x (match fX l s with | some g=>.c (.fn (.func g) [] []) | none=>.c (.pd z))) st.fr }):J P f root Γ Q (.ops p i::k) st:=by
 unfold C4 at h
 split at h
 · rename_i o ho
   split at h
   · rename_i d' ty m' k' hg hd hop
     split at h
     · rename_i kt et' hu
       split at h
       · rename_i hus
         cases hb:Nat.blt d' st.n
         · rw [hb] at h; cases h
         · rw [hb] at h
           simp only [cond_true,aa,ae] at h
           obtain ⟨rfl,rfl,rfl,rfl⟩:=h
           intro hT V a w r
           have hi:i<(opsOf (sub root p)).size:=(Array.getElem?_eq_some_iff.1 ho).1
           have hsz:(opsOf (sub root p)).size - i=((opsOf (sub root p)).size - (i+1))+1:=by omega
           simp only [aw,PI.den]
           rw [hsz,cw]
           have hv:PR V.H (.tbl l) (a.tmps.getD m' undef):=r.slots m' _ (dF hm)
           have hs2:PR V.H (.str s) (a.eval k'):=aL r (g:=none) trivial hs
           have hw:Region.wanted o (yielded (opsOf (sub root p)) a.tmps)=true:=by simp only [Region.wanted,hg]
           have hput:∀ sx:SX,fZ st (some d') (.x sx)=some { st with fr:=ej d' (.x sx) st.fr }:=fun sx=>by simp only [fZ,hb,cond_true]
           have e1:a.eval (.tmp m')=a.tmps.getD m' undef:=rfl
           generalize hus2:a.tmps.getD m' undef=u at hv e1
           generalize hks:a.eval k'=ks at hs2
           cases hs2
           cases hv with
           | tbl _ b es clock hbk hes =>
             have hrun:=wW (P:=P) (w:=w) (t:=ty) (kt:=kt) (et:=et') hu hus (r.wok.imm _ _ hbk) hes s (z:=zv) (fun hn=>hzr hn w)
             have hr:(execOp a.eval o).run P w = .ok (.value (match fX l s with | some f=>.func (.func f) #[] #[] | none=>zv)) w:=by
              obtain ⟨dst,op,ty',pos,after,guard⟩:=o
              simp only at hop
              subst hop
              simp only [execOp]
              refine bO ?_
              rw [e1,hks]; exact hrun
             refine Go.Sy.Fin.op_value ho hw hr ?_
             rw [hd]
             refine hk hT V _ _ (eM r (hput _) ?_)
             cases fX l s with
             | none=>exact AG hz
             | some g=>exact ⟨[],[],rfl,.nil,.nil⟩
       · cases h
     · cases h
   · cases h
 · cases h
end
end Go.Ev
