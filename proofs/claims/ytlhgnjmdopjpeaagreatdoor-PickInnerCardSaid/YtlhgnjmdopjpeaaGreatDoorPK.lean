/- An executor for function bodies of the model over data, part PJ: blocks numbered anew; blocks given to those that only read. Conditions: none. An executor for function bodies of the model over data, part PK: contracts, and calls by them. Conditions: those that a contract tells. -/
import Derived.Test.YtlhgnjmdopjpeaaGreatDoorPI
import Derived.Lib.ItoaNum
namespace Go.Ev
open Go.RowKit
/-! ### numbers turned by a function -/
def RC.map(ρ:Nat→Nat):RC→RC
 |.pd p=>.pd p
 |.loc i off=>.loc (ρ i) off
def SC.map(ρ:Nat→Nat):SC→SC
 |.pd p=>.pd p
 |.loc i off=>.loc (ρ i) off
 |.own i=>.own (ρ i)
 |.oat i j sz off=>.oat (ρ i) j sz off
 |.fn f a b=>.fn f (a.map (RC.map ρ)) (b.map (RC.map ρ))
def SX.map(ρ:Nat→Nat):SX→SX
 |.c s=>.c (s.map ρ)
 |.agg cs=>.agg (cs.map (SC.map ρ))
def SV.map(ρ:Nat→Nat):SV→SV
 |.x s=>.x (s.map ρ)
 |.tup l=>.tup (l.map (SX.map ρ))
 |.grd s w v=>.grd s w (v.map ρ)
def Ob.map(ρ:Nat→Nat):Ob→Ob
 |.it j d c=>.it (ρ j) d c
 |o=>o
def Chunk.map(ρ:Nat→Nat):Chunk→Chunk
 |.obj o=>.obj (o.map ρ)
 |.dead=>.dead
 |.cells cs e=>.cells (cs.map (SC.map ρ)) e
 |.own e t l=>.own e t l
/-! which blocks are led to -/
def RC.refs:RC→List Nat
 |.pd _=>[]
 |.loc i _=>[i]
def SC.refs:SC→List Nat
 |.pd _=>[]
 |.loc i _=>[i]
 |.own i=>[i]
 |.oat i _ _ _=>[i]
 |.fn _ a b=>a.flatMap RC.refs++b.flatMap RC.refs
def SX.refs:SX→List Nat
 |.c s=>s.refs
 |.agg cs=>cs.flatMap SC.refs
def SV.refs:SV→List Nat
 |.x s=>s.refs
 |.tup l=>l.flatMap SX.refs
 |.grd _ _ v=>v.refs
def Ob.refs:Ob→List Nat
 |.it j _ _=>[j]
 |_=>[]
def Chunk.refs:Chunk→List Nat
 |.obj o=>o.refs
 |.cells cs _=>cs.flatMap SC.refs
 |_=>[]
structure Turned (ρ:Nat→Nat) (V V':Vn) (s:List Nat):Prop where
 hle:HLe V.H V'.H
 same:∀i∈s,V'.σ (ρ i)=V.σ i∧V'.ov (ρ i)=V.ov i
section
variable{ρ:Nat→Nat}{V V':Vn}
theorem Turned.sub{s s':List Nat}(h:Turned ρ V V' s)(hs:∀i∈s',i∈s):Turned ρ V V' s':=⟨h.hle,fun i hi=>h.same i (hs i hi)⟩
theorem RC.R_map{s:RC}(h:Turned ρ V V' s.refs){u:Value}(hr:s.R V u):(s.map ρ).R V' u:=by
 cases s with
 |pd p=>exact PR.mono h.hle hr
 |loc i o=>show u=_;rw[(h.same i (by simp[RC.refs])).1];exact hr
theorem EO{l:List RC}(h:Turned ρ V V' (l.flatMap RC.refs)){us:List Value}(hr:All2 (RC.R V) l us):All2 (RC.R V') (l.map (RC.map ρ)) us:=by
 rw[All2.map_left]
 exact hr.mono fun a b ha hab=>RC.R_map (h.sub fun i hi=>a7.2 ⟨a,ha,hi⟩) hab
theorem SC.R_map{s:SC}(h:Turned ρ V V' s.refs){u:Value}(hr:s.R V u):(s.map ρ).R V' u:=by
 cases s with
 |pd p=>exact PR.mono h.hle hr
 |loc i o=>show u=_;rw[(h.same i (by simp[SC.refs])).1];exact hr
 |own i=>show u=_;rw[(h.same i (by simp[SC.refs])).2];exact hr
 |oat i j sz o=>show u=_;rw[(h.same i (by simp[SC.refs])).1];exact hr
 | fn f x y =>
   obtain⟨ua,ub,e,h1,h2⟩:=hr
   exact⟨ua,ub,e,EO (h.sub fun i hi=>by simp only[SC.refs];exact cH _ hi) h1,EO (h.sub fun i hi=>by simp only[SC.refs];exact ct _ hi) h2⟩
theorem sr{l:List SC}(h:Turned ρ V V' (l.flatMap SC.refs)){us:List Value}(hr:All2 (SC.R V) l us):All2 (SC.R V') (l.map (SC.map ρ)) us:=by
 rw[All2.map_left]
 exact hr.mono fun a b ha hab=>SC.R_map (h.sub fun i hi=>a7.2 ⟨a,ha,hi⟩) hab
theorem SX.R_map{s:SX}(h:Turned ρ V V' s.refs){u:Value}(hr:s.R V u):(s.map ρ).R V' u:=by
 cases s with
 |c s=>exact SC.R_map h hr
 |agg cs=>obtain⟨us,e,h1⟩:=hr;exact⟨us,e,sr h h1⟩
theorem lg{l:List SX}(h:Turned ρ V V' (l.flatMap SX.refs)){us:List Value}(hr:All2 (SX.R V) l us):All2 (SX.R V') (l.map (SX.map ρ)) us:=by
 rw[All2.map_left]
 exact hr.mono fun a b ha hab=>SX.R_map (h.sub fun i hi=>a7.2 ⟨a,ha,hi⟩) hab
theorem cO.map{a:Act}{t:Nat}{sv:SV}(h:Turned ρ V V' sv.refs)(hk:cO V a t sv):cO V' a t (sv.map ρ):=by
 cases sv with
 |x s=>exact SX.R_map h hk
 |tup l=>obtain⟨us,e,h1⟩:=hk;exact⟨us,e,lg h h1⟩
 |grd s b v=>exact⟨fun hb=>SX.R_map h (hk.1 hb),hk.2⟩
theorem Ob.mem_map{o:Ob}(h:Turned ρ V V' o.refs):(o.map ρ).mem V'=o.mem V:=by
 cases o with
 |set=>rfl
 |it j d c=>simp[Ob.map,Ob.mem,(h.same j (by simp[Ob.refs])).1]
theorem Chunk.holds_map{w:World}{i:Nat}{c:Chunk}(h:Turned ρ V V' (i::c.refs))(hk:c.holds V w i):(c.map ρ).holds V' w (ρ i):=by
 have hi:=h.same i az
 cases c with
 |dead=>trivial
 | cells cs e =>
   obtain⟨us,h1,h2⟩:=hk
   exact⟨us,by rw[hi.1];exact h1,sr (h.sub fun j hj=>aD _ hj) h2⟩
 | own e t l =>
   obtain⟨xs,h1,h2,h3⟩:=hk
   exact⟨xs,by rw[hi.2];exact h1,h2.mono fun _ _ _ hp=>hp.mono h.hle,by rw[hi.1,hi.2];exact h3⟩
 | obj o =>
   refine⟨?_,by rw[hi.1,hi.2];exact hk.2⟩
   show _=some ((o.map ρ).mem V')
   rw[hi.1,Ob.mem_map (h.sub fun j hj=>aD _ hj)];exact hk.1
theorem Chunk.blk_map{i:Nat}{c:Chunk}(h:Turned ρ V V' [i]):(c.map ρ).blk V' (ρ i)=c.blk V i:=by
 have hi:=h.same i az
 cases c with
 |dead=>rfl
 |cells cs e=>simp[Chunk.map,Chunk.blk,hi.1]
 |own e t l=>simp[Chunk.map,Chunk.blk,hi.2]
 |obj o=>simp[Chunk.map,Chunk.blk,hi.1]
end
/-! ### numbers turned by a list: the j-th new one is the old m[j] -/
def c6(i:Nat):List Nat→Nat→Nat
 |[],k=>k
 |x::r,k=>bif Nat.beq x i then k else c6 i r (k+1)
def within(m:List Nat)(l:List Nat):Bool:=l.all fun i=>m.any (Nat.beq i)
def gD:List Nat→Bool
 |a::b::r=>Nat.blt a b&&gD (b::r)
 |_=>true
def fu(ck:List Chunk):List Nat→Option (List Chunk)
 |[]=>some []
 | i::r=>match ck[i]?,fu ck r with
   |some c,some l=>some (c::l)
   |_,_=>none
def reach(ck:List Chunk):Nat→List Nat→List Nat
 |0,l=>l
 |n+1,l=>reach ck n (l++(l.flatMap fun i=>((ck[i]?).map Chunk.refs).getD []).filter fun x=>!l.any (Nat.beq x))
def c8(ck:List Chunk)(l:List Nat):List Nat:=let r:=reach ck 4 l;(List.range ck.length).filter fun i=>r.any (Nat.beq i)
theorem jy{i:Nat}{m:List Nat}(h:m.any (Nat.beq i)=true):i∈m:=by
 obtain⟨x,hx,hb⟩:=bf.1 h
 rw[ak hb];exact hx
theorem oe{i:Nat}:∀{m:List Nat} {k:Nat},i∈m→k≤c6 i m k∧m[c6 i m k - k]?=some i
 |[],_,h=>by cases h
 | x :: r,k,h=>by
   simp only[c6]
   cases hb:Nat.beq x i
   · simp only[cond_false]
     have hne:i≠x:=fun e=>by rw[e]at hb;simp at hb
     obtain⟨h1,h2⟩:=oe (k:=k+1) ((aI.1 h).resolve_left hne)
     refine⟨by omega,?_⟩
     rw[show c6 i r (k+1) - k=(c6 i r (k+1) - (k+1))+1 from by omega,List.getElem?_cons_succ];exact h2
   · simp only[cond_true]
     have:=ak hb
     subst this
     simp
theorem eS:∀{m:List Nat},gD m=true→∀(i j:Nat) x,m[i]?=some x→m[j]?=some x→i=j:=by
 have lt:∀{m:List Nat} {a:Nat},gD (a::m)=true→∀(j:Nat) x,m[j]?=some x→a<x:=by
  intro m
  induction m with
  |nil=>intro a _ j x h;simp at h
  | cons b r ih =>
    intro a h j x hj
    simp only[gD,af]at h
    have hab:a<b:=aB h.1
    cases j with
    |zero=>simp only[List.getElem?_cons_zero,aa]at hj;omega
    |succ j=>have:=ih h.2 j x (by simpa using hj);omega
 intro m
 induction m with
 |nil=>intro _ i j x h;simp at h
 | cons b r ih =>
   intro h i j x hi hj
   have hr:gD r=true:=by cases r with |nil=>rfl |cons c r=>simp only[gD,af]at h;exact h.2
   cases i with
   | zero =>
     cases j with
     |zero=>rfl
     | succ j =>
       simp only[List.getElem?_cons_zero,aa,List.getElem?_cons_succ]at hi hj
       have:=lt h j x hj;omega
   | succ i =>
     cases j with
     | zero =>
       simp only[List.getElem?_cons_zero,aa,List.getElem?_cons_succ]at hi hj
       have:=lt h i x hi;omega
     |succ j=>simp only[List.getElem?_cons_succ]at hi hj;rw[ih hr i j x hi hj]
theorem kM{ck:List Chunk}:∀{l:List Nat} {ck':List Chunk},fu ck l=some ck'→ck'.length=l.length∧∀(j:Nat) c,ck'[j]?=some c→∃i,l[j]?=some i∧ck[i]?=some c
 |[],ck',h=>by simp[fu]at h;subst h;simp
 | i :: r,ck',h=>by
   simp only[fu]at h
   split at h
   · rename_i x y h1 h2
     simp only[aa]at h;subst h
     obtain⟨h3,h4⟩:=kM h2
     refine⟨by simp[h3],fun j c hj=>?_⟩
     cases j with
     |zero=>simp only[List.getElem?_cons_zero,aa]at hj;subst hj;exact⟨i,by simp,h1⟩
     |succ j=>simp only[List.getElem?_cons_succ]at hj ⊢;exact h4 j c hj
   ·simp at h
def iy(m:List Nat)(V:Vn):Vn:=⟨V.H,fun j=>V.σ (m.getD j 0),fun j=>V.ov (m.getD j 0)⟩
theorem hU{m:List Nat}{V:Vn}{l:List Nat}(h:within m l=true):Turned (fun i=>c6 i m 0) V (iy m V) l:=by
 refine⟨HLe.refl _,fun i hi=>?_⟩
 have h1:=(oe (k:=0) (jy (an.1 h i hi))).2
 simp only[Nat.sub_zero]at h1
 simp[iy,List.getD_eq_getElem?_getD,h1]
theorem D7{α:Type}{m:List Nat}{l:List α}{f:α→List Nat}(h:within m (l.flatMap f)=true){x:α}(hx:x∈l):within m (f x)=true :=
 an.2 fun i hi=>an.1 h i (a7.2 ⟨x,hx,hi⟩)
theorem nn{ck:List Chunk}{V:Vn}{w:World}{m:List Nat}{ck':List Chunk}(hown:∀(i:Nat) (c:Chunk),ck[i]?=some c→c.holds V w i)(hp:fu ck m=some ck')(hin:within m (ck'.flatMap Chunk.refs)=true)(hm:gD m=true) :
 ∀(j:Nat) (c:Chunk),(ck'.map (Chunk.map fun i=>c6 i m 0))[j]?=some c→c.holds (iy m V) w j∧∃i c0,m[j]?=some i∧ck[i]?=some c0∧c.blk (iy m V) j=c0.blk V i:=by
 intro j c hc
 rw[List.getElem?_map,aj]at hc
 obtain⟨c0,h1,rfl⟩:=hc
 obtain⟨i,h2,h3⟩:=(kM hp).2 j c0 h1
 have hi:c6 i m 0=j:=by
  have:=(oe (k:=0) (List.mem_of_getElem? h2)).2
  exact eS hm _ _ i (by simpa using this) h2
 have hw:within m (i::c0.refs)=true:=an.2 fun x hx=>by
  rcases aI.1 hx with rfl |hx
  ·exact bf.2 ⟨x,List.mem_of_getElem? h2,by simp⟩
  ·exact an.1 hin x (a7.2 ⟨c0,List.mem_of_getElem? h1,hx⟩)
 have h4:=Chunk.holds_map (hU (V:=V) hw) (hown i c0 h3)
 have h5:=Chunk.blk_map (c:=c0) (hU (V:=V) (m:=m) (l:=[i]) (an.2 fun x hx=>an.1 hw x (by simp at hx;subst hx;exact az)))
 simp only[hi]at h4 h5
 exact⟨h4,i,c0,h2,h3,h5⟩
def renST (m:List Nat) (st:ST):ST :=
 match fu st.ck m with
 | some ck'=>bif gD m&&within m (st.fr.flatMap fun p=>p.2.refs)&&within m (ck'.flatMap Chunk.refs)&&(m.take st.m==List.range st.m)then
    {n:=st.n,fr:=st.fr.map (fun p=>(p.1,p.2.map fun i=>c6 i m 0)),ck:=ck'.map (Chunk.map fun i=>c6 i m 0),kn:=st.kn,m:=st.m}
   else st
 |none=>st
def gc(st:ST):ST:=renST (c8 st.ck (List.range st.m++st.fr.flatMap fun p=>p.2.refs)) st
theorem Rel.renST {Γ:Ctx} {st:ST} {V:Vn} {a:Act} {w:World} {m:List Nat} (r:Rel Γ st V a w):∃V',Rel Γ (renST m st) V' a w:=by
 unfold Ev.renST
 split
 · rename_i ck' hp
   cases hb:(gD m&&within m (st.fr.flatMap fun p=>p.2.refs)&&within m (ck'.flatMap Chunk.refs)&&(m.take st.m==List.range st.m))
   ·exact⟨V,r⟩
   · simp only[cond_true]
     simp only[af,beq_iff_eq]at hb
     obtain⟨⟨⟨h1,h2⟩,h3⟩,h4⟩:=hb
     have hpo:=nn (ck:=st.ck) (V:=V) (w:=w) r.wok.own hp h3 h1
     refine⟨iy m V,{size:=r.size,defers:=r.defers,slots:=?_,wok:={ext:=r.wok.ext,imm:=r.wok.imm,hle:=r.wok.hle,frz:=r.wok.frz,agr:=?_,own:=fun j c hc=>(hpo j c hc).1,base:=?_,inj:=?_},few:=⟨r.few.1,?_⟩}⟩
     · intro t sv hm
       obtain⟨⟨t',sv'⟩,h5,h6⟩:=aM.1 hm
       simp only[ae]at h6
       obtain⟨rfl,rfl⟩:=h6
       exact cO.map (hU (D7 h2 h5)) (r.slots _ _ h5)
     · intro i hi
       have hi2:i<st.m:=bW hi r.few.1
       have:m[i]?=some i:=by
        have h6:(m.take st.m)[i]?=some i:=by rw[h4];simp[hi2]
        rw[List.getElem?_take,if_pos hi2]at h6;exact h6
       have h7:m.getD i 0=i:=by simp[List.getD_eq_getElem?_getD,this]
       simp only[iy,h7]
       exact r.wok.agr i hi
     · intro j c b hc hb
       obtain⟨_,i,c0,h5,h6,h7⟩:=hpo j c hc
       rw[h7]at hb
       exact r.wok.base i c0 b h6 hb
     · intro j k c d b hc hd hb1 hb2
       obtain⟨_,i,c0,h5,h6,h7⟩:=hpo j c hc
       obtain⟨_,i',d0,g5,g6,g7⟩:=hpo k d hd
       rw[h7]at hb1
       rw[g7]at hb2
       have:=r.wok.inj i i' c0 d0 b h6 g6 hb1 hb2
       subst this
       exact eS h1 j k i h5 g5
     · have:(m.take st.m).length=st.m:=by rw[h4];simp
       rw[a6]at this
       show st.m≤(ck'.map _).length
       rw[aP,(kM hp).1];omega
 ·exact⟨V,r⟩
theorem Rel.gc{Γ:Ctx}{st:ST}{V:Vn}{a:Act}{w:World}(r:Rel Γ st V a w):∃V',Rel Γ (gc st) V' a w:=r.renST
/-! ### contracts -/
def entry(ck:List Chunk)(V:Vn)(w:World):Ctx:={w0:=w,M:=fun b=>∃(i:Nat) (c:Chunk),ck[i]?=some c∧c.blk V i=some b,H0:=V.H,m:=ck.length,σ0:=V.σ,ov0:=V.ov}
def SV.R(V:Vn):SV→Value→Prop
 |.x s,v=>s.R V v
 |.tup l,v=>∃us,v = .tuple us.toArray∧All2 (SX.R V) l us
 |.grd _ _ _,_=>False
def SP(Γ:Ctx)(ret:SV)(ck':List Chunk)(e:Ending)(w':World):Prop:=∃v V',e = .returned v∧ret.R V' v∧WOk Γ ck' V' w'
/-! ### what the program's own variables hold -/
def wb(P:Program)(H:Mem)(name:String)(cs:Array Value):Prop:=∃g e fr,P.globalNamed name=some g∧H g=some (.cells cs e fr)
theorem wb.mono{P:Program}{H H':Mem}(h:HLe H H'){name:String}{cs:Array Value}:wb P H name cs→wb P H' name cs
 |⟨g,e,fr,h1,h2⟩=>⟨g,e,fr,h1,h _ _ h2⟩
def KY(P:Program)(H:Mem)(name:String):Prop:=(P.globalNamed name).isSome=true→∃tp p,wb P H name #[.iface tp p]
def AJ(P:Program)(H:Mem)(name:String):Prop:=(P.globalNamed name).isSome=true→∃g cs e fr m,P.globalNamed name=some g∧H g=some (.cells cs e fr)∧cs[0]?=some (.int .i64 m)
theorem AJ.mono{P:Program}{H H':Mem}(h:HLe H H'){name:String}(t:AJ P H name):AJ P H' name:=fun g=>by
 obtain⟨g,cs,e,fr,m,h1,h2,h3⟩:=t g
 exact⟨g,cs,e,fr,m,h1,h _ _ h2,h3⟩
def hZ(P:Program)(H:Mem):Prop :=
 ((P.globalNamed "internal/strconv.uint64pow10").isSome=true→wb P H "internal/strconv.uint64pow10" (Lib.pow10Tab.map fun z=>Value.int .u64 z).toArray)∧KY P H "strconv.ErrSyntax"∧KY P H "strconv.ErrRange"∧AJ P H "internal/bytealg.MaxLen"
theorem hZ.mono{P:Program}{H H':Mem}(t:hZ P H)(h:HLe H H'):hZ P H' :=
 ⟨fun g=>(t.1 g).mono h,fun g=>(t.2.1 g).imp fun _ ⟨a,q⟩=>⟨a,q.mono h⟩,fun g=>(t.2.2.1 g).imp fun _ ⟨a,q⟩=>⟨a,q.mono h⟩,t.2.2.2.mono h⟩
theorem hZ.none {P:Program} {H:Mem} (h:((P.globalNamed "internal/strconv.uint64pow10").isSome||(P.globalNamed "strconv.ErrSyntax").isSome||(P.globalNamed "strconv.ErrRange").isSome||(P.globalNamed "internal/bytealg.MaxLen").isSome)=false):hZ P H:=by
 simp only[al]at h
 exact⟨fun g=>absurd g (by rw[h.1.1.1];simp),fun g=>absurd g (by rw[h.1.1.2];simp),fun g=>absurd g (by rw[h.1.2];simp),fun g=>absurd g (by rw[h.2];simp)⟩
def ah(P:Program)(f:FuncId)(args:List SX)(ck:List Chunk)(ret:SV)(ck':List Chunk):Prop :=
 ∀(w:World) (V:Vn) (vs:List Value),WOk (entry ck V w) ck V w→hZ P V.H→All2 (SX.R V) args vs→Calls P f vs.toArray w (SP (entry ck V w) ret ck')
abbrev Tab:=List (Nat×(List SX→List Chunk→Option (Option Prop×SV×List Chunk)))
def su:Tab→Nat→List SX→List Chunk→Option (Option Prop×SV×List Chunk)
 |[],_,_,_=>none
 |e::r,f,vs,ck=>bif Nat.beq e.1 f then(match e.2 vs ck with |some x=>some x |none=>su r f vs ck)else su r f vs ck
def ag(P:Program)(tab:Tab):Prop:=∀e∈tab,∀vs ck p ret ck',e.2 vs ck=some (p,ret,ck')→Holds p→ah P e.1 vs ck ret ck'
structure TOk (P:Program) (tab:Tab) (Γ:Ctx):Prop where
 ok:ag P tab
 tabs:hZ P Γ.H0
theorem ag.nil{P:Program}:ag P []:=by intro e he;simp at he
theorem ag.cons{P:Program}{g:Nat}{m:List SX→List Chunk→Option (Option Prop×SV×List Chunk)}{tab:Tab}(h:∀vs ck p ret ck',m vs ck=some (p,ret,ck')→Holds p→ah P g vs ck ret ck')(ht:ag P tab):ag P ((g,m)::tab):=by
 intro e he
 rcases aI.1 he with rfl |he
 ·exact h
 ·exact ht e he
theorem ag.append{P:Program}{t1 t2:Tab}(h1:ag P t1)(h2:ag P t2):ag P (t1++t2):=by
 intro e he
 rcases bK.1 he with he |he
 ·exact h1 e he
 ·exact h2 e he
theorem KC{P:Program}{tab:Tab}(ht:ag P tab){f:Nat}{vs:List SX}{ck:List Chunk}{p:Option Prop}{ret:SV}{ck':List Chunk}(h:su tab f vs ck=some (p,ret,ck'))(hp:Holds p):ah P f vs ck ret ck':=by
 induction tab with
 |nil=>simp[su]at h
 | cons e r ih =>
   have ih':=ih (fun x hx=>ht x (aD _ hx))
   simp only[su]at h
   cases hb:Nat.beq e.1 f
   ·rw[hb]at h;exact ih' h
   · rw[hb]at h
     simp only[cond_true]at h
     split at h
     · rename_i x hx
       simp only[aa]at h
       subst h
       rw[←ak hb]
       exact ht e az _ _ _ _ _ hx hp
     ·exact ih' h
def iZ(P:Program)(f:Nat):Bool:=match P.funcs[f]? with
 | some fn=>!(fn.name=="runtime.NumGoroutine")&&fn.body.isSome
 |none=>false
/-! ### back from a call -/
def back(m:List Nat)(n j:Nat):Nat:=match m[j]? with
 |some i=>i
 |none=>n+(j - m.length)
def ei:List Chunk→List Nat→List Chunk→List Chunk
 |ck,i::m,c::cs=>ei (ck.set i c) m cs
 |ck,_,_=>ck
theorem cM:∀(m:List Nat) (ck cs:List Chunk),(ei ck m cs).length=ck.length
 |[],ck,cs=>by cases cs <;> rfl
 |i::m,ck,[]=>rfl
 |i::m,ck,c::cs=>by simp only[ei];rw[cM m,bA]
theorem gy:∀(m:List Nat) (ck cs:List Chunk),(∀(i j:Nat) x,m[i]?=some x→m[j]?=some x→i=j)→m.length≤cs.length→∀(i:Nat) c,(ei ck m cs)[i]?=some c →
 (∃j:Nat,m[j]?=some i∧cs[j]?=some c)∨((∀j:Nat,m[j]?≠some i)∧ck[i]?=some c)
 | [],ck,cs,_,_,i,c,h=>by
   have:ei ck [] cs=ck:=by cases cs <;> rfl
   rw[this]at h
   exact .inr ⟨fun j=>by simp,h⟩
 |x::m,ck,[],_,hl,i,c,h=>by simp at hl
 | x :: m,ck,d::cs,hi,hl,i,c,h=>by
   simp only[ei]at h
   rcases gy m _ cs (fun a b y ha hb=>by have:=hi (a+1) (b+1) y (by simpa using ha) (by simpa using hb);omega) (by simpa using hl) i c h with⟨j,h1,h2⟩ |⟨h1,h2⟩
   ·exact .inl ⟨j+1,by simpa using h1,by simpa using h2⟩
   · by_cases hx:x=i
     · subst hx
       have:x<ck.length:=by have:=(List.getElem?_eq_some_iff.1 h2).1;simpa using this
       rw[List.getElem?_set_self this]at h2
       exact .inl ⟨0,rfl,h2⟩
     · rw[List.getElem?_set_ne hx]at h2
       refine .inr ⟨fun j=>?_,h2⟩
       cases j with
       |zero=>simpa using hx
       |succ j=>simpa using h1 j
section
variable{Γ:Ctx}{ck:List Chunk}{V:Vn}{w:World}
theorem WOk.lend(r:WOk Γ ck V w){m:List Nat}{ck0:List Chunk}(hp:fu ck m=some ck0)(hin:within m (ck0.flatMap Chunk.refs)=true)(hm:gD m=true) :
 WOk (entry (ck0.map (Chunk.map fun i=>c6 i m 0)) (iy m V) w) (ck0.map (Chunk.map fun i=>c6 i m 0)) (iy m V) w:=by
 have hpo:=nn (V:=V) (w:=w) r.own hp hin hm
 refine{ext:=Fr.refl _ _,imm:=r.imm,hle:=HLe.refl _,frz:=fun k hk=>.inl hk,agr:=fun i _=>⟨rfl,rfl⟩,own:=fun j c hc=>(hpo j c hc).1,base:=?_,inj:=?_}
 · intro j c b hc hb
   refine⟨.inr ⟨j,c,hc,hb⟩,?_⟩
   obtain⟨_,i,c0,h1,h2,h3⟩:=hpo j c hc
   rw[h3]at hb
   exact(r.base i c0 b h2 hb).2
 · intro j k c d b hc hd hb1 hb2
   obtain⟨_,i,c0,h5,h6,h7⟩:=hpo j c hc
   obtain⟨_,i',d0,g5,g6,g7⟩:=hpo k d hd
   rw[h7]at hb1
   rw[g7]at hb2
   have:=r.inj i i' c0 d0 b h6 g6 hb1 hb2
   subst this
   exact eS hm j k i h5 g5
theorem WOk.back(r:WOk Γ ck V w)(hwf:mc ck=true)(hΓ:Γ.m≤ck.length){m:List Nat}{ck0:List Chunk}(hp:fu ck m=some ck0)(hin:within m (ck0.flatMap Chunk.refs)=true)(hm:gD m=true)
 {ck2:List Chunk} {V2:Vn} {w2:World} (r2:WOk (entry (ck0.map (Chunk.map fun i=>c6 i m 0)) (iy m V) w) ck2 V2 w2) (hl:m.length≤ck2.length) :
 ∃V3,Agree ck.length V V3∧(∀s,Turned (back m ck.length) V2 V3 s)∧WOk Γ (ei ck m (ck2.map (Chunk.map (back m ck.length)))++(ck2.drop m.length).map (Chunk.map (back m ck.length))) V3 w2:=by
 have hpo:=nn (V:=V) (w:=w) r.own hp hin hm
 have hpk:=kM hp
 have hmlt:∀(j i:Nat),m[j]?=some i→i<ck.length∧∃c,ck[i]?=some c∧ck0[j]?=some c:=by
  intro j i hj
  have hjl:j<ck0.length:=by rw[hpk.1];exact(List.getElem?_eq_some_iff.1 hj).1
  obtain⟨i',h1,h2⟩:=hpk.2 j _ (List.getElem?_eq_getElem hjl)
  rw[hj]at h1
  simp only[aa]at h1
  subst h1
  exact⟨(List.getElem?_eq_some_iff.1 h2).1,_,h2,List.getElem?_eq_getElem hjl⟩
 let V3:Vn:=⟨V2.H,fun i=>if i<ck.length then V.σ i else V2.σ (m.length+(i - ck.length)),fun i=>if i<ck.length then V.ov i else V2.ov (m.length+(i - ck.length))⟩
 have hag:Agree ck.length V V3:=⟨r2.hle,fun i hi=>⟨if_pos hi,if_pos hi⟩⟩
 have hcm:(ck0.map (Chunk.map fun i=>c6 i m 0)).length=m.length:=by rw[aP,hpk.1]
 have hback:∀j,V3.σ (Ev.back m ck.length j)=V2.σ j∧V3.ov (Ev.back m ck.length j)=V2.ov j:=by
  intro j
  unfold Ev.back
  cases hj:m[j]? with
  | some i =>
    have hi:=(hmlt j i hj).1
    have hjl:j<m.length:=(List.getElem?_eq_some_iff.1 hj).1
    have h1:=r2.agr j (by show j<(ck0.map (Chunk.map fun i=>c6 i m 0)).length;rw[hcm];exact hjl)
    have hg:m.getD j 0=i:=by simp[List.getD_eq_getElem?_getD,hj]
    have e1:V2.σ j=V.σ i:=by rw[h1.1];show V.σ (m.getD j 0)=_;rw[hg]
    have e2:V2.ov j=V.ov i:=by rw[h1.2];show V.ov (m.getD j 0)=_;rw[hg]
    simp only[V3,if_pos hi,e1,e2,and_self]
  | none =>
    have hjl:m.length≤j:=by simpa using hj
    have h2:¬ck.length+(j - m.length)<ck.length:=by omega
    have h3:m.length+(ck.length+(j - m.length) - ck.length)=j:=by omega
    simp only[V3,if_neg h2,h3,and_self]
 have hT:∀s,Turned (Ev.back m ck.length) V2 V3 s:=fun s=>⟨HLe.refl _,fun j _=>hback j⟩
 have hM:∀b,(entry (ck0.map (Chunk.map fun i=>c6 i m 0)) (iy m V) w).M b→∃(j i:Nat) (c:Chunk),m[j]?=some i∧ck[i]?=some c∧c.blk V i=some b:=by
  rintro b ⟨j,c,hc,hb⟩
  obtain⟨_,i,c0,h1,h2,h3⟩:=hpo j c hc
  rw[h3]at hb
  exact⟨j,i,c0,h1,h2,hb⟩
 have hfree:∀(i:Nat) (c:Chunk) (b:Nat),(∀j:Nat,m[j]?≠some i)→ck[i]?=some c→c.blk V i=some b→¬(entry (ck0.map (Chunk.map fun i=>c6 i m 0)) (iy m V) w).M b:=by
  intro i c b hn hc hb hMb
  obtain⟨j,i',c',h1,h2,h3⟩:=hM b hMb
  have:=r.inj i i' c c' b hc h2 hb h3
  subst this
  exact hn j h1
 have hold:∀(i:Nat) (c:Chunk),(∀j:Nat,m[j]?≠some i)→ck[i]?=some c→c.holds V3 w2 i∧c.blk V3 i=c.blk V i:=by
  intro i c hn hc
  have hi:=jt hwf hc
  refine⟨Chunk.holds_kept (Chunk.holds_agree hag hi.1 hi.2 (r.own i c hc)) fun b hb=>?_,Chunk.blk_agree hag hi.1 c⟩
  rw[Chunk.blk_agree hag hi.1]at hb
  exact r2.ext.block b (Chunk.blk_lt (r.own i c hc) hb) (hfree i c b hn hc hb)
 have hnew:∀(j:Nat) (c:Chunk),ck2[j]?=some c→(c.map (Ev.back m ck.length)).holds V3 w2 (Ev.back m ck.length j)∧(c.map (Ev.back m ck.length)).blk V3 (Ev.back m ck.length j)=c.blk V2 j :=
  fun j c hc=>⟨Chunk.holds_map (hT _) (r2.own j c hc),Chunk.blk_map (hT _)⟩
 have hbackd:∀k,Ev.back m ck.length (m.length+k)=ck.length+k:=by
  intro k;unfold Ev.back
  rw[List.getElem?_eq_none (by omega)]
  simp only;omega
 have hget:∀(i:Nat) (c:Chunk),(ei ck m (ck2.map (Chunk.map (Ev.back m ck.length)))++(ck2.drop m.length).map (Chunk.map (Ev.back m ck.length)))[i]?=some c →
  (∃(j:Nat) (c2:Chunk),ck2[j]?=some c2∧i=Ev.back m ck.length j∧c=c2.map (Ev.back m ck.length))∨((∀j:Nat,m[j]?≠some i)∧ck[i]?=some c):=by
  intro i c hc
  by_cases hi:i<ck.length
  · rw[List.getElem?_append_left (by rw[cM];exact hi)]at hc
    rcases gy m ck _ (eS hm) (by rw[aP];exact hl) i c hc with⟨j,h1,h2⟩ |h
    · rw[List.getElem?_map,aj]at h2
      obtain⟨c2,h3,rfl⟩:=h2
      exact .inl ⟨j,c2,h3,by unfold Ev.back;rw[h1],rfl⟩
    ·exact .inr h
  · rw[List.getElem?_append_right (by rw[cM];omega),cM,List.getElem?_map,aj]at hc
    obtain⟨c2,h3,rfl⟩:=hc
    rw[List.getElem?_drop]at h3
    exact .inl ⟨_,c2,h3,by rw[hbackd];omega,rfl⟩
 have hnb:∀(j:Nat) (c:Chunk) (b:Nat),ck2[j]?=some c→c.blk V2 j=some b→(w.heap.size≤b∨(entry (ck0.map (Chunk.map fun i=>c6 i m 0)) (iy m V) w).M b)∧V2.H b=none:=fun j c b hc hb=>r2.base j c b hc hb
 refine⟨V3,hag,hT,{ext:=?_,imm:=r2.imm,hle:=r.hle.trans r2.hle,frz:=?_,agr:=?_,own:=?_,base:=?_,inj:=?_}⟩
 · refine⟨r2.ext.os.trans r.ext.os,r2.ext.tape.trans r.ext.tape,r2.ext.output.trans r.ext.output,aC r.ext.size r2.ext.size,fun k hk hn=>?_⟩
   rw[←r.ext.block k hk hn]
   refine r2.ext.block k (bW hk r.ext.size) fun hMk=>?_
   obtain⟨j,i,c,h1,h2,h3⟩:=hM k hMk
   rcases(r.base i c k h2 h3).1 with h |h
   ·omega
   ·exact hn h
 · intro k hk
   rcases r2.frz k hk with h |h |h
   ·exact r.frz k h
   ·exact .inr (.inl (aC r.ext.size h))
   · obtain⟨j,i,c,h1,h2,h3⟩:=hM k h
     exact .inr (r.base i c k h2 h3).1
 · intro i hi
   have h1:=hag.same i (by omega)
   rw[h1.1,h1.2];exact r.agr i hi
 · intro i c hc
   rcases hget i c hc with⟨j,c2,h1,rfl,rfl⟩ |⟨h1,h2⟩
   ·exact(hnew j c2 h1).1
   ·exact(hold i c h1 h2).1
 · intro i c b hc hb
   rcases hget i c hc with⟨j,c2,h1,rfl,rfl⟩ |⟨h1,h2⟩
   · rw[(hnew j c2 h1).2]at hb
     obtain⟨h3,h4⟩:=hnb j c2 b h1 hb
     refine⟨?_,h4⟩
     rcases h3 with h3 |h3
     ·exact .inl (aC r.ext.size h3)
     · obtain⟨j',i',c',g1,g2,g3⟩:=hM b h3
       exact(r.base i' c' b g2 g3).1
   · rw[(hold i c h1 h2).2]at hb
     have h3:=r.base i c b h2 hb
     refine⟨h3.1,?_⟩
     cases hH:V2.H b with
     |none=>rfl
     | some x =>
       exfalso
       rcases r2.frz b (by rw[hH];simp)with h |h |h
       ·exact h h3.2
       ·have h':w.heap.size≤b:=h;have:=Chunk.blk_lt (r.own i c h2) hb;omega
       ·exact hfree i c b h1 h2 hb h
 · intro i k c d b hc hd hb1 hb2
   rcases hget i c hc with⟨j,c2,h1,rfl,rfl⟩ |⟨h1,h2⟩ <;> rcases hget k d hd with⟨j',d2,g1,rfl,rfl⟩ |⟨g1,g2⟩
   · rw[(hnew j c2 h1).2]at hb1
     rw[(hnew j' d2 g1).2]at hb2
     rw[r2.inj j j' c2 d2 b h1 g1 hb1 hb2]
   · rw[(hnew j c2 h1).2]at hb1
     rw[(hold k d g1 g2).2]at hb2
     exfalso
     rcases(hnb j c2 b h1 hb1).1 with h |h
     ·have:=Chunk.blk_lt (r.own k d g2) hb2;omega
     ·exact hfree k d b g1 g2 hb2 h
   · rw[(hold i c h1 h2).2]at hb1
     rw[(hnew j' d2 g1).2]at hb2
     exfalso
     rcases(hnb j' d2 b g1 hb2).1 with h |h
     ·have:=Chunk.blk_lt (r.own i c h2) hb1;omega
     ·exact hfree i c b h1 h2 hb1 h
   · rw[(hold i c h1 h2).2]at hb1
     rw[(hold k d g1 g2).2]at hb2
     exact r.inj i k c d b h2 g2 hb1 hb2
end
end Go.Ev
