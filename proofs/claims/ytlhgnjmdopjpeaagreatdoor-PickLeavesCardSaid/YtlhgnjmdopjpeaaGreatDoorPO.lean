/- An executor for function bodies of the model over data, part PN: a statement whose order Go leaves open, where no operation changes what another one sees. Conditions: each operation's own. An executor for function bodies of the model over data, part PO: a statement whose order Go leaves open, as one step. Conditions: each operation's own. -/
import Derived.Test.YtlhgnjmdopjpeaaGreatDoorPM
import Derived.Orders
namespace Go.Ev
open Go.RowKit
def bL(ops:Array Oper)(i:Nat):Option Nat:=(ops[i]?).bind (·.dst)
def bound(e:Edge):Bool:=match e.ground with |.textOnly _=>false |.gcOnly _=>false |_=>true
def cf(o:Oper):List Nat:=(o.after.toList.filter bound).map (·.on)
def anc(ops:Array Oper):Nat→Nat→List Nat
 |0,_=>[]
 | n+1,i=>match ops[i]? with
   |some o=>(cf o).flatMap fun j=>j::anc ops n j
   |none=>[]
def iX:List Nat→Bool
 |[]=>true
 |x::r=>!r.any (Nat.beq x)&&iX r
def eV(ops:Array Oper):List Nat:=ops.toList.filterMap (·.dst)
def jH(ops:Array Oper):Bool :=
 ops.toList.all (fun o=>o.dst.isSome)&&iX (eV ops)&&(ops.toList.zipIdx.all fun p=>(cf p.1).all fun j=>Nat.blt j p.2)
def bN(ops:Array Oper)(st:ST):ST:={st with fr:=st.fr.filter (fun q=>!(eV ops).any (fun d=>q.2.onSlot d||Nat.beq q.1 d)),kn:=[]}
theorem Agree.trans{n:Nat}{V V1 V2:Vn}(h:Agree n V V1)(k:Agree n V1 V2):Agree n V V2:=⟨h.hle.trans k.hle,fun i hi=>⟨(k.same i hi).1.trans (h.same i hi).1,(k.same i hi).2.trans (h.same i hi).2⟩⟩
def rD(Γ:Ctx)(ck:List Chunk)(V1:Vn)(Φ:Vn→Value→Prop)(v:Value)(w':World):Prop:=∃V2,Agree ck.length V1 V2∧WOk Γ ck V2 w'∧Φ V2 v
def Af(P:Program)(o:Oper)(a:Act)(w:World)(Ψ:Value→World→Prop):Prop :=
 (∃v w',(execOp a.eval o).run P w = .ok (.value v) w'∧Ψ v w') ∨
 (∃g args w',(execOp a.eval o).run P w = .ok (.enter g args) w'∧Calls P g args w' fun e w2=>∃v,e = .returned v∧Ψ v w2)
def Sc(P:Program)(Γ:Ctx)(ck:List Chunk)(ops:Array Oper)(o:Oper)(a:Act)(w:World)(V1:Vn)(Φ:Vn→Value→Prop):Prop :=
 (Region.wanted o (yielded ops a.tmps)=true→Af P o a w (rD Γ ck V1 Φ))∧(Region.wanted o (yielded ops a.tmps)=false→Φ V1 undef)
section
variable{Γ:Ctx}{P:Program}{st:ST}{V:Vn}{a:Act}{w:World}{ops:Array Oper}
theorem qy(r:Rel Γ st V a w)(ops:Array Oper):Rel Γ (bN ops st) V a w :=
 (r.weaken (fr':=st.fr.filter _) (fun p hp=>(az.1 hp).1)).marks _
theorem Br(r:Rel Γ (bN ops st) V a w){d:Nat}(hd:d∈eV ops)(v:Value)(hn:d<st.n):Rel Γ (bN ops st) V (a.put (some d) v) w:=by
 have h:=r.forget d v hn
 have he:iY d (bN ops st).fr=(bN ops st).fr:=by
  unfold iY
  apply dH.2
  intro q hq
  have hq2:=(az.1 hq).2
  simp only[aE,dC,aM,not_or]at hq2
  have:=hq2 d hd
  simp only[bY]at this
  simp[this.1,this.2]
 rw[he]at h
 exact h
theorem nS(hwf:st.wf=true):(bN ops st).wf=true:=by
 simp only[ST.wf,af]at hwf ⊢
 exact⟨al.2 fun p hp=>al.1 hwf.1 p (az.1 hp).1,hwf.2⟩
theorem pO(r:Rel Γ (bN ops st) V a w)(hwf:st.wf=true){V':Vn}{w':World}(hag:Agree st.ck.length V V')(hw:WOk Γ st.ck V' w'):Rel Γ (bN ops st) V' a w' :=
 r.turn (nS hwf) hag hw (ar _)
end
theorem pM:∀{l:List Nat},iX l=true→∀(i j:Nat) x,l[i]?=some x→l[j]?=some x→i=j
 |[],_,i,j,x,h,_=>by simp at h
 | y :: r,h,i,j,x,hi,hj=>by
   simp only[iX,af,aE,dC]at h
   have hno:∀(k:Nat),r[k]?≠some y:=by
    intro k hk
    exact h.1 y (List.mem_of_getElem? hk) (by simp)
   cases i with
   | zero =>
     cases j with
     |zero=>rfl
     | succ j =>
       simp only[List.getElem?_cons_zero,aa,List.getElem?_cons_succ]at hi hj
       subst hi;exact absurd hj (hno j)
   | succ i =>
     cases j with
     | zero =>
       simp only[List.getElem?_cons_zero,aa,List.getElem?_cons_succ]at hi hj
       subst hj;exact absurd hi (hno i)
     | succ j =>
       simp only[List.getElem?_cons_succ]at hi hj
       rw[pM h.2 i j x hi hj]
theorem l1{α:Type}{f:α→Option Nat}:∀{l:List α},(∀x∈l,(f x).isSome=true)→∀(i:Nat) x d,l[i]?=some x→f x=some d→(l.filterMap f)[i]?=some d
 |[],_,i,x,d,h,_=>by simp at h
 | y :: r,hs,i,x,d,hi,hf=>by
   have hy:=hs y aA
   cases hfy:f y with
   |none=>rw[hfy]at hy;cases hy
   | some e =>
     rw[List.filterMap_cons_some hfy]
     cases i with
     | zero =>
       simp only[List.getElem?_cons_zero,aa]at hi
       subst hi;rw[hf]at hfy;simpa using hfy.symm
     | succ i =>
       simp only[List.getElem?_cons_succ]at hi ⊢
       exact l1 (fun x hx=>hs x (aH _ hx)) i x d hi hf
theorem Oo{ops:Array Oper}(h:jH ops=true){i j d:Nat}(hi:bL ops i=some d)(hj:bL ops j=some d):i=j:=by
 simp only[jH,af]at h
 have hs:∀x∈ops.toList,(x.dst).isSome=true:=al.1 h.1.1
 unfold bL at hi hj
 simp only[aR]at hi hj
 obtain⟨o,h1,h2⟩:=hi
 obtain⟨o',h3,h4⟩:=hj
 exact pM h.1.2 i j d (l1 hs i o d (by simpa using h1) h2) (l1 hs j o' d (by simpa using h3) h4)
section
variable{Γ:Ctx}{P:Program}{f:Go.Sy.Md}{R:Ending→World→Prop}{st:ST}{V:Vn}{ops:Array Oper}{kk:List Item}
def leftOf(ops:Array Oper)(listed:Array Bool):List Nat:=(List.range ops.size).filter fun i=>!listed.getD i true
theorem vm{listed:Array Bool}{i:Nat}(hs:listed.size=ops.size)(hi:i∈leftOf ops listed):(leftOf ops (listed.setIfInBounds i true)).length<(leftOf ops listed).length:=by
 have hi2:i<ops.size:=by have:=(az.1 hi).1;simpa using this
 have hsub:leftOf ops (listed.setIfInBounds i true)=(leftOf ops listed).filter (fun x=>decide (x≠i)):=by
  unfold leftOf
  rw[List.filter_filter]
  apply gh
  intro x hx
  simp only[Array.getD_eq_getD_getElem?,Array.getElem?_setIfInBounds]
  by_cases e:i=x
  ·subst e;simp[hs,hi2]
  ·simp[e,Ne.symm e]
 rw[hsub]
 exact List.length_filter_lt_length_iff_exists.2 ⟨i,hi,by simp⟩
def FN:SV→Bool
 |.x (.c (.pd _))=>true
 |_=>false
theorem Pe (Φ:Nat→Vn→Value→Prop) (hmono:∀i V1 V2 v,Agree st.ck.length V1 V2→Φ i V1 v→Φ i V2 v) (hok:jH ops=true) (hn:(eV ops).all (fun d=>Nat.blt d st.n)=true) (hwf:st.wf=true)
 (hobl:∀i o,ops[i]?=some o→∀V1,Agree st.ck.length V V1→∀a w,Rel Γ (bN ops st) V1 a w→(∀p∈st.fr,FN p.2=true→(∀j,bL ops j=some p.1→i∈anc ops ops.size j)→cB V1 a p.1 p.2)→(∀j∈anc ops ops.size i,∀d,bL ops j=some d→Φ j V1 (a.tmps.getD d undef))→Sc P Γ st.ck ops o a w V1 (Φ i))
 (hk:∀V1,Agree st.ck.length V V1→∀a w,Rel Γ (bN ops st) V1 a w→(∀i d,bL ops i=some d→Φ i V1 (a.tmps.getD d undef))→Go.Sy.Fin P f R kk a w) :
 ∀(fuel t:Nat) (listed:Array Bool) V1,Agree st.ck.length V V1→listed.size=ops.size→(leftOf ops listed).length≤fuel→∀a w,Rel Γ (bN ops st) V1 a w→(∀p∈st.fr,FN p.2=true→(∀j,bL ops j=some p.1→listed.getD j false=false)→cB V1 a p.1 p.2) →
  (∀i d,listed.getD i false=true→bL ops i=some d→Φ i V1 (a.tmps.getD d undef))→(∀i o,listed.getD i false=true→ops[i]?=some o→∀j∈cf o,listed.getD j false=true) →
  Go.Sy.Fin P f R (.inRegion ops (Region.linearise.go .any ops fuel t listed [])::kk) a w:=by
 have hedge:∀i o,ops[i]?=some o→∀j∈cf o,j<i:=by
  intro i o ho j hj
  simp only[jH,af]at hok
  have h1:=al.1 hok.2 (o,i) (by
   rw[List.mem_zipIdx_iff_getElem?];simpa using ho)
  exact ay (al.1 h1 j hj)
 have hbinds:∀e:Edge,Region.binds .any e=bound e:=by intro e;unfold Region.binds bound;cases e.ground <;> rfl
 have hall:∀listed:Array Bool,listed.size=ops.size→(∀i,i<ops.size→listed.getD i false=true)→∀i d,bL ops i=some d→listed.getD i false=true:=by
  intro listed hs h i d hd
  unfold bL at hd
  simp only[aR]at hd
  obtain⟨o,h1,_⟩:=hd
  exact h i (Array.getElem?_eq_some_iff.1 h1).1
 have hfinish:∀(listed:Array Bool) V1,Agree st.ck.length V V1→listed.size=ops.size→leftOf ops listed=[]→∀a w,Rel Γ (bN ops st) V1 a w →
  (∀i d,listed.getD i false=true→bL ops i=some d→Φ i V1 (a.tmps.getD d undef))→Go.Sy.Fin P f R (.inRegion ops []::kk) a w:=by
  intro listed V1 hH hs hl a w r hd
  refine Go.Sy.Fin.region_end (hk V1 hH a w r fun i d hid=>hd i d ?_ hid)
  refine hall listed hs (fun i hi=>?_) i d hid
  have:=List.filter_eq_nil_iff.1 hl i (by simpa using hi)
  simp only[bY,cE]at this
  rw[Array.getD_eq_getD_getElem?,Array.getElem?_eq_getElem (by omega)]at this ⊢
  simpa using this
 intro fuel
 induction fuel with
 | zero =>
   intro t listed V1 hH hs hl a w r _ hd _
   simp only[Region.linearise.go,List.reverse_nil]
   exact hfinish listed V1 hH hs (bm (by omega)) a w r hd
 | succ fuel ih =>
   intro t listed V1 hH hs hl a w r hold hd hcl
   simp only[Region.linearise.go]
   change Go.Sy.Fin P f R (.inRegion ops (match(Region.ready .any ops listed)[t % (Region.ready .any ops listed).length]? with
    |some i=>Region.linearise.go .any ops fuel (t / (Region.ready .any ops listed).length) (listed.setIfInBounds i true) [i]
    |none=>[].reverse)::kk) a w
   cases hi:(Region.ready .any ops listed)[t % (Region.ready .any ops listed).length]? with
   | none =>
     have hnil:Region.ready .any ops listed=[]:=by
      cases hr:Region.ready .any ops listed with
      |nil=>rfl
      | cons x xs =>
        rw[hr]at hi
        have hlt:t % (x::xs).length<(x::xs).length:=Nat.mod_lt _ (by simp)
        rw[List.getElem?_eq_none_iff]at hi
        omega
     refine hfinish listed V1 hH hs ?_ a w r hd
     cases hleft:leftOf ops listed with
     |nil=>rfl
     | cons x xs =>
       exfalso
       have hex:∃m,m∈leftOf ops listed∧∀y,y<m→y ∉ leftOf ops listed:=by
        have:∃m,m∈leftOf ops listed:=⟨x,by rw[hleft];exact aA⟩
        obtain⟨m,hm⟩:=this
        induction m using Nat.strongRecOn with
        | _ m ihm =>
          by_cases h:∃y,y<m∧y∈leftOf ops listed
          ·obtain⟨y,h1,h2⟩:=h;exact ihm y h1 h2
          ·exact⟨m,hm,fun y hy hy2=>h ⟨y,hy,hy2⟩⟩
       obtain⟨m,hm,hmin⟩:=hex
       have hm2:m<ops.size:=by have:=(az.1 hm).1;simpa using this
       have:m∈Region.ready .any ops listed:=by
        unfold Region.ready
        refine az.2 ⟨by simpa using hm2,?_⟩
        have hmo:=(az.1 hm).2
        simp only[af]
        refine⟨hmo,?_⟩
        have ho:ops[m]?=some ops[m]:=Array.getElem?_eq_getElem hm2
        rw[ho]
        simp only[bn,fk]
        rw[←Array.all_toList]
        refine al.2 fun e he=>?_
        simp only[aM,aE]
        by_cases hb:bound e=true
        · right
          have hj:e.on∈cf ops[m]:=aL.2 ⟨e,az.2 ⟨he,hb⟩,rfl⟩
          have hlt:=hedge m _ ho e.on hj
          have:=hmin e.on hlt
          have hno:¬(e.on∈leftOf ops listed):=this
          unfold leftOf at hno
          rw[az]at hno
          simp only[bB,not_and,bY,cE]at hno
          have:=hno (by omega)
          rw[Array.getD_eq_getD_getElem?,Array.getElem?_eq_getElem (by omega)]at this ⊢
          simpa using this
        ·left;rw[hbinds];simpa using hb
       rw[hnil]at this
       cases this
   | some i =>
     simp only[]
     have hmem:=List.mem_of_getElem? hi
     unfold Region.ready at hmem
     obtain⟨h1,h2⟩:=az.1 hmem
     simp only[af]at h2
     have hi2:i<ops.size:=by simpa using h1
     have ho:ops[i]?=some ops[i]:=Array.getElem?_eq_getElem hi2
     rw[ho]at h2
     simp only[bn,fk]at h2
     have hdeps:∀j∈cf ops[i],listed.getD j false=true:=by
      intro j hj
      obtain⟨e,he,rfl⟩:=aL.1 hj
      obtain⟨he1,he2⟩:=az.1 he
      have h3:=h2.2
      rw[←Array.all_toList]at h3
      have:=al.1 h3 e he1
      rw[hbinds,he2]at this
      simpa using this
     have aux:∀n i',listed.getD i' false=true→∀j,j∈anc ops n i'→listed.getD j false=true:=by
      intro n
      induction n with
      |zero=>intro i' _ j hj;simp[anc]at hj
      | succ n ihn =>
        intro i' hi' j hj
        unfold anc at hj
        split at hj
        · rename_i o' ho'
          obtain⟨x,hx,hjx⟩:=aU.1 hj
          have hlx:=hcl i' o' hi' ho' x hx
          rcases aJ.1 hjx with rfl |hjx
          ·exact hlx
          ·exact ihn x hlx j hjx
        ·cases hj
     have hnl:listed.getD i false=false:=by
      have h3:=h2.1
      simp only[aE]at h3
      rw[Array.getD_eq_getD_getElem?]at h3 ⊢
      cases h4:listed[i]? with
      |none=>rfl
      |some b=>rw[h4]at h3;exact h3
     have hanc:∀n j,j∈anc ops n i→listed.getD j false=true:=by
      intro n j hj
      cases n with
      |zero=>simp[anc]at hj
      | succ n =>
        unfold anc at hj
        rw[ho]at hj
        obtain⟨x,hx,hjx⟩:=aU.1 hj
        rcases aJ.1 hjx with rfl |hjx
        ·exact hdeps _ hx
        ·exact aux n x (hdeps x hx) j hjx
     have hgo:=hobl i _ ho V1 hH a w r (fun p hp hpd hj=>hold p hp hpd fun j hjd=>by
      cases hl:listed.getD j false with
      |false=>rfl
      |true=>have:=aux _ j hl i (hj j hjd);rw[hnl]at this;cases this) fun j hj d hjd=>hd j d (hanc _ j hj) hjd
     have hsome:∃d,ops[i].dst=some d:=by
      simp only[jH,af]at hok
      have:=al.1 hok.1.1 ops[i] (by simp)
      exact ez.1 this
     obtain⟨d,hdd⟩:=hsome
     have hid:bL ops i=some d:=by simp[bL,ho,hdd]
     have hdm:d∈eV ops:=List.mem_filterMap.2 ⟨ops[i],by simp,hdd⟩
     have hdn:d<st.n:=ay (al.1 hn d hdm)
     have hleft:i∈leftOf ops listed:=az.2 ⟨h1,h2.1⟩
     have hcnt:=vm hs hleft
     have hnext:∀V2 v w',Agree st.ck.length V1 V2→Rel Γ (bN ops st) V2 a w'→Φ i V2 v →
      Go.Sy.Fin P f R (.inRegion ops (Region.linearise.go .any ops fuel (t / (Region.ready .any ops listed).length) (listed.setIfInBounds i true) [])::kk) (a.put ops[i].dst v) w':=by
      intro V2 v w' hH2 r2 hΦ
      rw[hdd]
      have hput:∀x,(a.put (some d) v).tmps.getD x undef=if x=d then v else a.tmps.getD x undef:=fun x=>mO _ _ _ _ (by rw[r2.size];exact hdn)
      have hlist:∀x,(listed.setIfInBounds i true).getD x false=true→x=i∨listed.getD x false=true:=by
       intro x hx
       by_cases e:x=i
       ·exact .inl e
       · right
         rw[Array.getD_eq_getD_getElem?,Array.getElem?_setIfInBounds_ne (Ne.symm e)]at hx
         rw[Array.getD_eq_getD_getElem?];exact hx
      have hlist2:∀x,listed.getD x false=true→(listed.setIfInBounds i true).getD x false=true:=by
       intro x hx
       by_cases e:x=i
       ·subst e;rw[Array.getD_eq_getD_getElem?,Array.getElem?_setIfInBounds_self_of_lt (by omega)];rfl
       · rw[Array.getD_eq_getD_getElem?,Array.getElem?_setIfInBounds_ne (Ne.symm e)]
         rw[Array.getD_eq_getD_getElem?]at hx;exact hx
      refine ih _ _ V2 (hH.trans hH2) (by rw[cR];exact hs) (by omega) _ w' (Br r2 hdm v hdn) ?_ ?_ ?_
      · intro p hp hpd hj
        have hself:(listed.setIfInBounds i true).getD i false=true:=by rw[Array.getD_eq_getD_getElem?,Array.getElem?_setIfInBounds_self_of_lt (by omega)];rfl
        have hne:p.1≠d:=fun e=>by have:=hj i (by rw[hid,e]);rw[hself]at this;cases this
        have hso:=hold p hp hpd fun j hjd=>by
         cases hl:listed.getD j false with
         |false=>rfl
         |true=>have h5:=hlist2 j hl;rw[hj j hjd]at h5;cases h5
        obtain⟨t',sv⟩:=p
        match sv,hpd,hso with
        | .x (.c (.pd q)),_,hso =>
          have hso':PR V1.H q (a.tmps.getD t' undef):=hso
          show PR V2.H q ((a.put (some d) v).tmps.getD t' undef)
          rw[hput,if_neg hne]
          exact hso'.mono hH2.hle
      · intro x e hx hxe
        rw[hput]
        rcases hlist x hx with rfl |hx
        · rw[hid]at hxe
          simp only[aa]at hxe
          subst hxe
          rw[if_pos rfl];exact hΦ
        · by_cases hed:e=d
          · subst hed
            have:=Oo hok hxe hid
            subst this
            rw[if_pos rfl];exact hΦ
          ·rw[if_neg hed];exact hmono x V1 V2 _ hH2 (hd x e hx hxe)
      · intro x o' hx hxo j hj
        rcases hlist x hx with rfl |hx
        · rw[ho]at hxo
          simp only[aa]at hxo
          subst hxo
          exact hlist2 j (hdeps j hj)
        ·exact hlist2 j (hcl x o' hx hxo j hj)
     rw[linearise_go_acc,List.reverse_singleton,List.singleton_append]
     by_cases hw:Region.wanted ops[i] (yielded ops a.tmps)=true
     · rcases hgo.1 hw with⟨v,w',hr,V2,g1,g2,g3⟩ |⟨g,args,w',hr,hc⟩
       ·exact Go.Sy.Fin.op_value ho hw hr (hnext V2 v w' g1 (pO r hwf g1 g2) g3)
       · -- a call is entered in the world as it stands
         refine Go.Sy.Fin.op_call ho hw hr (hc.mono fun e w2 hq=>?_)
         obtain⟨v,rfl,V2,g1,g2,g3⟩:=hq
         exact⟨v,rfl,hnext V2 v w2 g1 (pO r hwf g1 g2) g3⟩
     · have hw':Region.wanted ops[i] (yielded ops a.tmps)=false:=by simpa using hw
       exact Go.Sy.Fin.op_unwanted ho hw' (hnext V1 undef w (Agree.refl _ _) r (hgo.2 hw'))
end
structure FO where
 sv:SV
 tight:Option TypeId
def mB(ops:Array Oper)(fs:List FO):List Nat→List (Nat×SV)
 |[]=>[]
 | j::r=>match fs[j]?,bL ops j with
   |some fo,some d=>(d,fo.sv)::mB ops fs r
   |_,_=>mB ops fs r
def kZ(base:ST)(ops:Array Oper)(fs:List FO)(l:List Nat):ST:={base with fr:=mB ops fs l++base.fr}
def writer(ops:Array Oper)(t:Nat):Option Nat:=(List.range ops.size).find? fun j=>match bL ops j with |some d=>Nat.beq d t |none=>false
def oT(ops:Array Oper)(fs:List FO)(i:Nat):Operand→Option (TypeId×Src)
 | .tmp t=>match writer ops t with
   | some j=>bif (anc ops ops.size i).any (Nat.beq j)then match fs[j]? with
      |some ⟨.x (.c (.pd (.lst ty l))),some e⟩=>some (e,⟨none,ty,l⟩)
      |_=>none
     else none
   |none=>none
 |_=>none
def goF (P:Program) (cfg:Cfg) (s:ST) (f:Nat) (args:List SX):Option (Option Prop×SV) :=
 bif within [] (args.flatMap SX.refs)then
  match goA P cfg.tab s f args with
  | some (p,ret,ck')=>match ck'.drop s.ck.length with
    |[]=>bif within [] ret.refs then some (p,ret)else none
    |[.own _ t l]=>bif within [] (ret.frz (.own s.ck.length t l)).refs then some (p,ret.frz (.own s.ck.length t l))else none
    |_=>none
  |none=>none
 else goB P cfg s f args
def FZ(ops:Array Oper)(fs:List FO)(i:Nat):Op→Option (TypeId×Src)
 |.move x=>oT ops fs i x
 |.assign x=>oT ops fs i x
 |_=>none
def B5(P:Program)(tys:Tys)(s:ST)(op:Op):Option FO :=
 match opM P tys s op with
 | some (.c (.own k),ck')=>match ck'.drop s.ck.length with
   |[.own e t l]=>bif Nat.beq k s.ck.length then some ⟨.x (.c (.pd (.lst t l))),some e⟩else none
   |_=>none
 |_=>none
def Kr (P : Program) (s:ST) (ops:Array Oper) (fs:List FO) (i:Nat):Op→Option (Option Prop×FO)
 | .call { callee:=.builtin .append,args:=args,argTypes:=ts}=>match args.toList,ts.toList with
   | [x, y],[t,t']=>match oT ops fs i x,(bu s none y).bind (B8 s),P.underlying t with
     | some (e0,⟨_,tx,lx⟩),some ⟨_,ty,ly⟩,some (.slice e)=>match P.info? e with
       | some inf=>match inf.zero with
         | some z=>bif Nat.beq t t'&&Nat.beq e0 e&&Nat.beq tx.size inf.size&&Nat.beq z.cells.toList.length inf.size then
            if h:ty=tx then some (some (room (lx++(h ▸ ly:List tx.den)).length inf.bytes),⟨.x (.c (.pd (.lst tx (lx++(h ▸ ly:List tx.den))))),none⟩)else none
           else none
         |none=>none
       |none=>none
     |_,_,_=>none
   |_,_=>none
 |_=>none
def uZ (P:Program) (cfg:Cfg) (base:ST) (ops:Array Oper) (fs:List FO) (i:Nat) (o:Oper):Option (Option Prop×FO) :=
 match FZ ops fs i o.op with
 |some (e,src)=>some (none,⟨.x (.c (.pd (.lst src.t src.l))),some e⟩)
 | none => match wt P (kZ base ops fs (anc ops ops.size i)) none o.op with
   |some (p,sx)=>some (p,⟨.x sx,none⟩)
   | none=>match callee P cfg.tys (kZ base ops fs (anc ops ops.size i)) none o.op with
     |some (f,args)=>(goF P cfg (kZ base ops fs (anc ops ops.size i)) f args).map fun r=>(r.1,⟨r.2,none⟩)
     | none=>match opT (kZ base ops fs (anc ops ops.size i)) o.op with
       |some l=>some (none,⟨.tup l,none⟩)
       | none=>match opC (kZ base ops fs (anc ops ops.size i)) o.op with
         |some sx=>some (none,⟨.x sx,none⟩)
         | none=>match B5 P cfg.tys (kZ base ops fs (anc ops ops.size i)) o.op with
           |some fo=>some (none,fo)
           |none=>Kr P (kZ base ops fs (anc ops ops.size i)) ops fs i o.op
def F7(ops:Array Oper)(fr:List (Nat×SV))(i:Nat):List (Nat×SV) :=
 fr.filter fun p=>FN p.2&&((eV ops).any (Nat.beq p.1)&&(List.range ops.size).all fun j=>match bL ops j with |some d=>!Nat.beq d p.1||(anc ops ops.size j).any (Nat.beq i) |none=>true)
def mz (P:Program) (cfg:Cfg) (base:ST) (ops:Array Oper) (fr0:List (Nat×SV)):List Oper→List FO→Option (List Prop×List FO)
 |[],fs=>some ([],fs)
 | o::r,fs=>bif o.guard.isNone then
    match uZ P cfg {base with fr:=base.fr++F7 ops fr0 fs.length} ops fs fs.length o with
    | some (p,fo)=>bif fo.sv.lt base.ck.length&&hZ fo.sv then
       match mz P cfg base ops fr0 r (fs++[fo])with
       |some (ps,fs')=>some (match p with |some p=>p::ps |none=>ps,fs')
       |none=>none
      else none
    |none=>none
   else none
def jm(V:Vn)(e:TypeId)(t:ETy)(l:List t.den)(v:Value):Prop :=
 ∃g cur,v = .slice (some ⟨g,0,none⟩) l.length l.length∧V.H g=some (.cells cur e (0,0))∧cur.size=l.length * t.size∧l.length≤maxLen∧All2 (PR V.H) (l.flatMap t.enc) cur.toList
def FO.R(V:Vn)(fo:FO)(v:Value):Prop:=fo.sv.R V v∧∀e,fo.tight=some e→match fo.sv with
 |.x (.c (.pd (.lst t l)))=>jm V e t l v
 |_=>False
theorem jm.lst{V:Vn}{e:TypeId}{t:ETy}{l:List t.den}{v:Value}(h:jm V e t l v):PR V.H (.lst t l) v:=by
 obtain⟨g,cur,rfl,h1,h2,h3,h4⟩:=h
 refine .lst t l g 0 l.length cur e (0,0) h1 (ar _) h3 (by omega) fun i x hx j p hp u hu=>?_
 obtain⟨u',h5,h6⟩:=h4.get (mL hx hp)
 rw[aY]at hu
 have:cur[i * t.size+j]?=some u':=by simpa using h5
 rw[hu]at this
 simp only[aa]at this
 subst this;exact h6
theorem SV.R_agree{n:Nat}{V V':Vn}(h:Agree n V V'){sv:SV}(hs:sv.lt n=true){v:Value}(hr:sv.R V v):sv.R V' v:=by
 cases sv with
 |x s=>exact SX.R_agree h hs hr
 |tup l=>obtain⟨us,e,h1⟩:=hr;exact⟨us,e,h1.mono fun a b ha hab=>SX.R_agree h (al.1 hs a ha) hab⟩
 |grd _ _ _=>exact hr
theorem jm.mono{V V':Vn}(hle:HLe V.H V'.H){e:TypeId}{t:ETy}{l:List t.den}{v:Value}(h:jm V e t l v):jm V' e t l v:=by
 obtain⟨g,cur,h0,h1,h2,h3,h4⟩:=h
 exact⟨g,cur,h0,hle _ _ h1,h2,h3,h4.mono fun _ _ _ hp=>hp.mono hle⟩
theorem FO.R_agree{n:Nat}{V V':Vn}(h:Agree n V V'){fo:FO}(hs:fo.sv.lt n=true){v:Value}(hr:fo.R V v):fo.R V' v:=by
 refine⟨SV.R_agree h hs hr.1,fun e he=>?_⟩
 have h2:=hr.2 e he
 split
 ·rename_i hsv;rw[hsv]at h2;exact jm.mono h.hle h2
 · rename_i hsv
   split at h2
   ·rename_i t l hsv2;exact absurd hsv2 (hsv t l)
   ·exact h2
theorem mN{V:Vn}{sv:SV}{v:Value}(h:sv.R V v):(⟨sv,none⟩:FO).R V v:=⟨h,fun e he=>by cases he⟩
theorem SV.R_frz{V:Vn}{z:Frz}(hz:z.ok V){sv:SV}{v:Value}(h:sv.R V v):(sv.frz z).R V v:=by
 cases sv with
 |x s=>exact SX.R_frz hz h
 |tup l=>obtain⟨us,e,h1⟩:=h;exact⟨us,e,by rw[All2.map_left];exact h1.mono fun _ _ _ hab=>SX.R_frz hz hab⟩
 |grd _ _ _=>exact h
section
variable{Γ:Ctx}{P:Program}{cfg:Cfg}{st:ST}{V:Vn}{a:Act}{w:World}{ops:Array Oper}{fs:List FO}{ck:List Chunk}
theorem WOk.chop(r:WOk Γ (ck++[.dead]) V w):WOk Γ ck V w:=by
 have hget:∀(i:Nat) (c:Chunk),ck[i]?=some c→(ck++[.dead])[i]?=some c:=fun i c h=>by rw[List.getElem?_append_left (List.getElem?_eq_some_iff.1 h).1];exact h
 exact{ext:=r.ext,imm:=r.imm,hle:=r.hle,frz:=r.frz,agr:=r.agr,own:=fun i c h=>r.own i c (hget i c h),base:=fun i c b h hb=>r.base i c b (hget i c h) hb,inj:=fun i j c d b hc hd hb1 hb2=>r.inj i j c d b (hget i c hc) (hget j d hd) hb1 hb2}
theorem xM (r:Rel Γ st V a w) {l:List Nat} (h:∀j∈l,∀d fo,bL ops j=some d→fs[j]?=some fo→fo.sv.R V (a.tmps.getD d undef)):Rel Γ (kZ st ops fs l) V a w:=by
 refine{size:=r.size,defers:=r.defers,slots:=?_,wok:=r.wok,few:=r.few}
 intro t sv hm0
 have aux:∀l:List Nat,(∀j∈l,∀d fo,bL ops j=some d→fs[j]?=some fo→fo.sv.R V (a.tmps.getD d undef))→(t,sv)∈mB ops fs l→cB V a t sv:=by
  intro l
  induction l with
  |nil=>intro _ hm;simp[mB]at hm
  | cons j l ih =>
    intro h hm
    have ih':=ih (fun j hj=>h j (aH _ hj))
    simp only[mB]at hm
    split at hm
    · rename_i fo d h1 h2
      rcases aJ.1 hm with hm |hm
      · simp only[ae]at hm
        obtain⟨rfl,rfl⟩:=hm
        exact oa (h j aA t fo h2 h1) rfl
      ·exact ih' hm
    ·exact ih' hm
 rcases bG.1 hm0 with hm |hm
 ·exact aux l h hm
 ·exact r.slots t sv hm
theorem GV{t j:Nat}(h:writer ops t=some j):bL ops j=some t:=by
 unfold writer at h
 have:=List.find?_some h
 split at this
 · rename_i d hd
   rw[hd,aj this]
 ·cases this
theorem pR{i:Nat}{x:Operand}{e:TypeId}{s:Src}(h:oT ops fs i x=some (e,s))(hanc:∀j∈anc ops ops.size i,∀d fo,bL ops j=some d→fs[j]?=some fo→fo.R V (a.tmps.getD d undef)):jm V e s.t s.l (a.eval x):=by
 unfold oT at h
 split at h
 · rename_i t
   split at h
   · rename_i j hw
     cases hb:(anc ops ops.size i).any (Nat.beq j)
     ·rw[hb]at h;simp at h
     · rw[hb]at h
       simp only[cond_true]at h
       split at h
       · rename_i ty l e' hfo
         simp only[aa,ae]at h
         obtain⟨rfl,rfl⟩:=h
         exact(hanc j (iK hb) t _ (GV hw) hfo).2 e' rfl
       ·simp at h
   ·simp at h
 ·simp at h
theorem Am{t ty e:TypeId}{inf:TypeInfo}{z:Value}(ht:P.underlying t=some (.slice e))(hi:P.info? e=some inf)(hz:inf.zero=some z)(hzs:z.cells.size=inf.size)
 {tt:ETy} {l ly:List tt.den} (hsz:tt.size=inf.size) (r:WOk Γ ck V w) (hwf:iW ck=true) (hΓ:Γ.m≤ck.length) {v:Value} (htg:jm V e tt l v)
 {ao:Option Addr} {c:Nat} {us:List Value} (hn:ao=none→ly.length=0∧c=0) (hrows:All2 (PR V.H) (ly.flatMap tt.enc) us) (hcells:∀ad,ao=some ad→∀(j:Nat) u,us[j]?=some u→w.cell? (ad.add j)=some u)
 (hr:room (l++ly).length inf.bytes) :
 ∃v' w' V',(Builtin.append_ #[t,t] ty #[v,.slice ao ly.length c]).run P w = .ok v' w'∧Agree ck.length V V'∧WOk Γ ck V' w'∧PR V'.H (.lst tt (l++ly)) v':=by
 have hpos:0<inf.size:=by rw[←hsz];exact tt.size_pos
 have hyl:us.length=ly.length * inf.size:=by rw[←hrows.length,jG,hsz]
 obtain⟨g,cur,rfl,q1,q2,q3,q4⟩:=htg
 have hw:=r.imm _ _ q1
 have hown:w.ownsRow 0 e inf.size (.slice (some ⟨g,0,none⟩) l.length l.length) l.length cur.toList :=
  ⟨by rw[bD,q2,hsz],.inr ⟨g,l.length,cur,rfl,aP _,hw,ar _,q3,by rw[q2,hsz],by rw[aZ (by rw[bD,q2,hsz];exact ar _)]⟩⟩
 rw[au]at hr
 by_cases hm:ly.length=0
 · have hly:ly=[]:=bm hm
   subst hly
   have hus:us=[]:=bm (by simpa using hyl)
   subst hus
   rw[aO]
   refine⟨_,w,V,?_,Agree.refl _ _,r,jm.lst ⟨g,cur,rfl,q1,q2,q3,q4⟩⟩
   cases ao with
   | none =>
     obtain⟨_,rfl⟩:=hn rfl
     exact run_append_owned_none (P:=P) w 0 t ty e inf inf.size ht hi _ _ _ hown
   | some ad =>
     obtain⟨w2,hr2,ho2,hg2⟩:=run_append_fits (P:=P) w 0 t ty e inf inf.size ht hi rfl g l.length l.length cur.toList hown ad 0 c [] (by simp) (by simp) (by simp) (ar _)
     have hst:=run_storeCells_at (P:=P) g (l.length * inf.size) e [] 0 cur w hw (by simp[q2,hsz]) (by simp)
     have:(Builtin.append_ #[t,t] ty #[.slice (some ⟨g,0,none⟩) l.length l.length,.slice (some ad) 0 c]).run P w = .ok (.slice (some ⟨g,0,none⟩) l.length l.length) w:=by
      have hf:=run_firstCells_some (P:=P) w inf.size 0 ad 0 c [] (by simp) (by simp)
      simp[Builtin.append_,run_underlying ht,sizeOf,typeInfo,hi,Builtin.lenOf,hf,storeCells]
     simpa using this
 · have hsome:∃ad,ao=some ad:=by
    cases ao with
    |none=>exact absurd (hn rfl).1 hm
    |some ad=>exact⟨ad,rfl⟩
   obtain⟨ad,rfl⟩:=hsome
   obtain⟨v',w',hr1,ho,_,_⟩:=run_append_own (P:=P) w 0 t ty e inf z inf.size inf.bytes ht hi hz rfl rfl hzs hpos _ _ _ hown ad ly.length c us hyl (hcells ad rfl) (wy hrows) hr.2 hr.1 (aP _)
   have h64:((l.length+ly.length:Nat):Int)≤9223372036854775807:=by have:=hr.2;unfold maxLen at this;omega
   have hr2:=run_append_grow (P:=P) w t ty e inf z ht hi hz ⟨g,0,none⟩ l.length l.length cur.toList hown.1 (hown.cells (g:=g) rfl) ad ly.length c us hyl (hcells ad rfl) (by omega) h64 (growslice_fits (by omega) hr.1)
   rw[hr1]at hr2
   simp only[Result.ok.injEq]at hr2
   obtain⟨e1,e2⟩:=hr2
   have hgrow:w.grownBy w' none:=by
    rw[e2]
    exact⟨rfl,rfl,rfl,by simp,fun k hk _=>by have:=Below.heap_alloc w.drew (.cells (cur.toList.toArray++us.toArray++Builtin.zeroCells z.cells (grownCap w (l.length+ly.length) l.length e - (l.length+ly.length))) e) k hk;exact this⟩
   have hlen:(l++ly).length=l.length+ly.length:=au
   obtain⟨V1,k1,k2,k3,k4,k5⟩:=r.regrow hwf hΓ none (c:=.own e tt (l++ly)) (v':=v') (s':=w.heap.size) (row:=none) (by simp) hgrow (fun V1 hag hH f1 f2=>by
    refine⟨⟨cur.toList++us,by rw[f2,hlen,hsz];exact ho,by rw[hH,List.flatMap_append];exact q4.append hrows,fun b hb=>?_⟩,fun b hb=>.inr ?_⟩
    ·rw[f2,e1]at hb;simp only[Value.ownBlock,aa]at hb;rw[f1,hb]
    ·simp only[Chunk.blk,f2,e1,Value.ownBlock,aa]at hb;omega)
   simp only[cK]at k5
   obtain⟨H',m1,m2,m3⟩:=k5.freezeOwn (i:=ck.length) (e:=e) (t:=tt) (l:=l++ly) (by simp)
   have hset:(ck++[Chunk.own e tt (l++ly)]).set ck.length .dead=ck++[.dead]:=by simp
   rw[hset]at m2
   refine⟨v',w',⟨H',V1.σ,V1.ov⟩,hr1,⟨k1.hle.trans m1,k1.same⟩,m2.chop,?_⟩
   rw[←k4];exact m3
end
end Go.Ev
