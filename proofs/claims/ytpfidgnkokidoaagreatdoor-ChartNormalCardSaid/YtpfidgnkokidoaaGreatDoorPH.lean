/- An executor for function bodies of the model over data, part PG: operations that make or write the call's own blocks. Conditions: each operation's own, told as a proposition. An executor for function bodies of the model over data, part PH: operations that make or write the call's own blocks are sound. Conditions: each operation's own, told as a proposition. -/
import Derived.Test.YtpfidgnkokidoaaGreatDoorPF
namespace Go.Ev
open Go.RowKit
abbrev Tys:=List (Nat×ETy)
def EE:Tys→Nat→Option ETy
 | [],_=>none
 | p::r,e=>bif Nat.beq p.1 e then some p.2 else EE r e
def v7 (ck:List Chunk):SC→Bool
 | .own i=>match ck[i]? with | some (.own _ _ _)=>true | _=>false
 | _=>true
def nW (ck:List Chunk):SX→Option (List SC)
 | .c s=>bif v7 ck s then some [s] else none
 | .agg cs=>bif cs.all (v7 ck) then some cs else none
def mF (st:ST) (g:Option (Nat×Bool)):List (Nat×Operand)→Option (List (Nat×List SC))
 | []=>some []
 | (i,x)::r=>match (bR st g x).bind (nW st.ck),mF st g r with
   | some v,some l=>some ((i,v)::l)
   | _,_=>none
def po (place:Nat→Option (Nat×Nat)) (cells:List SC):List (Nat×List SC)→Option (List SC)
 | []=>some cells
 | (i,v)::rest=>match place i with
   | none=>none
   | some (off,size)=>bif Nat.beq v.length size&&Nat.ble (off+v.length) cells.length then po place (cells.take off++v++cells.drop (off+v.length)) rest else none
def oC (P:Program) (t:TypeId):Option (List SC):=(P.info? t).bind fun i=>i.zero.bind fun z=>bif z.cells.toList.all (fun v=>v.oneCell') then some (z.cells.toList.map fun v=>.pd (ofC v)) else none
def Jj (z:List SC):Nat→List SC
 | 0=>[]
 | n+1=>z++Jj z n
def jn:List SC→Option (List PD)
 | []=>some []
 | .pd p::r=>(jn r).map (p::·)
 | _::_=>none
def nX (t:ETy):Nat→List SC→Option (List t.den)
 | 0,cs=>match cs with | []=>some [] | _=>none
 | n+1,cs=>match (jn (cs.take t.size)).bind t.dec,nX t n (cs.drop t.size) with
   | some x,some l=>some (x::l)
   | _,_=>none
def opM (P:Program) (tys:Tys) (st:ST):Op→Option (SX×List Chunk)
 | .box e x=>match (bR st none x),iJ P e with
   | some sv,some n=>match nW st.ck sv with
     | some cs=>bif Nat.beq cs.length n&&st.wf&&cs.all (SC.lt st.ck.length) then some (.c (.loc st.ck.length 0),st.ck++[.cells cs e]) else none
     | none=>none
   | _,_=>none
 | .alloc e=>match oC P e with
   | some z=>bif st.wf then some (.c (.loc st.ck.length 0),st.ck++[.cells z e]) else none
   | none=>none
 | .buildSlice t len parts=>match P.underlying t with
   | some (.slice e)=>match iJ P e,oC P e,mF st none parts.toList,EE tys e with
     | some n,some z,some ps,some ty =>
       match (po (fun i=>some (i * n,n)) (Jj z len) ps).bind (nX ty len) with
       | some l=>bif st.wf&&Nat.ble (len * n) 16777216&&Nat.beq n ty.size&&Nat.beq z.length n&&Nat.beq l.length len then some (.c (.own st.ck.length),st.ck++[.own e ty l]) else none
       | none=>none
     | _,_,_,_=>none
   | _=>none
 | _=>none
def opS (P:Program) (st:ST):Op→Option (Option Prop×List Chunk)
 | .store t ad x=>match bR st none ad,(bR st none x).bind (nW st.ck),iJ P t with
   | some (.c (.loc i off)),some vs,some n=>match st.ck[i]? with
     | some (.cells cs e)=>bif Nat.beq vs.length n&&Nat.ble (off+n) cs.length then some (none,st.ck.set i (.cells (cs.take off++vs++cs.drop (off+n)) e)) else none
     | _=>none
   | some (.c (.oat i j sz off)),some vs,some n=>match st.ck[i]? with
     | some (.own e ty l)=>match (jn (((ty.enc (ty.get l j)).map SC.pd).take off++vs++((ty.enc (ty.get l j)).map SC.pd).drop (off+n))).bind ty.dec with
       | some x=>bif Nat.beq vs.length n&&Nat.ble (off+n) ty.size&&Nat.beq sz ty.size then some (some (j<l.length),st.ck.set i (.own e ty (l.set j x))) else none
       | none=>none
     | _=>none
   | _,_,_=>none
 | _=>none
def opB (P:Program) (st:ST) (g:Option (Nat×Bool)):Op→Option SX
 | .build t parts=>match P.underlying t,oC P t,mF st g parts.toList with
   | some (.struct fs),some z,some ps=>match szList P fs.toList with
     | some places=>(po (places[·]?) z ps).map .agg
     | none=>none
   | some (.array _ e),some z,some ps=>match iJ P e with
     | some n=>(po (fun i=>some (i * n,n)) z ps).map .agg
     | none=>none
   | _,_,_=>none
 | _=>none
where szList (P:Program):List Field→Option (List (Nat×Nat))
 | []=>some []
 | f::r=>match iJ P f.type,szList P r with
   | some n,some l=>some ((f.offset,n)::l)
   | _,_=>none
section
variable {Γ:Ctx} {P:Program} {st:ST} {V:Vn} {a:Act} {w:World}
theorem uh {ck:List Chunk} (r:WOk Γ ck V w) {s:SC} (h:v7 ck s=true) {u:Value} (hr:s.R V u):u.oneCell'=true:=by
 cases s with
 | pd p=>exact PR.one hr
 | loc i o=>have:u=_:=hr; subst this; rfl
 | oat i j sz o=>have:u=_:=hr; subst this; rfl
 | fn f x y=>obtain ⟨ua,ub,e,_⟩:=hr; subst e; rfl
 | own i =>
   simp only [v7] at h
   split at h
   · rename_i e t l hck
     obtain ⟨xs,h1,_⟩:=r.own i _ hck
     obtain ⟨ad,c,h2,_⟩:=BU h1
     have:u=_:=hr
     rw [this,h2]; rfl
   · cases h
theorem GX {u:Value} (h:u.oneCell'=true):u.cells.toList=[u]:=by
 cases u <;> first | rfl | (simp [Value.oneCell'] at h)
theorem j2 {ck:List Chunk} (r:WOk Γ ck V w) {sx:SX} {cs:List SC} (h:nW ck sx=some cs) {u:Value} (hr:sx.R V u):All2 (SC.R V) cs u.cells.toList∧∀ v∈u.cells.toList,v.oneCell'=true:=by
 cases sx with
 | c s =>
   simp only [nW] at h
   cases hb:v7 ck s
   · rw [hb] at h; simp at h
   · rw [hb] at h
     simp only [cond_true,aa] at h
     subst h
     have h1:=uh r hb hr
     rw [GX h1]
     exact ⟨.cons hr .nil,by simp [h1]⟩
 | agg cs' =>
   simp only [nW] at h
   cases hb:cs'.all (v7 ck)
   · rw [hb] at h; simp at h
   · rw [hb] at h
     simp only [cond_true,aa] at h
     subst h
     obtain ⟨us,e,h1⟩:=hr
     subst e
     have e2:(Value.agg us.toArray).cells.toList=us:=rfl
     rw [e2]
     refine ⟨h1,fun v hv=>?_⟩
     obtain ⟨i,hi⟩:=List.getElem?_of_mem hv
     obtain ⟨s,h2,h3⟩:=h1.get' hi
     exact uh r (al.1 hb s (List.mem_of_getElem? h2)) h3
def uW (V:Vn) (p:Nat×List SC) (q:Nat×Value):Prop:=p.1=q.1∧All2 (SC.R V) p.2 q.2.cells.toList∧∀ v∈q.2.cells.toList,v.oneCell'=true
theorem me (r:Rel Γ st V a w) {g:Option (Nat×Bool)} (hg:gy a g):∀ (l:List (Nat×Operand)) (ps:List (Nat×List SC)),mF st g l=some ps→All2 (uW V) ps (l.map fun p=>(p.1,a.eval p.2))
 | [],ps,h=>by simp [mF] at h; subst h; exact .nil
 | (i,x)::l,ps,h=>by
   simp only [mF] at h
   split at h
   · rename_i v l' h1 h2
     simp only [aa] at h
     subst h
     simp only [aW] at h1
     obtain ⟨sx,h3,h4⟩:=h1
     obtain ⟨h5,h6⟩:=j2 r.wok h4 (aK r hg h3)
     exact .cons ⟨rfl,h5,h6⟩ (me r hg l l' h2)
   · simp at h
theorem sg:∀ (cs:List Value) (k off:Nat) (cells:Array Value),off+k+cs.length≤cells.size →
 ((cs.zipIdx k).foldl (fun (acc:Array Value) (p:Value×Nat)=>acc.setIfInBounds (off+p.2) p.1) cells).toList=cells.toList.take (off+k)++cs++cells.toList.drop (off+k+cs.length)
 | [],k,off,cells,h=>by simp
 | c::cs,k,off,cells,h=>by
   simp only [ah] at h
   simp only [List.zipIdx_cons,List.foldl_cons]
   rw [sg cs (k+1) off _ (by rw [di]; omega)]
   simp only [Array.toList_setIfInBounds,ah]
   have hlt:off+k<cells.toList.length:=by rw [bP]; omega
   rw [List.take_set,List.drop_set]
   rw [show off+(k+1)=off+k+1 from by omega]
   rw [eO hlt]
   rw [fK _ _ (by simp only [bw]; omega)]
   have hl:(List.take (off+k) cells.toList).length=off+k:=by rw [bw]; omega
   simp only [hl,gu,List.set_cons_zero]
   rw [if_pos (by omega)]
   have e3:off+k+1+cs.length=off+k+(cs.length+1):=by omega
   rw [e3]
   simp
theorem nO (place:Nat→Option (Nat×Nat)) {qs:List (Nat×Value)} {ps:List (Nat×List SC)} (hp:All2 (uW V) ps qs):∀ {cells r:List SC} {us:List Value},po place cells ps=some r→All2 (SC.R V) cells us →
 (∀ v∈us,v.oneCell'=true)→∃ rs,Instr.fill place us.toArray qs=some rs.toArray∧All2 (SC.R V) r rs∧∀ v∈rs,v.oneCell'=true:=by
 induction hp with
 | nil=>intro cells r us h hu h1; simp [po] at h; subst h; exact ⟨us,rfl,hu,h1⟩
 | @cons p q ps qs h0 _ ih =>
   intro cells r us h hu h1
   obtain ⟨i,v⟩:=p
   obtain ⟨i',v'⟩:=q
   obtain ⟨e,h2,h3⟩:=h0
   simp only at e h2 h3
   subst e
   simp only [po] at h
   split at h
   · simp at h
   · rename_i off size hpl
     cases hb:(Nat.beq v.length size&&Nat.ble (off+v.length) cells.length)
     · rw [hb] at h; simp at h
     · rw [hb] at h
       simp only [cond_true] at h
       simp only [ab] at hb
       have h4:=ar hb.1
       have h5:=aA hb.2
       have hvl:=h2.length
       have hcl:=hu.length
       have hsz:v'.cells.toList.length=v'.cells.size:=bP
       obtain ⟨rs,g1,g2,g3⟩:=ih (us:=us.take off++v'.cells.toList++us.drop (off+v'.cells.toList.length)) h (((hu.take off).append h2).append (by rw [h2.length]; exact hu.drop _)) (by
        intro x hx
        rcases aZ.1 hx with hx | hx
        · rcases aZ.1 hx with hx | hx
          · exact h1 x (List.mem_of_mem_take hx)
          · exact h3 x hx
        · exact h1 x (List.mem_of_mem_drop hx))
       refine ⟨rs,?_,g2,g3⟩
       rw [← g1]
       conv=>lhs; unfold Instr.fill
       simp only [hpl]
       rw [if_neg (by simp only [List.size_toArray,ne_eq,aF,decide_eq_true_eq,gt_iff_lt,not_or,Decidable.not_not,Nat.not_lt]; omega)]
       congr 1
       apply ff.1
       rw [← Array.foldl_toList,Array.toList_zipIdx]
       have:=sg v'.cells.toList 0 off us.toArray (by simp [bP]; omega)
       simpa using this
theorem oF {w:World} {t:TypeId} {z:List SC} (h:oC P t=some z):∃ v,(zeroValue t).run P w = .ok v w∧All2 (SC.R V) z v.cells.toList∧∀ u∈v.cells.toList,u.oneCell'=true:=by
 unfold oC at h
 simp only [aW] at h
 obtain ⟨i,hi,v,hv,h⟩:=h
 cases hb:v.cells.toList.all fun v=>v.oneCell'
 · rw [hb] at h; simp at h
 · rw [hb] at h
   simp only [cond_true,aa] at h
   subst h
   have h1:=al.1 hb
   refine ⟨v,by simp [zeroValue,typeInfo,hi,hv,go_sem],All2.of (by simp) fun i p u hp hu=>?_,fun u hu=>h1 u hu⟩
   simp only [List.getElem?_map,hu,cB,aa] at hp
   subst hp
   exact G8 (h1 u (List.mem_of_getElem? hu))
theorem um {w:World}:∀ (fs:List Field) (l:List (Nat×Nat)),opB.szList P fs=some l→(fs.mapM (m:=Sem) fun f=>do pure (f.offset,← sizeOf f.type)).run P w = .ok l w
 | [],l,h=>by simp [opB.szList] at h; subst h; rfl
 | f :: fs,l,h=>by
   simp only [opB.szList] at h
   split at h
   · rename_i n l' h1 h2
     simp only [aa] at h; subst h
     simp only [List.mapM_cons,Sem.run_bind,gQ h1,Result.andThen_ok,run_pure',um fs l' h2]
   · simp at h
theorem F9 (r:Rel Γ st V a w) {g:Option (Nat×Bool)} (hg:gy a g)
 {o:Oper} {sx:SX} (h:opB P st g o.op=some sx):∃ v,(execOp a.eval o).run P w = .ok (.value v) w∧sx.R V v:=by
 obtain ⟨dst,op,ty,pos,after,guard⟩:=o
 simp only at h
 cases op <;> first | (simp [opB] at h; done) | skip
 rename_i t parts
 simp only [opB] at h
 have hparts:∀ ps,mF st g parts.toList=some ps→All2 (uW V) ps (parts.map fun p=>(p.1,a.eval p.2)).toList:=fun ps hp=>by
  rw [fe]; exact me r hg _ _ hp
 split at h
 · rename_i fs z ps hu hz hp
   split at h
   · rename_i places hpl
     simp only [av] at h
     obtain ⟨cells,hf,rfl⟩:=h
     obtain ⟨v,hv,hvz,hv1⟩:=oF (V:=V) (w:=w) hz
     obtain ⟨rs,g1,g2,_⟩:=nO _ (hparts ps hp) hf hvz hv1
     refine ⟨.agg rs.toArray,?_,rs,rfl,g2⟩
     simp only [execOp]
     refine bM ?_
     have hmm:(fs.mapM (m:=Sem) fun f=>do pure (f.offset,← sizeOf f.type)).run P w = .ok places.toArray w:=by
      have:=um (w:=w) fs.toList places hpl
      rw [Array.mapM_eq_mapM_toList]
      simp only [map_eq_pure_bind,Sem.run_bind,this,Result.andThen_ok]
      rfl
     have e:(fun i:Nat=>places.toArray[i]?)=(fun i:Nat=>places[i]?):=by funext i; simp
     rw [Array.toArray_toList] at g1
     simp only [Instr.build,Sem.run_bind,hv,Result.andThen_ok,run_underlying hu,hmm]
     rw [e,g1]; rfl
   · simp at h
 · rename_i n' e z ps hu hz hp
   split at h
   · rename_i n hn
     simp only [av] at h
     obtain ⟨cells,hf,rfl⟩:=h
     obtain ⟨v,hv,hvz,hv1⟩:=oF (V:=V) (w:=w) hz
     obtain ⟨rs,g1,g2,_⟩:=nO _ (hparts ps hp) hf hvz hv1
     refine ⟨.agg rs.toArray,?_,rs,rfl,g2⟩
     simp only [execOp]
     refine bM ?_
     rw [Array.toArray_toList] at g1
     simp only [Instr.build,Sem.run_bind,hv,Result.andThen_ok,run_underlying hu,gQ hn,g1]
     rfl
   · simp at h
 · simp at h
theorem xb {z:List SC} {us:List Value} (h:All2 (SC.R V) z us):∀ n,∃ vs,All2 (SC.R V) (Jj z n) vs∧vs.length=n * us.length∧∀ i,i<n * us.length→vs[i]?=us[i % us.length]?
 | 0=>⟨[],.nil,by simp,by simp⟩
 | n+1=>by
   obtain ⟨vs,h1,h2,h3⟩:=xb h n
   refine ⟨us++vs,h.append h1,by rw [ag,h2,dm]; omega,fun i hi=>?_⟩
   by_cases hlt:i<us.length
   · rw [List.getElem?_append_left hlt,Nat.mod_eq_of_lt hlt]
   · rw [List.getElem?_append_right (by omega),h3 _ (by rw [dm] at hi; omega),← Nat.mod_eq_sub_mod (by omega)]
theorem j6:∀ {cs:List SC} {ps:List PD},jn cs=some ps→∀ {us:List Value},All2 (SC.R V) cs us→All2 (PR V.H) ps us
 | [],ps,h,us,hu=>by simp [jn] at h; subst h; cases hu; exact .nil
 | .pd p::cs,ps,h,us,hu=>by
   simp only [jn,av] at h
   obtain ⟨l,h1,rfl⟩:=h
   cases hu with | cons g1 g2=>exact .cons g1 (j6 h1 g2)
 | .loc _ _::cs,ps,h,us,hu=>by simp [jn] at h
 | .own _::cs,ps,h,us,hu=>by simp [jn] at h
 | .oat _ _ _ _::cs,ps,h,us,hu=>by simp [jn] at h
 | .fn _ _ _::cs,ps,h,us,hu=>by simp [jn] at h
theorem pN {t:ETy}:∀ {n:Nat} {cs:List SC} {l:List t.den},nX t n cs=some l→∀ {us:List Value},All2 (SC.R V) cs us→All2 (PR V.H) (l.flatMap t.enc) us
 | 0,cs,l,h,us,hu=>by
   simp only [nX] at h
   split at h
   · simp only [aa] at h; subst h; cases hu; exact .nil
   · simp at h
 | n + 1,cs,l,h,us,hu=>by
   simp only [nX] at h
   split at h
   · rename_i x l' h1 h2
     simp only [aa] at h; subst h
     simp only [aW] at h1
     obtain ⟨ps,h3,h4⟩:=h1
     rw [bB,← dJ t.size us]
     exact (ETy.dec_PR h4 (j6 h3 (hu.take _))).append (pN h2 (hu.drop _))
   · simp at h
end
end Go.Ev
namespace Go.Ev
open Go.RowKit
def splice {α:Type} (xs:List α) (o:Nat) (us:List α):List α:=xs.take o++us++xs.drop (o+us.length)
theorem lv {α:Type} {xs us:List α} {o:Nat} (h:o+us.length≤xs.length):(splice xs o us).length=xs.length:=by simp [splice]; omega
theorem BY {α:Type} {xs us:List α} {o m:Nat} (h:o+us.length≤m) (hm:m≤xs.length):(splice xs o us).take m=splice (xs.take m) o us:=by
 unfold splice
 have h1:(xs.take o++us).length=o+us.length:=by simp; omega
 rw [List.take_append,eB (by rw [h1]; exact h),h1,fR,dN (by omega),fM]
theorem tD {α:Type} {xs us:List α} {j sz off:Nat} (h:off+us.length≤sz) (hj:j+sz≤xs.length):splice xs (j+off) us=splice xs j (splice ((xs.drop j).take sz) off us):=by
 have hl:((xs.drop j).take sz).length=sz:=by simp; omega
 have h2:(splice ((xs.drop j).take sz) off us).length=sz:=by rw [lv (by rw [hl]; exact h),hl]
 unfold splice at h2 ⊢
 rw [h2]
 have e1:xs.take (j+off)=xs.take j++((xs.drop j).take sz).take off:=by rw [fR,dN (by omega),List.take_add]
 have e2:xs.drop (j+off+us.length)=((xs.drop j).take sz).drop (off+us.length)++xs.drop (j+sz):=by
  rw [fM,eX]
  have h3:=(dJ (sz - (off+us.length)) (xs.drop (j+(off+us.length)))).symm
  rw [eX,show j+(off+us.length)+(sz - (off+us.length))=j+sz from by omega] at h3
  rw [show j+off+us.length=j+(off+us.length) from by omega]; exact h3
 rw [e1,e2]; simp only [aX]
theorem All2.splice {α β:Type} {R:α→β→Prop} {l v:List α} {m u:List β} (h:All2 R l m) (h':All2 R v u) (o:Nat):All2 R (splice l o v) (splice m o u):=by
 unfold Ev.splice; rw [h'.length]; exact ((h.take o).append h').append (h.drop _)
theorem xX (t:ETy) (l:List t.den) (n:Nat):(l.drop n).flatMap t.enc=(l.flatMap t.enc).drop (n * t.size):=by
 induction l generalizing n with
 | nil=>simp
 | cons x l ih =>
   cases n with
   | zero=>simp
   | succ n=>rw [List.drop_succ_cons,bB,ih,show (n+1) * t.size=(t.enc x).length+n * t.size from by rw [t.enc_length,dm]; omega,List.drop_length_add_append]
theorem K1 {t:ETy} {l:List t.den} {j:Nat} (h:j<l.length) (x:t.den):(l.set j x).flatMap t.enc=splice (l.flatMap t.enc) (j * t.size) (t.enc x):=by
 have e:l.set j x=l.take j++x::l.drop (j+1):=List.set_eq_take_append_cons_drop.trans (if_pos h)
 unfold splice
 rw [e,ch,bB,xD,xX,t.enc_length,dm,Nat.one_mul,aX]
theorem IR {t:ETy} {l:List t.den} {j:Nat} (h:j<l.length):((l.flatMap t.enc).drop (j * t.size)).take t.size=t.enc (t.get l j):=by
 rw [← xX]
 have e:=cZ h
 have e2:t.get l j=l[j]:=ETy.get_eq (by simp [h])
 rw [e,bB,e2]
 have h2:=t.enc_length l[j]
 rw [List.take_append,eB (by omega),h2,gu,List.take_zero,bt]
section
variable {Γ:Ctx} {P:Program} {st:ST} {V:Vn} {a:Act} {w:World} {tys:Tys}
theorem Rel.grow (r:Rel Γ st V a w) (hwf:st.wf=true) (k:Option Nat) {c:Chunk} {v':Value} {s':Nat} {w':World} {row:Option Nat}
 (hrow:∀ b,row=some b→∃ i c,k=some i∧st.ck[i]?=some c∧c.blk V i=some b) (hg:w.grownBy w' row)
 (hc:∀ V',Agree st.ck.length V V'→V'.H=V.H→V'.σ st.ck.length=s'→V'.ov st.ck.length=v'→c.holds V' w' st.ck.length∧∀ b,c.blk V' st.ck.length=some b→row=some b∨w.heap.size≤b) :
 ∃ V',Agree st.ck.length V V'∧V'.H=V.H∧V'.σ st.ck.length=s'∧V'.ov st.ck.length=v'∧Rel Γ { st with ck:=eU k st.ck++[c] } V' a w':=by
 have hwf2:iT st.ck=true:=by simp only [ST.wf,ab] at hwf; exact hwf.2
 obtain ⟨V',h1,h2,h3,h4,h5⟩:=r.wok.regrow hwf2 (bn r.few.1 r.few.2) k hrow hg hc
 exact ⟨V',h1,h2,h3,h4,r.turn hwf h1 h5 (by rw [ag,pP]; omega)⟩
theorem Rel.setCk (r:Rel Γ st V a w) {i:Nat} {c':Chunk} {w':World} (h:WOk Γ (st.ck.set i c') V w'):Rel Γ { st with ck:=st.ck.set i c' } V a w' :=
 { size:=r.size,defers:=r.defers,slots:=r.slots,wok:=h,few:=⟨r.few.1,by rw [cV]; exact r.few.2⟩ }
theorem ox (r:Rel Γ st V a w) {t:TypeId} {len:Nat} {parts:Array (Nat×Operand)} {sx:SX} {ck':List Chunk} (h:opM P tys st (.buildSlice t len parts)=some (sx,ck')) :
 ∃ e ty l rs,sx = .c (.own st.ck.length)∧ck'=st.ck++[.own e ty l]∧st.wf=true∧All2 (PR V.H) (l.flatMap ty.enc) rs∧rs.length=l.length * ty.size∧l.length≤maxLen ∧
  (Instr.buildSlice t len (parts.map fun p=>(p.1,a.eval p.2))).run P w = .ok (.slice (some ⟨w.heap.size,0,none⟩) l.length l.length) (w.alloc (.cells rs.toArray e)):=by
 simp only [opM] at h
 split at h
 · rename_i e hu
   split at h
   · rename_i n z ps ty' hn hz hp hty
     split at h
     · rename_i l hf
       simp only [aW] at hf
       obtain ⟨cells,hf,hdec⟩:=hf
       cases hwf:(st.wf&&Nat.ble (len * n) 16777216&&Nat.beq n ty'.size&&Nat.beq z.length n&&Nat.beq l.length len)
       · rw [hwf] at h; simp at h
       · rw [hwf] at h
         simp only [cond_true,aa,ae] at h
         obtain ⟨rfl,rfl⟩:=h
         simp only [ab] at hwf
         have h1:=aA hwf.1.1.1.2
         have h2:=ar hwf.1.1.2
         have h3:=ar hwf.1.2
         have h4:=ar hwf.2
         have hpos:=ty'.size_pos
         have hparts:All2 (uW V) ps (parts.map fun p=>(p.1,a.eval p.2)).toList:=by rw [fe]; exact me r (g:=none) trivial _ _ hp
         obtain ⟨v,hv,hvz,hv1⟩:=oF (V:=V) (w:=w) hz
         obtain ⟨zs,k1,k2,k3⟩:=xb hvz len
         have hzl:=hvz.length
         have hone:∀ u∈zs,u.oneCell'=true:=by
          intro u hu
          obtain ⟨i,hi⟩:=List.getElem?_of_mem hu
          have hi2:i<zs.length:=(List.getElem?_eq_some_iff.1 hi).1
          rw [k3 i (by omega)] at hi
          exact hv1 u (List.mem_of_getElem? hi)
         obtain ⟨rs,g1,g2,g3⟩:=nO _ hparts hf k1 hone
         have hrows:=pN hdec g2
         have hrl:rs.length=len * n:=by
          have:=hrows.length
          rw [jG,h4,← h2] at this; exact this.symm
         refine ⟨e,ty',l,rs,rfl,rfl,hwf.1.1.1.1,hrows,by rw [hrl,h4,h2],?_,?_⟩
         · have:len≤len * n:=Nat.le_mul_of_pos_right _ (by omega)
           unfold maxLen; omega
         · have hnot:¬(len * n>2 ^ 24):=by omega
           simp only [Instr.buildSlice,Sem.run_bind,run_underlying hu,Result.andThen_ok,gQ hn,if_neg hnot,run_pure']
           rw [h4]
           by_cases h0:len * n=0
           · have hzs:zs=[]:=bJ (by rw [k2,← hzl,h3]; exact h0)
             subst hzs
             simp only [h0,if_true,run_pure',Result.andThen_ok,Sem.run_bind]
             have hz0:(Array.map (fun x=>(#[]:Array Value)[x % (#[]:Array Value).size]!) (Array.range 0))=#[]:=by simp [Array.range]
             rw [hz0,g1]
             rfl
           · simp only [if_neg h0,Sem.run_bind,hv,Result.andThen_ok,run_pure']
             have hza:(Array.range (len * n)).map (v.cells[· % v.cells.size]!)=zs.toArray:=by
              apply ff.1
              apply List.ext_getElem?
              intro i
              simp only [fe,List.getElem?_map,Array.toList_range]
              have hvs:v.cells.toList.length=v.cells.size:=bP
              by_cases hi:i<len * n
              · rw [List.getElem?_range hi,k3 i (by rw [← hzl,h3]; exact hi),hvs]
                simp only [cB]
                have hpos2:0<v.cells.size:=by rw [← hvs,← hzl,h3]; omega
                have hm:i % v.cells.size<v.cells.size:=Nat.mod_lt _ hpos2
                rw [getElem!_pos v.cells _ hm]
                simp [hm]
              · rw [List.getElem?_eq_none (by simpa using Nat.le_of_not_lt hi),List.getElem?_eq_none (by rw [k2,← hzl,h3]; omega)]
                rfl
             rw [hza,g1]
             rfl
     · simp at h
   · simp at h
 · simp at h
theorem w8 (r:Rel Γ st V a w) {o:Oper} {sx:SX} {ck':List Chunk} (h:opM P tys st o.op=some (sx,ck')) :
 ∃ v w' V',(execOp a.eval o).run P w = .ok (.value v) w'∧sx.R V' v∧Rel Γ { st with ck:=ck' } V' a w':=by
 obtain ⟨dst,op,ty,pos,after,guard⟩:=o
 simp only at h
 cases op <;> first | (simp [opM] at h; done) | skip
 case alloc e =>
  simp only [opM] at h
  split at h
  · rename_i z hz
    cases hwf:st.wf
    · rw [hwf] at h; simp at h
    · rw [hwf] at h
      simp only [cond_true,aa,ae] at h
      obtain ⟨rfl,rfl⟩:=h
      obtain ⟨v,hv,hvz,_⟩:=oF (V:=V) (w:=w) hz
      have hzlt:z.all (SC.lt st.ck.length)=true:=by
       unfold oC at hz
       simp only [aW] at hz
       obtain ⟨i,_,v',_,hz⟩:=hz
       cases hb:v'.cells.toList.all fun v=>v.oneCell'
       · rw [hb] at hz; simp at hz
       · rw [hb] at hz
         simp only [cond_true,aa] at hz
         subst hz
         simp [SC.lt]
      obtain ⟨V',hag,_,e1,e2,r'⟩:=r.grow hwf none (c:=.cells z e) (v':=undef) (s':=w.heap.size) (row:=none) (by simp) (kQ w (.cells v.cells e)) (fun V' hag _ h1 _=>by
       refine ⟨⟨v.cells.toList,?_,kZ hag hzlt hvz⟩,fun b hb=>.inr ?_⟩
       · rw [h1,heap_alloc_new]
       · simp only [Chunk.blk,h1,aa] at hb; omega)
      refine ⟨.pointer (some ⟨w.heap.size,0,none⟩),_,V',?_,by show _=_; rw [e1],r'⟩
      simp only [execOp]
      refine bM ?_
      simp only [Instr.alloc,Sem.run_bind,hv,Result.andThen_ok]
      rfl
  · simp at h
 case box e x =>
  simp only [opM] at h
  split at h
  · rename_i sv' n hx hn
    split at h
    · rename_i cs hcs
      cases hwf:(Nat.beq cs.length n&&st.wf&&cs.all (SC.lt st.ck.length))
      · rw [hwf] at h; simp at h
      · rw [hwf] at h
        simp only [cond_true,aa,ae] at h
        obtain ⟨rfl,rfl⟩:=h
        simp only [ab] at hwf
        obtain ⟨h1,_⟩:=j2 r.wok hcs (aK r (g:=none) trivial hx)
        obtain ⟨V',hag,_,e1,e2,r'⟩:=r.grow hwf.1.2 none (c:=.cells cs e) (v':=undef) (s':=w.heap.size) (row:=none) (by simp) (kQ w (.cells (a.eval x).cells e)) (fun V' hag _ g1 _=>by
         refine ⟨⟨(a.eval x).cells.toList,?_,kZ hag hwf.2 h1⟩,fun b hb=>.inr ?_⟩
         · rw [g1,heap_alloc_new]
         · simp only [Chunk.blk,g1,aa] at hb; omega)
        refine ⟨.pointer (some ⟨w.heap.size,0,none⟩),_,V',?_,by show _=_; rw [e1],r'⟩
        simp only [execOp]
        exact bM rfl
    · simp at h
  · simp at h
 case buildSlice t len parts =>
  obtain ⟨e,ty',l,rs,rfl,rfl,hwf,hrows,hrl,hmx,hrun⟩:=ox r h
  obtain ⟨V',hag,hH,e1,e2,r'⟩:=r.grow hwf none (c:=.own e ty' l) (v':=.slice (some ⟨w.heap.size,0,none⟩) l.length l.length) (s':=w.heap.size) (row:=none) (by simp) (kQ w (.cells rs.toArray e)) (fun V' hag hH f1 f2=>by
   refine ⟨⟨rs,⟨hrl,.inr ⟨w.heap.size,l.length,rs.toArray,f2,br _,heap_alloc_new w _,aw _,hmx,by simpa using hrl,?_⟩⟩,by rw [hH]; exact hrows,fun b hb=>?_⟩,fun b hb=>.inr ?_⟩
   · rw [eB (by simp [hrl])]
   · rw [f2] at hb; simp only [Value.ownBlock,aa] at hb; rw [f1,hb]
   · simp only [Chunk.blk,f2,Value.ownBlock,aa] at hb; omega)
  refine ⟨_,_,V',?_,rfl,r'⟩
  simp only [execOp]
  rw [e2]
  exact bM hrun
theorem xg (r:Rel Γ st V a w) {o:Oper} {p:Option Prop} {ck':List Chunk} (h:opS P st o.op=some (p,ck')) (hp:Holds p) :
 ∃ w',(execOp a.eval o).run P w = .ok .skip w'∧Rel Γ { st with ck:=ck' } V a w':=by
 obtain ⟨dst,op,ty,pos,after,guard⟩:=o
 simp only at h
 cases op <;> first | (simp [opS] at h; done) | skip
 rename_i t ad x
 have fin:∀ {b off n:Nat} {arr:Array Value} {e:TypeId} {us:List Value} (ha:a.eval ad = .pointer (some ⟨b,off,none⟩)) (hn:iJ P t=some n) (hw:w.heap[b]?=some (.cells arr e (0,0))) (hu:us=(a.eval x).cells.toList) (h1:∀ v∈us,v.oneCell'=true) (hl:us.length=n) (hfit:off+n≤arr.size),
  (execOp a.eval ⟨dst,.store t ad x,ty,pos,after,guard⟩).run P w = .ok .skip (w.setRow b (splice arr.toList off us).toArray):=by
  intro b off n arr e us ha hn hw hu h1 hl hfit
  have hst:=run_storeCells_at (P:=P) b off e us 0 arr w hw (by omega) h1
  have hsz:(a.eval x).cells.size=n:=by rw [← bP,← hu,hl]
  have hrun:(Instr.storeAt t (.pointer (some ⟨b,off,none⟩)) (a.eval x)).run P w = .ok () (w.setRow b (splice arr.toList off us).toArray):=by
   simp only [Instr.storeAt,Instr.sureAddr,Sem.run_bind,run_pure',Result.andThen_ok,storeVar,gQ hn,hsz,ne_eq,not_true_eq_false,if_false]
   rw [← hu,hst]; simp only [b5]; rfl
  simp only [execOp,ha,Sem.run_bind,hrun,Result.andThen_ok]
  rfl
 have hoth:∀ (b:Nat) (arr:Array Value),(w.setRow b arr).os=w.os∧(w.setRow b arr).tape=w.tape∧(w.setRow b arr).output=w.output∧(w.setRow b arr).heap.size=w.heap.size:=fun b arr=>⟨rfl,rfl,rfl,by simp [World.setRow]⟩
 simp only [opS] at h
 split at h
 · rename_i i off vs n ha hx hn
   simp only [aW] at hx
   obtain ⟨sx,hx1,hx2⟩:=hx
   obtain ⟨hu,h1⟩:=j2 r.wok hx2 (aK r (g:=none) trivial hx1)
   split at h
   · rename_i cs e hck
     cases hb:(Nat.beq vs.length n&&Nat.ble (off+n) cs.length)
     · rw [hb] at h; simp at h
     · rw [hb] at h
       simp only [cond_true,aa,ae] at h
       obtain ⟨rfl,rfl⟩:=h
       simp only [ab] at hb
       have q1:=ar hb.1
       have q2:=aA hb.2
       obtain ⟨us,g1,g2⟩:=r.wok.own i _ hck
       have hul:=hu.length
       have hcl:=g2.length
       have e1:a.eval ad = .pointer (some ⟨V.σ i,off,none⟩):=aK r (g:=none) trivial ha
       refine ⟨_,fin e1 hn g1 rfl h1 (by omega) (by simp; omega),r.setCk (r.wok.rewrite hck _ (hoth _ _) (fun b hb=>setRow_other w _ b _ (fun he=>hb (by rw [he]; rfl))) rfl ?_)⟩
       have:cs.take off++vs++cs.drop (off+n)=splice cs off vs:=by unfold splice; rw [q1]
       rw [this]
       exact ⟨_,setRow_heap w (V.σ i) _ _ e (0,0) g1,g2.splice hu off⟩
   · simp at h
 · rename_i i j sz off vs n ha hx hn
   simp only [aW] at hx
   obtain ⟨sx,hx1,hx2⟩:=hx
   obtain ⟨hu,h1⟩:=j2 r.wok hx2 (aK r (g:=none) trivial hx1)
   split at h
   · rename_i e ty' l hck
     split at h
     · rename_i x' hdec
       simp only [aW] at hdec
       obtain ⟨pds,hpd,hdec⟩:=hdec
       cases hb:(Nat.beq vs.length n&&Nat.ble (off+n) ty'.size&&Nat.beq sz ty'.size)
       · rw [hb] at h; simp at h
       · rw [hb] at h
         simp only [cond_true,aa,ae] at h
         obtain ⟨rfl,rfl⟩:=h
         simp only [Holds] at hp
         simp only [ab] at hb
         have q1:=ar hb.1.1
         have q2:=aA hb.1.2
         have q3:=ar hb.2
         obtain ⟨xs,k1,k2,k3⟩:=r.wok.own i _ hck
         have hul:=hu.length
         have hsp:=ty'.size_pos
         rcases k1.2 with ⟨_,h4⟩ | ⟨g,cap,cur,m1,m2,m3,m4,m5,m6,m7⟩
         · omega
         · have hs:V.σ i=g:=k3 g (by rw [m1]; rfl)
           have e1:a.eval ad = .pointer (some ⟨g,j * ty'.size+off,none⟩):=by rw [← hs,← q3]; exact aK r (g:=none) trivial ha
           have hjl:j * ty'.size+ty'.size≤l.length * ty'.size:=by rw [← Nat.succ_mul]; exact bV _ hp
           have hcap:l.length * ty'.size≤cap * ty'.size:=bV _ m4
           refine ⟨_,fin e1 hn m3 rfl h1 (by omega) (by rw [m6]; omega),r.setCk (r.wok.rewrite hck _ (hoth _ _) (fun b hb=>setRow_other w _ b _ (fun he=>hb (by rw [he]; simp [Chunk.blk,m1,Value.ownBlock]))) rfl ?_)⟩
           have hcl:cur.toList.length=cap * ty'.size:=by rw [bP]; exact m6
           have hlen:(splice cur.toList (j * ty'.size+off) (a.eval x).cells.toList).length=cur.toList.length:=lv (by omega)
           have hrow:((xs.drop (j * ty'.size)).take ty'.size).length=ty'.size:=by simp [k1.1]; omega
           have e5:(splice cur.toList (j * ty'.size+off) (a.eval x).cells.toList).take (l.length * ty'.size)=splice xs (j * ty'.size+off) (a.eval x).cells.toList:=by
            rw [BY (by omega) (by omega),m7]
           refine ⟨splice xs (j * ty'.size+off) (a.eval x).cells.toList,⟨?_,.inr ⟨g,cap,_,by rw [cV]; exact m1,br _,setRow_heap w g _ _ e (0,0) m3,by rw [cV]; exact m4,m5,by simpa using hlen.trans hcl,by rw [cV]; simpa using e5⟩⟩,?_,k3⟩
           · rw [lv (by rw [k1.1]; omega),cV]; exact k1.1
           · rw [tD (sz:=ty'.size) (by omega) (by rw [k1.1]; exact hjl),K1 hp]
             refine k2.splice (ETy.dec_PR hdec (j6 hpd ?_)) _
             have e6:((ty'.enc (ty'.get l j)).map SC.pd).take off++vs++((ty'.enc (ty'.get l j)).map SC.pd).drop (off+n)=splice ((ty'.enc (ty'.get l j)).map SC.pd) off vs:=by unfold splice; rw [q1]
             rw [e6]
             refine All2.splice ?_ hu off
             rw [All2.map_left,← IR hp]
             exact (k2.drop _).take _
     · simp at h
   · simp at h
 · simp at h
end
end Go.Ev
