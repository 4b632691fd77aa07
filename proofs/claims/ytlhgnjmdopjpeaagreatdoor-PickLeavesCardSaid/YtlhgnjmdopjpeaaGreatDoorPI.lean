/- An executor for function bodies of the model over data, part PH: operations that make or write the call's own blocks are sound. Conditions: each operation's own, told as a proposition. An executor for function bodies of the model over data, part PI: slices that the call owns: cut short, appended to. Conditions: each operation's own, told as a proposition. -/
import Derived.Test.YtlhgnjmdopjpeaaGreatDoorPG
import Derived.Laws.BytesString
import Derived.Laws.Cells
namespace Go.Ev
open Go.RowKit
def splice{α:Type}(xs:List α)(o:Nat)(us:List α):List α:=xs.take o++us++xs.drop (o+us.length)
theorem l6{α:Type}{xs us:List α}{o:Nat}(h:o+us.length≤xs.length):(splice xs o us).length=xs.length:=by simp[splice];omega
theorem De{α:Type}{xs us:List α}{o m:Nat}(h:o+us.length≤m)(hm:m≤xs.length):(splice xs o us).take m=splice (xs.take m) o us:=by
 unfold splice
 have h1:(xs.take o++us).length=o+us.length:=by simp;omega
 rw[List.take_append,aZ (by rw[h1];exact h),h1,ei,cZ (by omega),List.drop_take]
theorem tH{α:Type}{xs us:List α}{j sz off:Nat}(h:off+us.length≤sz)(hj:j+sz≤xs.length):splice xs (j+off) us=splice xs j (splice ((xs.drop j).take sz) off us):=by
 have hl:((xs.drop j).take sz).length=sz:=by simp;omega
 have h2:(splice ((xs.drop j).take sz) off us).length=sz:=by rw[l6 (by rw[hl];exact h),hl]
 unfold splice at h2 ⊢
 rw[h2]
 have e1:xs.take (j+off)=xs.take j++((xs.drop j).take sz).take off:=by rw[ei,cZ (by omega),List.take_add]
 have e2:xs.drop (j+off+us.length)=((xs.drop j).take sz).drop (off+us.length)++xs.drop (j+sz):=by
  rw[List.drop_take,List.drop_drop]
  have h3:=(dn (sz - (off+us.length)) (xs.drop (j+(off+us.length)))).symm
  rw[List.drop_drop,show j+(off+us.length)+(sz - (off+us.length))=j+sz from by omega]at h3
  rw[show j+off+us.length=j+(off+us.length)from by omega];exact h3
 rw[e1,e2];simp only[bV]
theorem All2.splice{α β:Type}{R:α→β→Prop}{l v:List α}{m u:List β}(h:All2 R l m)(h':All2 R v u)(o:Nat):All2 R (splice l o v) (splice m o u):=by
 unfold Ev.splice;rw[h'.length];exact((h.take o).append h').append (h.drop _)
theorem xA(t:ETy)(l:List t.den)(n:Nat):(l.drop n).flatMap t.enc=(l.flatMap t.enc).drop (n * t.size):=by
 induction l generalizing n with
 |nil=>simp
 | cons x l ih =>
   cases n with
   |zero=>simp
   |succ n=>rw[List.drop_succ_cons,bH,ih,show(n+1) * t.size=(t.enc x).length+n * t.size from by rw[t.enc_length,cJ];omega,List.drop_length_add_append]
theorem Ly{t:ETy}{l:List t.den}{j:Nat}(h:j<l.length)(x:t.den):(l.set j x).flatMap t.enc=splice (l.flatMap t.enc) (j * t.size) (t.enc x):=by
 have e:l.set j x=l.take j++x::l.drop (j+1):=List.set_eq_take_append_cons_drop.trans (if_pos h)
 unfold splice
 rw[e,List.flatMap_append,bH,lL,xA,t.enc_length,cJ,Nat.one_mul,bV]
theorem Lx{t:ETy}{l:List t.den}{j:Nat}(h:j<l.length):((l.flatMap t.enc).drop (j * t.size)).take t.size=t.enc (t.get l j):=by
 rw[←xA]
 have e:=dk h
 have e2:t.get l j=l[j]:=ETy.get_eq (by simp[h])
 rw[e,bH,e2]
 have h2:=t.enc_length l[j]
 rw[List.take_append,aZ (by omega),h2,eU,List.take_zero,aO]
section
variable{Γ:Ctx}{P:Program}{st:ST}{V:Vn}{a:Act}{w:World}{tys:Tys}
theorem Rel.grow(r:Rel Γ st V a w)(hwf:st.wf=true)(k:Option Nat){c:Chunk}{v':Value}{s':Nat}{w':World}{row:Option Nat}
 (hrow:∀b,row=some b→∃i c,k=some i∧st.ck[i]?=some c∧c.blk V i=some b) (hg:w.grownBy w' row)
 (hc:∀V',Agree st.ck.length V V'→V'.H=V.H→V'.σ st.ck.length=s'→V'.ov st.ck.length=v'→c.holds V' w' st.ck.length∧∀b,c.blk V' st.ck.length=some b→row=some b∨w.heap.size≤b) :
 ∃V',Agree st.ck.length V V'∧V'.H=V.H∧V'.σ st.ck.length=s'∧V'.ov st.ck.length=v'∧Rel Γ {st with ck:=cK k st.ck++[c]} V' a w':=by
 have hwf2:iW st.ck=true:=by simp only[ST.wf,af]at hwf;exact hwf.2
 obtain⟨V',h1,h2,h3,h4,h5⟩:=r.wok.regrow hwf2 (aC r.few.1 r.few.2) k hrow hg hc
 exact⟨V',h1,h2,h3,h4,r.turn hwf h1 h5 (by rw[au,pP];omega)⟩
theorem Rel.setCk(r:Rel Γ st V a w){i:Nat}{c':Chunk}{w':World}(h:WOk Γ (st.ck.set i c') V w'):Rel Γ {st with ck:=st.ck.set i c'} V a w' :=
 {size:=r.size,defers:=r.defers,slots:=r.slots,wok:=h,few:=⟨r.few.1,by rw[bA];exact r.few.2⟩}
theorem vN(r:Rel Γ st V a w){t e:TypeId}{len n:Nat}{parts:Array (Nat×Operand)}{z cells:List SC}{ps:List (Nat×List SC)}(hu:P.underlying t=some (.slice e))(hn:gu P e=some n)(hz:lX P e=some z)
 (hp:kB st none parts.toList=some ps) (hf:mc (fun i=>some (i * n,n)) (BS z len) ps=some cells) (h1:len * n≤16777216) (h3:z.length=n) :
 ∃rs,All2 (SC.R V) cells rs∧(Instr.buildSlice t len (parts.map fun p=>(p.1,a.eval p.2))).run P w = .ok (.slice (some ⟨w.heap.size,0,none⟩) len len) (w.alloc (.cells rs.toArray e)):=by
 have hparts:All2 (pU V) ps (parts.map fun p=>(p.1,a.eval p.2)).toList:=by rw[db];exact kC r (g:=none) trivial _ _ hp
 obtain⟨v,hv,hvz,hv1⟩:=nd (V:=V) (w:=w) hz
 obtain⟨zs,k1,k2,k3⟩:=rh hvz len
 have hzl:=hvz.length
 have hone:∀u∈zs,u.oneCell'=true:=by
  intro u hu
  obtain⟨i,hi⟩:=List.getElem?_of_mem hu
  have hi2:i<zs.length:=(List.getElem?_eq_some_iff.1 hi).1
  rw[k3 i (by omega)]at hi
  exact hv1 u (List.mem_of_getElem? hi)
 obtain⟨rs,g1,g2,g3⟩:=lf _ hparts hf k1 hone
 refine⟨rs,g2,?_⟩
 have hnot:¬(len * n>2 ^ 24):=by omega
 simp only[Instr.buildSlice,Sem.run_bind,run_underlying hu,Result.andThen_ok,fN hn,if_neg hnot,run_pure']
 by_cases h0:len * n=0
 · have hzs:zs=[]:=bm (by rw[k2,←hzl,h3];exact h0)
   subst hzs
   simp only[h0,if_true,run_pure',Result.andThen_ok,Sem.run_bind]
   have hz0:(Array.map (fun x=>(#[]:Array Value)[x % (#[]:Array Value).size]!) (Array.range 0))=#[]:=by simp[Array.range]
   rw[hz0,g1]
   rfl
 · simp only[if_neg h0,Sem.run_bind,hv,Result.andThen_ok,run_pure']
   have hza:(Array.range (len * n)).map (v.cells[· % v.cells.size]!)=zs.toArray:=by
    apply dK.1
    apply List.ext_getElem?
    intro i
    simp only[db,List.getElem?_map,Array.toList_range]
    have hvs:v.cells.toList.length=v.cells.size:=bD
    by_cases hi:i<len * n
    · rw[List.getElem?_range hi,k3 i (by rw[←hzl,h3];exact hi),hvs]
      simp only[bn]
      have hpos2:0<v.cells.size:=by rw[←hvs,←hzl,h3];exact Nat.pos_of_ne_zero fun e=>h0 (by rw[e,Nat.mul_zero])
      have hm:i % v.cells.size<v.cells.size:=Nat.mod_lt _ hpos2
      rw[getElem!_pos v.cells _ hm]
      simp[hm]
    · rw[List.getElem?_eq_none (by simpa using Nat.le_of_not_lt hi),List.getElem?_eq_none (by rw[k2,←hzl,h3];exact Nat.le_of_not_lt hi)]
      rfl
   rw[hza,g1]
   rfl
theorem oj(r:Rel Γ st V a w){t:TypeId}{len:Nat}{parts:Array (Nat×Operand)}{sx:SX}{ck':List Chunk}(h:opM P tys st (.buildSlice t len parts)=some (sx,ck')) :
 ∃e ty l rs,sx = .c (.own st.ck.length)∧ck'=st.ck++[.own e ty l]∧st.wf=true∧All2 (PR V.H) (l.flatMap ty.enc) rs∧rs.length=l.length * ty.size∧l.length≤maxLen ∧
  (Instr.buildSlice t len (parts.map fun p=>(p.1,a.eval p.2))).run P w = .ok (.slice (some ⟨w.heap.size,0,none⟩) l.length l.length) (w.alloc (.cells rs.toArray e)):=by
 simp only[opM]at h
 split at h
 · rename_i e hu
   split at h
   · rename_i n z ps ty' hn hz hp hty
     split at h
     · rename_i l hf
       simp only[aR]at hf
       obtain⟨cells,hf,hdec⟩:=hf
       cases hwf:(st.wf&&Nat.ble (len * n) 16777216&&Nat.beq n ty'.size&&Nat.beq z.length n&&Nat.beq l.length len)
       ·rw[hwf]at h;simp at h
       · rw [hwf]at h
         simp only[cond_true,aa,ae]at h
         obtain⟨rfl,rfl⟩:=h
         simp only[af]at hwf
         have h1:=ay hwf.1.1.1.2
         have h2:=aj hwf.1.1.2
         have h3:=aj hwf.1.2
         have h4:=aj hwf.2
         have hpos:=ty'.size_pos
         have hparts:All2 (pU V) ps (parts.map fun p=>(p.1,a.eval p.2)).toList:=by rw[db];exact kC r (g:=none) trivial _ _ hp
         obtain⟨v,hv,hvz,hv1⟩:=nd (V:=V) (w:=w) hz
         obtain⟨zs,k1,k2,k3⟩:=rh hvz len
         have hzl:=hvz.length
         have hone:∀u∈zs,u.oneCell'=true:=by
          intro u hu
          obtain⟨i,hi⟩:=List.getElem?_of_mem hu
          have hi2:i<zs.length:=(List.getElem?_eq_some_iff.1 hi).1
          rw[k3 i (by omega)]at hi
          exact hv1 u (List.mem_of_getElem? hi)
         obtain⟨rs,g1,g2,g3⟩:=lf _ hparts hf k1 hone
         have hrows:=pL hdec g2
         have hrl:rs.length=len * n:=by
          have:=hrows.length
          rw[jG,h4,←h2]at this;exact this.symm
         refine⟨e,ty',l,rs,rfl,rfl,hwf.1.1.1.1,hrows,by rw[hrl,h4,h2],?_,?_⟩
         · have:len≤len * n:=Nat.le_mul_of_pos_right _ (by omega)
           unfold maxLen;omega
         · have hnot:¬(len * n>2 ^ 24):=by omega
           simp only[Instr.buildSlice,Sem.run_bind,run_underlying hu,Result.andThen_ok,fN hn,if_neg hnot,run_pure']
           rw[h4]
           by_cases h0:len * n=0
           · have hzs:zs=[]:=bm (by rw[k2,←hzl,h3];exact h0)
             subst hzs
             simp only[h0,if_true,run_pure',Result.andThen_ok,Sem.run_bind]
             have hz0:(Array.map (fun x=>(#[]:Array Value)[x % (#[]:Array Value).size]!) (Array.range 0))=#[]:=by simp[Array.range]
             rw[hz0,g1]
             rfl
           · simp only[if_neg h0,Sem.run_bind,hv,Result.andThen_ok,run_pure']
             have hza:(Array.range (len * n)).map (v.cells[· % v.cells.size]!)=zs.toArray:=by
              apply dK.1
              apply List.ext_getElem?
              intro i
              simp only[db,List.getElem?_map,Array.toList_range]
              have hvs:v.cells.toList.length=v.cells.size:=bD
              by_cases hi:i<len * n
              · rw[List.getElem?_range hi,k3 i (by rw[←hzl,h3];exact hi),hvs]
                simp only[bn]
                have hpos2:0<v.cells.size:=by rw[←hvs,←hzl,h3];omega
                have hm:i % v.cells.size<v.cells.size:=Nat.mod_lt _ hpos2
                rw[getElem!_pos v.cells _ hm]
                simp[hm]
              · rw[List.getElem?_eq_none (by simpa using Nat.le_of_not_lt hi),List.getElem?_eq_none (by rw[k2,←hzl,h3];omega)]
                rfl
             rw[hza,g1]
             rfl
     ·simp at h
   ·simp at h
 ·simp at h
theorem xF (r:Rel Γ st V a w) {o:Oper} {sx:SX} {ck':List Chunk} (h:opM P tys st o.op=some (sx,ck')) :
 ∃v w' V',(execOp a.eval o).run P w = .ok (.value v) w'∧sx.R V' v∧Rel Γ {st with ck:=ck'} V' a w':=by
 obtain⟨dst,op,ty,pos,after,guard⟩:=o
 simp only at h
 cases op <;> first |(simp[opM]at h;done) |skip
 case alloc e =>
  simp only[opM]at h
  split at h
  · rename_i z hz
    cases hwf:st.wf
    ·rw[hwf]at h;simp at h
    · rw [hwf]at h
      simp only[cond_true,aa,ae]at h
      obtain⟨rfl,rfl⟩:=h
      obtain⟨v,hv,hvz,_⟩:=nd (V:=V) (w:=w) hz
      have hzlt:z.all (SC.lt st.ck.length)=true:=by
       unfold lX at hz
       simp only[aR]at hz
       obtain⟨i,_,v',_,hz⟩:=hz
       cases hb:v'.cells.toList.all fun v=>v.oneCell'
       ·rw[hb]at hz;simp at hz
       · rw[hb]at hz
         simp only[cond_true,aa]at hz
         subst hz
         simp[SC.lt]
      obtain⟨V',hag,_,e1,e2,r'⟩:=r.grow hwf none (c:=.cells z e) (v':=undef) (s':=w.heap.size) (row:=none) (by simp) (gk w (.cells v.cells e)) (fun V' hag _ h1 _=>by
       refine⟨⟨v.cells.toList,?_,lR hag hzlt hvz⟩,fun b hb=>.inr ?_⟩
       ·rw[h1,heap_alloc_new]
       ·simp only[Chunk.blk,h1,aa]at hb;omega)
      refine⟨.pointer (some ⟨w.heap.size,0,none⟩),_,V',?_,by show _=_;rw[e1],r'⟩
      simp only[execOp]
      refine bg ?_
      simp only[Instr.alloc,Sem.run_bind,hv,Result.andThen_ok]
      rfl
  ·simp at h
 case makeMap t res =>
  cases res with
  |some _=>simp[opM]at h
  | none =>
    simp only[opM]at h
    split at h
    case h_2=>simp at h
    split at h
    case h_2=>simp at h
    cases hwf:st.wf
    ·rw[hwf]at h;simp at h
    · rw[hwf]at h
      simp only[cond_true,aa,ae]at h
      obtain⟨rfl,rfl⟩:=h
      obtain⟨V',hag,_,e1,e2,r'⟩:=r.grow hwf none (c:=.obj (.set [] 0)) (v':=.map (some w.heap.size)) (s':=w.heap.size) (row:=none) (by simp) (gk w (.map #[] 0)) (fun V' hag _ h1 h2=>by
       refine⟨⟨by rw[h1,heap_alloc_new];rfl,by rw[h1,h2]⟩,fun b hb=>.inr ?_⟩
       simp only[Chunk.blk,h1,aa]at hb;omega)
      refine⟨.map (some w.heap.size),_,V',?_,by show _=_;rw[e2],r'⟩
      simp only[execOp]
      refine bg ?_
      simp[Instr.makeMap,Result.andThen]
 case range t x =>
  simp only[opM]at h
  split at h
  · rename_i j kt et hx ht
    split at h
    · rename_i es clk hck
      cases hwf:(st.wf&&Nat.blt j st.ck.length)
      ·rw[hwf]at h;simp at h
      · rw[hwf]at h
        simp only[cond_true,aa,ae]at h
        obtain⟨rfl,rfl⟩:=h
        simp only[af]at hwf
        have hjl:j<st.ck.length:=ay hwf.2
        have e3:a.eval x=V.ov j:=aI r (g:=none) trivial hx
        obtain⟨g1,g2⟩:=r.wok.own j _ hck
        obtain⟨V',hag,_,e1,e2,r'⟩:=r.grow hwf.1 none (c:=.obj (.it j [] clk)) (v':=.map (some w.heap.size)) (s':=w.heap.size) (row:=none) (by simp) (gk w (.mapIter (some (V.σ j)) clk #[] clk)) (fun V' hag _ h1 h2=>by
         refine⟨⟨?_,by rw[h1,h2]⟩,fun b hb=>.inr ?_⟩
         ·rw[h1,heap_alloc_new];show _=some (Obj.mapIter (some (V'.σ j)) clk #[] clk);rw[(hag.same j hjl).1]
         ·simp only[Chunk.blk,h1,aa]at hb;omega)
        refine⟨.pointer (some ⟨w.heap.size,0,none⟩),_,V',?_,by show _=_;rw[e1],r'⟩
        simp only[execOp,e3,g2]
        exact bg (run_range_map w t kt et (V.σ j) _ clk ht g1)
    ·simp at h
  ·simp at h
 case box e x =>
  simp only[opM]at h
  split at h
  · rename_i sv' n hx hn
    split at h
    · rename_i cs hcs
      cases hwf:(Nat.beq cs.length n&&st.wf&&cs.all (SC.lt st.ck.length))
      ·rw[hwf]at h;simp at h
      · rw[hwf]at h
        simp only[cond_true,aa,ae]at h
        obtain⟨rfl,rfl⟩:=h
        simp only[af]at hwf
        obtain⟨h1,_⟩:=ki r.wok hcs (aI r (g:=none) trivial hx)
        obtain⟨V',hag,_,e1,e2,r'⟩:=r.grow hwf.1.2 none (c:=.cells cs e) (v':=undef) (s':=w.heap.size) (row:=none) (by simp) (gk w (.cells (a.eval x).cells e)) (fun V' hag _ g1 _=>by
         refine⟨⟨(a.eval x).cells.toList,?_,lR hag hwf.2 h1⟩,fun b hb=>.inr ?_⟩
         ·rw[g1,heap_alloc_new]
         ·simp only[Chunk.blk,g1,aa]at hb;omega)
        refine⟨.pointer (some ⟨w.heap.size,0,none⟩),_,V',?_,by show _=_;rw[e1],r'⟩
        simp only[execOp]
        exact bg rfl
    ·simp at h
  ·simp at h
 case buildSlice t len parts =>
  obtain⟨e,ty',l,rs,rfl,rfl,hwf,hrows,hrl,hmx,hrun⟩:=oj r h
  obtain⟨V',hag,hH,e1,e2,r'⟩:=r.grow hwf none (c:=.own e ty' l) (v':=.slice (some ⟨w.heap.size,0,none⟩) l.length l.length) (s':=w.heap.size) (row:=none) (by simp) (gk w (.cells rs.toArray e)) (fun V' hag hH f1 f2=>by
   refine⟨⟨rs,⟨hrl,.inr ⟨w.heap.size,l.length,rs.toArray,f2,aP _,heap_alloc_new w _,ar _,hmx,by simpa using hrl,?_⟩⟩,by rw[hH];exact hrows,fun b hb=>?_⟩,fun b hb=>.inr ?_⟩
   ·rw[aZ (by simp[hrl])]
   ·rw[f2]at hb;simp only[Value.ownBlock,aa]at hb;rw[f1,hb]
   ·simp only[Chunk.blk,f2,Value.ownBlock,aa]at hb;omega)
  refine⟨_,_,V',?_,rfl,r'⟩
  simp only[execOp]
  rw[e2]
  exact bg hrun
theorem pB(n:Int):∀(es:List (Int×Nat)) (i j:Nat),jC n es i=some j→i≤j∧∃b,es[j - i]?=some (n,b)
 |[],_,_,h=>by cases h
 | e :: es,i,j,h=>by
   rw[jC]at h
   cases hb:n==e.1
   · rw[hb]at h
     obtain⟨h1,b,h2⟩:=pB n es (i+1) j h
     refine⟨by omega,b,?_⟩
     rw[show j - i=(j - (i+1))+1 by omega,List.getElem?_cons_succ];exact h2
   · rw[hb]at h
     simp only[cond_true,aa]at h
     subst h
     exact⟨ar _,e.2,by rw[eU,List.getElem?_cons_zero,eq_of_beq hb]⟩
theorem wJ{t kt et:TypeId}{kk:IntKind}(ht:P.underlying t=some (.map kt et))(hk:P.underlying kt=some (.int kk)){b clk:Nat}{es:List (Int×Nat)}(hb:w.heap[b]?=some (.map (es.map fe).toArray clk))(n:Int) :
 ∃w',(Instr.mapUpdate t (.map (some b)) (.int .i64 n) (.bool true)).run P w = .ok () w'∧w'.os=w.os∧w'.tape=w.tape∧w'.output=w.output∧w'.heap.size=w.heap.size ∧
  w'.heap[b]?=some (.map ((jA es clk n).map fe).toArray (kh es clk n))∧∀k,k≠b→w'.heap[k]?=w.heap[k]?:=by
 have hlt:b<w.heap.size:=(Array.getElem?_eq_some_iff.1 hb).1
 have hg:(getObj b).run P w = .ok (.map (es.map fe).toArray clk) w:=by simp[getObj,Sem.run,hb]
 have hset:∀es' clk',(setObj b (.map es' clk')).run P w = .ok () (Go.ChangeMaps.setBlock w b (.map es' clk')):=fun es' clk'=>by simp[setObj,Sem.run,hb,Go.ChangeMaps.setBlock]
 have hres:∀o:Obj,(Go.ChangeMaps.setBlock w b o).heap[b]?=some o∧(Go.ChangeMaps.setBlock w b o).heap.size=w.heap.size∧∀k,k≠b→(Go.ChangeMaps.setBlock w b o).heap[k]?=w.heap[k]?:=fun o =>
  ⟨by simp[Go.ChangeMaps.setBlock,hlt],by simp[Go.ChangeMaps.setBlock],fun k hk=>by simp only[Go.ChangeMaps.setBlock];exact Array.getElem?_setIfInBounds_ne (Ne.symm hk)⟩
 have hrun:(Instr.mapUpdate t (.map (some b)) (.int .i64 n) (.bool true)).run P w = .ok () (Go.ChangeMaps.setBlock w b (.map ((jA es clk n).map fe).toArray (kh es clk n))):=by
  simp only[Instr.mapUpdate,Sem.run_bind,run_underlying ht,Result.andThen_ok,hg,j1 hk]
  simp only[List.toList_toArray,kI hk,Result.andThen_ok]
  have hh:=tB n es 0
  unfold jA kh
  cases hp:jC n es 0 with
  | none =>
    rw[hp]at hh
    rw[←hh]
    simp only[Option.map_none,Result.andThen_ok,Option.isSome_none,cond_false]
    rw[hset]
    simp[fe]
  | some j =>
    rw[hp]at hh
    rw[←hh]
    obtain⟨_,b1,h2⟩:=pB n es 0 j hp
    have hkey:((((es.map fe).toArray)[j]?).map (·.key)).getD (Value.int .i64 n) = .int .i64 n:=by
     simp only[List.getElem?_toArray,List.getElem?_map]
     rw[show j=j - 0 by omega,h2];rfl
    have hsame:(Instr.keyThatStays (.int .i64 n) (.int .i64 n)).run P w = .ok (.int .i64 n) w:=by
     unfold Instr.keyThatStays
     rw[if_pos (by simp[Instr.sameBits])];rfl
    simp only[bn,Result.andThen_ok,Option.isSome_some,cond_true,Sem.run_bind,hkey,hsame,hset]
    congr 2
    congr 1
    refine Array.ext_getElem? fun k=>?_
    rw[Array.getElem?_modify]
    split
    · rename_i e
      subst e
      simp only[List.getElem?_toArray,List.getElem?_map]
      rw[show j=j - 0 by omega,h2];rfl
    ·rfl
 exact⟨_,hrun,rfl,rfl,rfl,(hres _).2.1,(hres _).1,(hres _).2.2⟩
theorem xG(r:Rel Γ st V a w){o:Oper}{p:Option Prop}{ck':List Chunk}(h:opS P st o.op=some (p,ck'))(hp:Holds p) :
 ∃w',(execOp a.eval o).run P w = .ok .skip w'∧Rel Γ {st with ck:=ck'} V a w':=by
 obtain⟨dst,op,ty,pos,after,guard⟩:=o
 simp only at h
 cases op <;> first |(simp[opS]at h;done) |skip
 rotate_left
 · rename_i t m k v
   simp only[opS]at h
   split at h
   · rename_i j n kt et hm hk hv ht
     split at h
     · rename_i es clk kk hck hku
       simp only[aa,ae]at h
       obtain⟨rfl,rfl⟩:=h
       have e1:a.eval m=V.ov j:=aI r (g:=none) trivial hm
       have e2:=aI r (g:=none) trivial hk
       have e3:=aI r (g:=none) trivial hv
       obtain⟨h1,h2⟩:=r.wok.own j _ hck
       obtain⟨w',hrun,q1,q2,q3,q4,q5,q6⟩:=wJ (P:=P) ht hku h1 n
       refine⟨w',?_,r.setCk (r.wok.rewrite hck _ ⟨q1,q2,q3,q4⟩ (fun b hb=>q6 b fun e=>hb (by rw[e];rfl)) rfl ⟨q5,h2⟩)⟩
       simp only[execOp,e1,h2]
       generalize a.eval k=u at e2 ⊢
       generalize a.eval v=u2 at e3 ⊢
       cases e2;cases e3
       simp only[Sem.run_bind,hrun,Result.andThen_ok]
       rfl
     ·simp at h
   ·simp at h
 rename_i t ad x
 have fin:∀{b off n:Nat} {arr:Array Value} {e:TypeId} {us:List Value} (ha:a.eval ad = .pointer (some ⟨b,off,none⟩)) (hn:gu P t=some n) (hw:w.heap[b]?=some (.cells arr e (0,0))) (hu:us=(a.eval x).cells.toList) (h1:∀v∈us,v.oneCell'=true) (hl:us.length=n) (hfit:off+n≤arr.size),
  (execOp a.eval ⟨dst,.store t ad x,ty,pos,after,guard⟩).run P w = .ok .skip (w.setRow b (splice arr.toList off us).toArray):=by
  intro b off n arr e us ha hn hw hu h1 hl hfit
  have hst:=run_storeCells_at (P:=P) b off e us 0 arr w hw (by omega) h1
  have hsz:(a.eval x).cells.size=n:=by rw[←bD,←hu,hl]
  have hrun:(Instr.storeAt t (.pointer (some ⟨b,off,none⟩)) (a.eval x)).run P w = .ok () (w.setRow b (splice arr.toList off us).toArray):=by
   simp only[Instr.storeAt,Instr.sureAddr,Sem.run_bind,run_pure',Result.andThen_ok,storeVar,fN hn,hsz,ne_eq,not_true_eq_false,if_false]
   rw[←hu,hst];simp only[cn];rfl
  simp only[execOp,ha,Sem.run_bind,hrun,Result.andThen_ok]
  rfl
 have hoth:∀(b:Nat) (arr:Array Value),(w.setRow b arr).os=w.os∧(w.setRow b arr).tape=w.tape∧(w.setRow b arr).output=w.output∧(w.setRow b arr).heap.size=w.heap.size:=fun b arr=>⟨rfl,rfl,rfl,by simp[World.setRow]⟩
 simp only[opS]at h
 split at h
 · rename_i i off vs n ha hx hn
   simp only[aR]at hx
   obtain⟨sx,hx1,hx2⟩:=hx
   obtain⟨hu,h1⟩:=ki r.wok hx2 (aI r (g:=none) trivial hx1)
   split at h
   · rename_i cs e hck
     cases hb:(Nat.beq vs.length n&&Nat.ble (off+n) cs.length)
     ·rw[hb]at h;simp at h
     · rw[hb]at h
       simp only[cond_true,aa,ae]at h
       obtain⟨rfl,rfl⟩:=h
       simp only[af]at hb
       have q1:=aj hb.1
       have q2:=ay hb.2
       obtain⟨us,g1,g2⟩:=r.wok.own i _ hck
       have hul:=hu.length
       have hcl:=g2.length
       have e1:a.eval ad = .pointer (some ⟨V.σ i,off,none⟩):=aI r (g:=none) trivial ha
       refine⟨_,fin e1 hn g1 rfl h1 (by omega) (by simp;omega),r.setCk (r.wok.rewrite hck _ (hoth _ _) (fun b hb=>setRow_other w _ b _ (fun he=>hb (by rw[he];rfl))) rfl ?_)⟩
       have:cs.take off++vs++cs.drop (off+n)=splice cs off vs:=by unfold splice;rw[q1]
       rw[this]
       exact⟨_,setRow_heap w (V.σ i) _ _ e (0,0) g1,g2.splice hu off⟩
   ·simp at h
 · rename_i i j sz off vs n ha hx hn
   simp only[aR]at hx
   obtain⟨sx,hx1,hx2⟩:=hx
   obtain⟨hu,h1⟩:=ki r.wok hx2 (aI r (g:=none) trivial hx1)
   split at h
   · rename_i e ty' l hck
     split at h
     · rename_i x' hdec
       simp only[aR]at hdec
       obtain⟨pds,hpd,hdec⟩:=hdec
       cases hb:(Nat.beq vs.length n&&Nat.ble (off+n) ty'.size&&Nat.beq sz ty'.size)
       ·rw[hb]at h;simp at h
       · rw [hb]at h
         simp only[cond_true,aa,ae]at h
         obtain⟨rfl,rfl⟩:=h
         simp only[Holds]at hp
         simp only[af]at hb
         have q1:=aj hb.1.1
         have q2:=ay hb.1.2
         have q3:=aj hb.2
         obtain⟨xs,k1,k2,k3⟩:=r.wok.own i _ hck
         have hul:=hu.length
         have hsp:=ty'.size_pos
         rcases k1.2 with⟨_,h4⟩ |⟨g,cap,cur,m1,m2,m3,m4,m5,m6,m7⟩
         ·omega
         · have hs:V.σ i=g:=k3 g (by rw[m1];rfl)
           have e1:a.eval ad = .pointer (some ⟨g,j * ty'.size+off,none⟩):=by rw[←hs,←q3];exact aI r (g:=none) trivial ha
           have hjl:j * ty'.size+ty'.size≤l.length * ty'.size:=by rw[←Nat.succ_mul];exact bQ _ hp
           have hcap:l.length * ty'.size≤cap * ty'.size:=bQ _ m4
           refine⟨_,fin e1 hn m3 rfl h1 (by omega) (by rw[m6];omega),r.setCk (r.wok.rewrite hck _ (hoth _ _) (fun b hb=>setRow_other w _ b _ (fun he=>hb (by rw[he];simp[Chunk.blk,m1,Value.ownBlock]))) rfl ?_)⟩
           have hcl:cur.toList.length=cap * ty'.size:=by rw[bD];exact m6
           have hlen:(splice cur.toList (j * ty'.size+off) (a.eval x).cells.toList).length=cur.toList.length:=l6 (by omega)
           have hrow:((xs.drop (j * ty'.size)).take ty'.size).length=ty'.size:=by simp[k1.1];omega
           have e5:(splice cur.toList (j * ty'.size+off) (a.eval x).cells.toList).take (l.length * ty'.size)=splice xs (j * ty'.size+off) (a.eval x).cells.toList:=by
            rw[De (by omega) (by omega),m7]
           refine⟨splice xs (j * ty'.size+off) (a.eval x).cells.toList,⟨?_,.inr ⟨g,cap,_,by rw[bA];exact m1,aP _,setRow_heap w g _ _ e (0,0) m3,by rw[bA];exact m4,m5,by simpa using hlen.trans hcl,by rw[bA];simpa using e5⟩⟩,?_,k3⟩
           ·rw[l6 (by rw[k1.1];omega),bA];exact k1.1
           · rw[tH (sz:=ty'.size) (by omega) (by rw[k1.1];exact hjl),Ly hp]
             refine k2.splice (ETy.dec_PR hdec (kD hpd ?_)) _
             have e6:((ty'.enc (ty'.get l j)).map SC.pd).take off++vs++((ty'.enc (ty'.get l j)).map SC.pd).drop (off+n)=splice ((ty'.enc (ty'.get l j)).map SC.pd) off vs:=by unfold splice;rw[q1]
             rw[e6]
             refine All2.splice ?_ hu off
             rw[All2.map_left,←Lx hp]
             exact(k2.drop _).take _
     ·simp at h
   ·simp at h
 ·simp at h
end
structure Src where
 own:Option Nat
 t:ETy
 l:List t.den
def B8(st:ST):SX→Option Src
 | .c (.own j)=>match st.ck[j]? with
   |some (.own _ t l)=>some ⟨some j,t,l⟩
   |_=>none
 |.c (.pd (.lst t l))=>some ⟨none,t,l⟩
 |_=>none
inductive Head where
 |nil
 |own (k:Nat) (e:TypeId) (t:ETy) (l:List t.den)
def FJ(st:ST):SX→Option Head
 | .c (.own k)=>match st.ck[k]? with
   |some (.own e t l)=>some (.own k e t l)
   |_=>none
 |.c (.pd (.v (.slice none 0 0)))=>some .nil
 |_=>none
def eqO(x:Option Nat)(k:Nat):Bool:=match x with |some j=>Nat.beq j k |none=>false
def room(n:Nat)(bytes:Nat):Prop:=n * bytes≤140737488355328∧n≤maxLen
def strOf:List Int→Str
 |[]=>[]
 |n::r=>UInt8.ofNat n.toNat::strOf r
def opX (P : Program) (st:ST):Op→Option (Option Prop×SX×List Chunk)
 | .slice t x none (some h) none=>match bu st none x,P.underlying t,lN (bu st none h)with
   | some (.c (.own k)),some (.slice e0),some m=>match st.ck[k]?,gu P e0 with
     |some (.own e ty l),some _=>bif st.wf then some (some (0≤m∧m≤l.length),.c (.own st.ck.length),cK (some k) st.ck++[.own e ty (l.take m.toNat)])else none
     |_,_=>none
   |_,_,_=>none
 | .call { callee:=.builtin .append,args:=args,argTypes:=ts} =>
   match args.toList,ts.toList with
   | [x, y], [t,t']=>match(bu st none x).bind (FJ st),(bu st none y).bind (B8 st),P.underlying t with
     | some hd,some ⟨so,ty,ly⟩,some (.slice e)=>match P.info? e with
       | some i=>match i.zero with
         | some z =>
           bif Nat.beq t t'&&st.wf&&Nat.beq ty.size i.size&&Nat.beq z.cells.toList.length i.size then
            match hd with
            | .own k ek tk lk=>bif Nat.beq ek e && !eqO so k then
               if h:ty=tk then some (some (room (lk++(h ▸ ly:List tk.den)).length i.bytes),.c (.own st.ck.length),cK (some k) st.ck++[.own e tk (lk++(h ▸ ly:List tk.den))])else none
              else none
            |.nil=>some (some (room ly.length i.bytes),.c (.own st.ck.length),cK none st.ck++[.own e ty ly])
           else none
         |none=>none
       |none=>none
     |_,_,_=>none
   |_,_=>none
 | .convert src dst x=>match P.underlying src,P.underlying dst,(bu st none x).bind (B8 st)with
   | some (.slice e),some .string,some ⟨_,.byte,l⟩=>match P.underlying e with
     |some (.int .u8)=>some (none,.c (.pd (.str (strOf l))),st.ck)
     |_=>none
   |_,_,_=>none
 |_=>none
section
variable{Γ:Ctx}{P:Program}{st:ST}{V:Vn}{a:Act}{w:World}
theorem pX{t ty e:TypeId}{i:TypeInfo}{z:Value}{size:Nat}(ht:P.underlying t=some (.slice e))(hi:P.info? e=some i)(hz:i.zero=some z)
 (hsize:i.size=size) (hzs:z.cells.size=size) (hsz:0<size) {v:Value} {n:Nat} {xs:List Value} (hown:w.ownsRow 0 e size v n xs)
 {ao:Option Addr} {m c:Nat} {news:List Value} (hl:news.length=m * size) (hnone:ao=none→m=0∧c=0) (hnews:∀ad,ao=some ad→∀(j:Nat) u,news[j]?=some u→w.cell? (ad.add j)=some u)
 (h1:∀u∈news,u.oneCell'=true) (h63:n+m≤maxLen) (hbytes:(n+m) * i.bytes≤140737488355328) :
 ∃v' w',(Builtin.append_ #[t,t] ty #[v,.slice ao m c]).run P w = .ok v' w'∧w'.ownsRow 0 e size v' (n+m) (xs++news)∧w.grownBy w' v.ownBlock∧∀b,v'.ownBlock=some b→v.ownBlock=some b∨w.heap.size≤b:=by
 cases ao with
 | none =>
   obtain⟨rfl,rfl⟩:=hnone rfl
   have hn:news=[]:=bm (by simpa using hl)
   subst hn
   refine⟨v,w,?_,by simpa using hown,World.grownBy.refl _ _,fun b hb=>.inl hb⟩
   exact run_append_owned_none (P:=P) w 0 t ty e i size ht hi v n xs hown
 | some ad =>
   obtain⟨v',w',hr,ho,hg,_⟩:=run_append_own (P:=P) w 0 t ty e i z size i.bytes ht hi hz hsize rfl hzs hsz v n xs hown ad m c news hl (hnews ad rfl) h1 h63 hbytes (aP _)
   refine⟨v',w',hr,ho,hg,?_⟩
   rcases hown.2 with⟨rfl,rfl⟩ |⟨g,cap,cur,rfl,hbg,hgg,hnc,hcm,hcs,htake⟩
   · have hx:xs=[]:=bm (by simpa using hown.1)
     subst hx
     obtain⟨v2,w2,hr2,ho2,_,_⟩:=run_append_own (P:=P) w w.heap.size t ty e i z size i.bytes ht hi hz hsize rfl hzs hsz _ 0 [] (World.ownsRow_nil _ _ _ _) ad m c news hl (hnews ad rfl) h1 h63 hbytes (ar _)
     rw[hr]at hr2
     simp only[Result.ok.injEq]at hr2
     obtain⟨rfl,rfl⟩:=hr2
     intro b hb
     exact .inr (ho2.lt b hb).1
   · by_cases hroom:n+m≤cap
     · obtain⟨w2,hr2,_,_⟩:=run_append_fits (P:=P) w 0 t ty e i size ht hi hsize g n cap xs hown ad m c news hl (hnews ad rfl) h1 hroom
       rw[hr]at hr2
       simp only[Result.ok.injEq]at hr2
       obtain⟨rfl,rfl⟩:=hr2
       intro b hb
       exact .inl hb
     · have h64:((n+m:Nat):Int)≤9223372036854775807:=by unfold maxLen at h63;omega
       have hr2:=run_append_grow (P:=P) w t ty e i z ht hi hz ⟨g,0,none⟩ n cap xs (by rw[hsize];exact hown.1) (hown.cells (g:=g) rfl) ad m c news (by rw[hsize];exact hl) (hnews ad rfl) (by omega) h64 (growslice_fits (by omega) hbytes)
       rw[hr]at hr2
       simp only[Result.ok.injEq]at hr2
       obtain⟨rfl,rfl⟩:=hr2
       intro b hb
       simp only[Value.ownBlock,aa]at hb
       exact .inr (by omega)
theorem pH (r:Rel Γ st V a w) {sx:SX} {s:Src} (h:B8 st sx=some s) {u:Value} (hu:sx.R V u) :
 ∃ao c us,u = .slice ao s.l.length c∧(ao=none→s.l.length=0∧c=0)∧All2 (PR V.H) (s.l.flatMap s.t.enc) us∧∀ad,ao=some ad→∀(j:Nat) v,us[j]?=some v→w.cell? (ad.add j)=some v:=by
 unfold B8 at h
 split at h
 · rename_i j
   split at h
   · rename_i e t l hck
     simp only[aa]at h;subst h
     obtain⟨xs,h1,h2,h3⟩:=r.wok.own j _ hck
     have hu':u=V.ov j:=hu
     rcases h1.2 with⟨q1,q2⟩ |⟨g,cap,cur,q1,q2⟩
     ·exact⟨none,0,xs,by rw[hu',q1];simp only[q2],fun _=>⟨q2,rfl⟩,h2,fun ad h=>by cases h⟩
     · refine⟨some ⟨g,0,none⟩,cap,xs,by rw[hu',q1],(fun h=>by cases h),h2,fun ad had i v hv=>?_⟩
       simp only[aa]at had
       subst had
       exact h1.cells (g:=g) (by rw[q1];rfl) i v hv
   ·simp at h
 · rename_i t l
   simp only[aa]at h;subst h
   have hu':PR V.H (.lst t l) u:=hu
   cases hu' with
   |emp _ ao cap hn=>exact⟨ao,cap,[],rfl,fun h=>⟨rfl,hn h⟩,.nil,fun ad _ j v hv=>by simp at hv⟩
   | lst _ _ b off cap cells e fr hb hc hm hs hh =>
     have hw:=r.wok.imm _ _ hb
     refine⟨_,cap,(cells.toList.drop off).take (l.length * t.size),rfl,(fun h=>by cases h),All2.of (by rw[jG];simp;omega) fun k p u hp hu=>?_,fun ad had j v hv=>?_⟩
     · have hk:k<l.length * t.size:=by have:=(List.getElem?_eq_some_iff.1 hp).1;rwa[jG]at this
       have hpos:=t.size_pos
       have hq:k / t.size<l.length:=Nat.div_lt_of_lt_mul (by rw[Nat.mul_comm];exact hk)
       have hmod:k % t.size<t.size:=Nat.mod_lt _ hpos
       have hkk:k / t.size * t.size+k % t.size=k:=Nat.div_add_mod' k t.size
       have hx:=ETy.getElem?_get hq
       have hp':(t.enc (t.get l (k / t.size)))[k % t.size]?=some p:=by
        have hlt:k % t.size<(t.enc (t.get l (k / t.size))).length:=by rw[t.enc_length];exact hmod
        have:=mL hx (List.getElem?_eq_getElem hlt)
        rw[hkk,hp]at this
        rw[List.getElem?_eq_getElem hlt,this]
       refine hh _ _ hx _ _ hp' u ?_
       rw[List.getElem?_take,if_pos hk,List.getElem?_drop]at hu
       rw[gx,hkk];simpa using hu
     · simp only[aa]at had
       subst had
       rw[List.getElem?_take]at hv
       split at hv
       · rw[List.getElem?_drop]at hv
         rw[addr_add]
         simp only[World.cell?,hw]
         simpa using hv
       ·cases hv
 ·simp at h
theorem kH{x y:Operand}{t:TypeId}{dst:Option Tmp}{ty:TypeId}{pos:String}{after:Array Edge}{guard:Option (Nat×Bool)}{vx vy v':Value}{w':World}
 (ex:a.eval x=vx) (ey:a.eval y=vy) (hr:(Builtin.append_ #[t,t] ty #[vx,vy]).run P w = .ok v' w') :
 (execOp a.eval ⟨dst,.call {callee:=.builtin .append,args:=#[x,y],argTypes:=#[t,t]},ty,pos,after,guard⟩).run P w = .ok (.value v') w':=by
 simp only[execOp,resolve,Sem.run_bind,run_pure',Result.andThen_ok,invoke,builtin,dd,aq,cc,ex,ey,hr]
theorem wy{H:Mem}{ps:List PD}{us:List Value}(h:All2 (PR H) ps us):∀u∈us,u.oneCell'=true:=by
 intro u hu
 obtain⟨i,hi⟩:=List.getElem?_of_mem hu
 obtain⟨p,_,h2⟩:=h.get' hi
 exact h2.one
theorem fold_push:∀(ns:List Int) (b:List UInt8),ns.foldl (fun(r:ByteArray) n=>r.push (UInt8.ofNat n.toNat)) (bs b)=bs (b++strOf ns)
 |[],b=>by simp[strOf]
 | n::r,b=>by
   have e:(bs b).push (UInt8.ofNat n.toNat)=bs (b++[UInt8.ofNat n.toNat]):=by simp[bs,ByteArray.push]
   rw[cY,e,fold_push r,strOf];simp
theorem wU{H:Mem}:∀{l:List Int} {us:List Value},All2 (PR H) (List.flatMap (ETy.enc .byte) l) us→us=l.map (Value.int .u8)
 |[],us,h=>by cases h;rfl
 | n :: r,us,h=>by
   have e:List.flatMap (ETy.enc .byte) (n::r) = .int .u8 n::List.flatMap (ETy.enc .byte) r:=rfl
   rw[e]at h
   cases h with
   | cons h1 h2 =>
     cases h1
     rw[wU h2];rfl
set_option maxHeartbeats 400000 in
theorem xH (r:Rel Γ st V a w) {o:Oper} {p:Option Prop} {sx:SX} {ck':List Chunk} (h:opX P st o.op=some (p,sx,ck')) (hp:Holds p) :
 ∃v w' V',(execOp a.eval o).run P w = .ok (.value v) w'∧sx.R V' v∧Rel Γ {st with ck:=ck'} V' a w':=by
 obtain⟨dst,op,ty,pos,after,guard⟩:=o
 simp only at h
 unfold opX at h
 split at h
 · rename_i t x hi
   split at h
   · rename_i k e0 m hx hu hm
     split at h
     · rename_i e ty' l sz0 hck hsz0
       cases hwf:st.wf
       ·rw[hwf]at h;simp at h
       · rw [hwf]at h
         simp only[cond_true,aa,ae]at h
         obtain⟨rfl,rfl,rfl⟩:=h
         simp only[Holds]at hp
         have e1:a.eval x=V.ov k:=aI r (g:=none) trivial hx
         obtain⟨kk,e2⟩:=eM r (g:=none) trivial hm
         obtain⟨xs,hown,hrows,hblk⟩:=r.wok.own k _ hck
         have hle:m.toNat≤l.length:=by omega
         have htl:(l.take m.toNat).length=m.toNat:=by rw[bj];omega
         obtain⟨ao,cp,e3,hcap,hrow⟩:∃ao cp,V.ov k = .slice ao l.length cp∧l.length≤cp∧w.ownsRow 0 e ty'.size (.slice ao m.toNat cp) m.toNat (xs.take (m.toNat * ty'.size)):=by
          have hl:(xs.take (m.toNat * ty'.size)).length=m.toNat * ty'.size:=by
           rw[bj,hown.1];exact cZ (bQ _ hle)
          rcases hown.2 with⟨h1,h2⟩ |⟨g,cap,cur,h1,h2,h3,h4,h5,h6,h7⟩
          · have:m.toNat=0:=by omega
            exact⟨none,0,by rw[h1,h2],by omega,by rw[this]at hl ⊢;exact⟨hl,.inl ⟨rfl,rfl⟩⟩⟩
          · refine⟨some ⟨g,0,none⟩,cap,h1,h4,hl,.inr ⟨g,cap,cur,rfl,h2,h3,by omega,h5,h6,?_⟩⟩
            rw[←h7,ei,cZ (bQ _ hle)]
         have hrun:=pQ (P:=P) (w:=w) (ao:=ao) (n:=l.length) (lo:=none) (hi:=some (.int kk m)) (l:=0) (h:=m.toNat) (cp:=cp) hu hsz0 (B1 (.inl ⟨rfl,rfl⟩) (.inr ⟨kk,m,rfl,hp.1,by omega,rfl⟩))
         have hadd:(if cp=0 then ao else Option.map (fun x=>x.add (0 * sz0)) ao)=ao:=by
          split
          ·rfl
          ·cases ao <;> simp[Addr.add]
         rw[hadd]at hrun
         simp only[Nat.sub_zero]at hrun
         obtain⟨V',hag,hH,g1,g2,r'⟩:=r.grow hwf (some k) (c:=.own e ty' (l.take m.toNat)) (v':=.slice ao m.toNat cp) (s':=V.σ k) (w':=w) (row:=(V.ov k).ownBlock) (fun b hb=>⟨k,_,rfl,hck,hb⟩) (World.grownBy.refl _ _) (fun V' hag hH f1 f2=>by
          refine⟨⟨xs.take (m.toNat * ty'.size),by rw[f2,htl];exact hrow,by rw[hH,lL];exact hrows.take _,fun b hb=>?_⟩,fun b hb=>.inl ?_⟩
          ·rw[f2]at hb;rw[f1];exact hblk b (by rw[e3];cases ao with |none=>simp[Value.ownBlock]at hb |some x=>simpa[Value.ownBlock]using hb)
          ·simp only[Chunk.blk,f2]at hb;rw[e3];cases ao with |none=>simp[Value.ownBlock]at hb |some x=>simpa[Value.ownBlock]using hb)
         refine⟨_,w,V',?_,rfl,r'⟩
         rw[g2]
         simp only[execOp,e1,e2,e3,Option.map_none,bn]
         exact bg hrun
     ·simp at h
   ·simp at h
 · rename_i args ts
   split at h
   · rename_i x y t t' hargs hts
     split at h
     · rename_i hd so ty' ly e hx hy hu
       split at h
       · rename_i i hi
         split at h
         · rename_i z hz
           cases hb:(Nat.beq t t'&&st.wf&&Nat.beq ty'.size i.size&&Nat.beq z.cells.toList.length i.size)
           ·rw[hb]at h;simp at h
           · rw [hb] at h
             simp only[cond_true]at h
             simp only[af]at hb
             have q1:=aj hb.1.1.1
             have hwf:=hb.1.1.2
             have q3:=aj hb.1.2
             have q4:=aj hb.2
             have ea:args=#[x,y]:=by cases args;simp_all
             have et:ts=#[t,t']:=by cases ts;simp_all
             subst ea;subst et;subst q1
             simp only[aR]at hx hy
             obtain⟨sx,hx1,hx2⟩:=hx
             obtain⟨sy,hy1,hy2⟩:=hy
             have e1:=aI r (g:=none) trivial hx1
             obtain⟨ao,c,us,e2,hn,hrows,hcells⟩:=pH r hy2 (aI r (g:=none) trivial hy1)
             simp only at e2 hn hrows
             have hyl:us.length=ly.length * i.size:=by rw[←hrows.length,jG,q3]
             have hzz:z.cells.size=i.size:=by rw[←bD];exact q4
             have hpos:0<i.size:=by rw[←q3];exact ty'.size_pos
             split at h
             · rename_i k ek tk lk
               cases hb2:(Nat.beq ek e && !eqO so k)
               ·rw[hb2]at h;simp at h
               · rw [hb2]at h
                 simp only[cond_true]at h
                 split at h
                 · rename_i het
                   subst het
                   simp only[aa,ae]at h
                   obtain⟨rfl,rfl,rfl⟩:=h
                   simp only[af]at hb2
                   have p1:=aj hb2.1
                   subst p1
                   simp only[Holds,room]at hp
                   rw[au]at hp
                   have hck:st.ck[k]?=some (.own ek ty' lk)∧sx = .c (.own k):=by
                    unfold FJ at hx2
                    split at hx2
                    · split at hx2
                      · rename_i hck
                        simp only[aa,Head.own.injEq]at hx2
                        obtain⟨rfl,rfl,rfl,hh⟩:=hx2
                        exact⟨by rw[hck,eq_of_heq hh],rfl⟩
                      ·simp at hx2
                    ·simp at hx2
                    ·simp at hx2
                   obtain⟨hck,rfl⟩:=hck
                   obtain⟨xs,hown,hxr,hblk⟩:=r.wok.own k _ hck
                   have e1':a.eval x=V.ov k:=e1
                   obtain⟨v',w',hr,ho,hg,hv⟩:=pX (P:=P) (ty:=ty) hu hi hz rfl hzz hpos (by rw[←q3];exact hown) hyl hn hcells (wy hrows) hp.2 hp.1
                   obtain⟨V',hag,hH,g1,g2,r'⟩:=r.grow hwf (some k) (c:=.own ek ty' (lk++ly)) (v':=v') (s':=v'.ownBlock.getD 0) (fun b hb=>⟨k,_,rfl,hck,hb⟩) hg (fun V' hag hH f1 f2=>by
                    refine⟨⟨xs++us,by rw[f2,au,q3];exact ho,by rw[hH,List.flatMap_append];exact hxr.append hrows,fun b hb=>?_⟩,fun b hb=>hv b ?_⟩
                    ·rw[f2]at hb;rw[f1,hb];rfl
                    ·simpa only[Chunk.blk,f2]using hb)
                   refine⟨v',w',V',kH e1' e2 hr,g2.symm,r'⟩
                 ·simp at h
             · simp only[aa,ae]at h
               obtain⟨rfl,rfl,rfl⟩:=h
               simp only[Holds,room]at hp
               have e1':a.eval x = .slice none 0 0:=by
                unfold FJ at hx2
                split at hx2
                ·split at hx2 <;> simp at hx2
                · generalize a.eval x=u at e1 ⊢
                  cases e1;rfl
                ·simp at hx2
               obtain⟨v',w',hr,ho,hg,hv⟩:=pX (P:=P) (ty:=ty) (n:=0) (xs:=[]) hu hi hz rfl hzz hpos (World.ownsRow_nil w 0 e i.size) hyl hn hcells (wy hrows) (by rw[aY];exact hp.2) (by rw[aY];exact hp.1)
               rw[aY,cd]at ho
               obtain⟨V',hag,hH,g1,g2,r'⟩:=r.grow hwf none (c:=.own e ty' ly) (v':=v') (s':=v'.ownBlock.getD 0) (row:=none) (by simp) hg (fun V' hag hH f1 f2=>by
                refine⟨⟨us,by rw[f2,q3];exact ho,by rw[hH];exact hrows,fun b hb=>?_⟩,fun b hb=>?_⟩
                ·rw[f2]at hb;rw[f1,hb];rfl
                · have:=hv b (by simpa only[Chunk.blk,f2]using hb)
                  simpa[Value.ownBlock]using this)
               refine⟨v',w',V',kH e1' e2 hr,g2.symm,r'⟩
         ·simp at h
       ·simp at h
     ·simp at h
   ·simp at h
 · rename_i src dst' x
   split at h
   · rename_i e so l hs hd hx
     split at h
     · rename_i he
       simp only[aa,ae]at h
       obtain⟨rfl,rfl,rfl⟩:=h
       simp only[aR]at hx
       obtain⟨sx,hx1,hx2⟩:=hx
       obtain⟨ao,c,us,e2,hn,hrows,hcells⟩:=pH r hx2 (aI r (g:=none) trivial hx1)
       have hu:=wU hrows
       refine⟨.string (bs (strOf l)),w,V,?_,PR.str _,r⟩
       simp only[execOp,e2]
       refine bg ?_
       rw[run_convert_bytes_string w src dst' e _ _ _ hs he hd]
       cases ao with
       | none =>
         have hl:l=[]:=bm (hn rfl).1
         subst hl
         rfl
       | some ad =>
         have hlen:us.length=l.length:=by rw[hu,aQ]
         have hld:=run_loadCells_list (P:=P) (w:=w) ad us (hcells ad rfl)
         rw[hlen,hu]at hld
         rw[run_bytesToString w ad l.length c l hld]
         have:=fold_push l []
         rw[cd]at this
         exact congrArg (fun b=>Result.ok (Value.string b) w) this
     ·simp at h
   ·simp at h
 ·simp at h
end
end Go.Ev
