/- An executor for function bodies of the model over data, part PH: operations that make or write the call's own blocks are sound. Conditions: each operation's own, told as a proposition. -/
import Derived.Test.YtlhgnjmdopjpeaaGreatDoorPG
namespace Go.Ev
open Go.RowKit
def splice{α:Type}(xs:List α)(o:Nat)(us:List α):List α:=xs.take o++us++xs.drop (o+us.length)
theorem mg{α:Type}{xs us:List α}{o:Nat}(h:o+us.length≤xs.length):(splice xs o us).length=xs.length:=by simp[splice];omega
theorem DW{α:Type}{xs us:List α}{o m:Nat}(h:o+us.length≤m)(hm:m≤xs.length):(splice xs o us).take m=splice (xs.take m) o us:=by
 unfold splice
 have h1:(xs.take o++us).length=o+us.length:=by simp;omega
 rw[List.take_append,a8 (by rw[h1];exact h),h1,fc,dw (by omega),List.drop_take]
theorem tW{α:Type}{xs us:List α}{j sz off:Nat}(h:off+us.length≤sz)(hj:j+sz≤xs.length):splice xs (j+off) us=splice xs j (splice ((xs.drop j).take sz) off us):=by
 have hl:((xs.drop j).take sz).length=sz:=by simp;omega
 have h2:(splice ((xs.drop j).take sz) off us).length=sz:=by rw[mg (by rw[hl];exact h),hl]
 unfold splice at h2 ⊢
 rw[h2]
 have e1:xs.take (j+off)=xs.take j++((xs.drop j).take sz).take off:=by rw[fc,dw (by omega),List.take_add]
 have e2:xs.drop (j+off+us.length)=((xs.drop j).take sz).drop (off+us.length)++xs.drop (j+sz):=by
  rw[List.drop_take,List.drop_drop]
  have h3:=(dp (sz - (off+us.length)) (xs.drop (j+(off+us.length)))).symm
  rw[List.drop_drop,show j+(off+us.length)+(sz - (off+us.length))=j+sz from by omega]at h3
  rw[show j+off+us.length=j+(off+us.length)from by omega];exact h3
 rw[e1,e2];simp only[bD]
theorem All2.splice{α β:Type}{R:α→β→Prop}{l v:List α}{m u:List β}(h:All2 R l m)(h':All2 R v u)(o:Nat):All2 R (splice l o v) (splice m o u):=by
 unfold Ev.splice;rw[h'.length];exact((h.take o).append h').append (h.drop _)
theorem xY(t:ETy)(l:List t.den)(n:Nat):(l.drop n).flatMap t.enc=(l.flatMap t.enc).drop (n * t.size):=by
 induction l generalizing n with
 |nil=>simp
 | cons x l ih =>
   cases n with
   |zero=>simp
   |succ n=>rw[List.drop_succ_cons,bF,ih,show(n+1) * t.size=(t.enc x).length+n * t.size from by rw[t.enc_length,cN];omega,List.drop_length_add_append]
theorem Mc{t:ETy}{l:List t.den}{j:Nat}(h:j<l.length)(x:t.den):(l.set j x).flatMap t.enc=splice (l.flatMap t.enc) (j * t.size) (t.enc x):=by
 have e:l.set j x=l.take j++x::l.drop (j+1):=List.set_eq_take_append_cons_drop.trans (if_pos h)
 unfold splice
 rw[e,List.flatMap_append,bF,lU,xY,t.enc_length,cN,Nat.one_mul,bD]
theorem Mb{t:ETy}{l:List t.den}{j:Nat}(h:j<l.length):((l.flatMap t.enc).drop (j * t.size)).take t.size=t.enc (t.get l j):=by
 rw[←xY]
 have e:=dm h
 have e2:t.get l j=l[j]:=ETy.get_eq (by simp[h])
 rw[e,bF,e2]
 have h2:=t.enc_length l[j]
 rw[List.take_append,a8 (by omega),h2,eY,List.take_zero,aO]
section
variable{Γ:Ctx}{P:Program}{st:ST}{V:Vn}{a:Act}{w:World}{tys:Tys}
theorem Rel.grow(r:Rel Γ st V a w)(hwf:st.wf=true)(k:Option Nat){c:Chunk}{v':Value}{s':Nat}{w':World}{row:Option Nat}
 (hrow:∀b,row=some b→∃i c,k=some i∧st.ck[i]?=some c∧c.blk V i=some b) (hg:w.grownBy w' row)
 (hc:∀V',Agree st.ck.length V V'→V'.H=V.H→V'.σ st.ck.length=s'→V'.ov st.ck.length=v'→c.holds V' w' st.ck.length∧∀b,c.blk V' st.ck.length=some b→row=some b∨w.heap.size≤b) :
 ∃V',Agree st.ck.length V V'∧V'.H=V.H∧V'.σ st.ck.length=s'∧V'.ov st.ck.length=v'∧Rel Γ {st with ck:=cZ k st.ck++[c]} V' a w':=by
 have hwf2:mc st.ck=true:=by simp only[ST.wf,af]at hwf;exact hwf.2
 obtain⟨V',h1,h2,h3,h4,h5⟩:=r.wok.regrow hwf2 (aC r.few.1 r.few.2) k hrow hg hc
 exact⟨V',h1,h2,h3,h4,r.turn hwf h1 h5 (by rw[au,pT];omega)⟩
theorem Rel.setCk(r:Rel Γ st V a w){i:Nat}{c':Chunk}{w':World}(h:WOk Γ (st.ck.set i c') V w'):Rel Γ {st with ck:=st.ck.set i c'} V a w' :=
 {size:=r.size,defers:=r.defers,slots:=r.slots,wok:=h,few:=⟨r.few.1,by rw[bA];exact r.few.2⟩}
theorem wc(r:Rel Γ st V a w){t e:TypeId}{len n:Nat}{parts:Array (Nat×Operand)}{z cells:List SC}{ps:List (Nat×List SC)}(hu:P.underlying t=some (.slice e))(hn:gE P e=some n)(hz:l8 P e=some z)
 (hp:kJ st none parts.toList=some ps) (hf:mo (fun i=>some (i * n,n)) (CA z len) ps=some cells) (h1:len * n≤16777216) (h3:z.length=n) :
 ∃rs,All2 (SC.R V) cells rs∧(Instr.buildSlice t len (parts.map fun p=>(p.1,a.eval p.2))).run P w = .ok (.slice (some ⟨w.heap.size,0,none⟩) len len) (w.alloc (.cells rs.toArray e)):=by
 have hparts:All2 (pX V) ps (parts.map fun p=>(p.1,a.eval p.2)).toList:=by rw[dc];exact kK r (g:=none) trivial _ _ hp
 obtain⟨v,hv,hvz,hv1⟩:=nu (V:=V) (w:=w) hz
 obtain⟨zs,k1,k2,k3⟩:=ry hvz len
 have hzl:=hvz.length
 have hone:∀u∈zs,u.oneCell'=true:=by
  intro u hu
  obtain⟨i,hi⟩:=List.getElem?_of_mem hu
  have hi2:i<zs.length:=(List.getElem?_eq_some_iff.1 hi).1
  rw[k3 i (by omega)]at hi
  exact hv1 u (List.mem_of_getElem? hi)
 obtain⟨rs,g1,g2,g3⟩:=lr _ hparts hf k1 hone
 refine⟨rs,g2,?_⟩
 have hnot:¬(len * n>2 ^ 24):=by omega
 simp only[Instr.buildSlice,Sem.run_bind,run_underlying hu,Result.andThen_ok,fU hn,if_neg hnot,run_pure']
 by_cases h0:len * n=0
 · have hzs:zs=[]:=bE (by rw[k2,←hzl,h3];exact h0)
   subst hzs
   simp only[h0,if_true,run_pure',Result.andThen_ok,Sem.run_bind]
   have hz0:(Array.map (fun x=>(#[]:Array Value)[x % (#[]:Array Value).size]!) (Array.range 0))=#[]:=by simp[Array.range]
   rw[hz0,g1]
   rfl
 · simp only[if_neg h0,Sem.run_bind,hv,Result.andThen_ok,run_pure']
   have hza:(Array.range (len * n)).map (v.cells[· % v.cells.size]!)=zs.toArray:=by
    apply dQ.1
    apply List.ext_getElem?
    intro i
    simp only[dc,List.getElem?_map,Array.toList_range]
    have hvs:v.cells.toList.length=v.cells.size:=cl
    by_cases hi:i<len * n
    · rw[List.getElem?_range hi,k3 i (by rw[←hzl,h3];exact hi),hvs]
      simp only[bu]
      have hpos2:0<v.cells.size:=by rw[←hvs,←hzl,h3];exact Nat.pos_of_ne_zero fun e=>h0 (by rw[e,Nat.mul_zero])
      have hm:i % v.cells.size<v.cells.size:=Nat.mod_lt _ hpos2
      rw[getElem!_pos v.cells _ hm]
      simp[hm]
    · rw[List.getElem?_eq_none (by simpa using Nat.le_of_not_lt hi),List.getElem?_eq_none (by rw[k2,←hzl,h3];exact Nat.le_of_not_lt hi)]
      rfl
   rw[hza,g1]
   rfl
theorem we(r:Rel Γ st V a w){t:TypeId}{len:Nat}{parts:Array (Nat×Operand)}{sx:SX}{ck':List Chunk}(h:opM P tys st (.buildSlice t len parts)=some (sx,ck')) :
 ∃e ty l rs,sx = .c (.own st.ck.length)∧ck'=st.ck++[.own e ty l]∧st.wf=true∧All2 (PR V.H) (l.flatMap ty.enc) rs∧rs.length=l.length * ty.size∧l.length≤maxLen ∧
  (Instr.buildSlice t len (parts.map fun p=>(p.1,a.eval p.2))).run P w = .ok (.slice (some ⟨w.heap.size,0,none⟩) l.length l.length) (w.alloc (.cells rs.toArray e)):=by
 simp only[opM]at h
 split at h
 · rename_i e hu
   split at h
   · rename_i n z ps ty' hn hz hp hty
     split at h
     · rename_i l hf
       simp only[bm]at hf
       obtain⟨cells,hf,hdec⟩:=hf
       cases hwf:(st.wf&&Nat.ble (len * n) 16777216&&Nat.beq n ty'.size&&Nat.beq z.length n&&Nat.beq l.length len)
       ·rw[hwf]at h;simp at h
       · rw [hwf]at h
         simp only[cond_true,aa,ae]at h
         obtain⟨rfl,rfl⟩:=h
         simp only[af]at hwf
         have h1:=aB hwf.1.1.1.2
         have h2:=ak hwf.1.1.2
         have h3:=ak hwf.1.2
         have h4:=ak hwf.2
         have hpos:=ty'.size_pos
         have hparts:All2 (pX V) ps (parts.map fun p=>(p.1,a.eval p.2)).toList:=by rw[dc];exact kK r (g:=none) trivial _ _ hp
         obtain⟨v,hv,hvz,hv1⟩:=nu (V:=V) (w:=w) hz
         obtain⟨zs,k1,k2,k3⟩:=ry hvz len
         have hzl:=hvz.length
         have hone:∀u∈zs,u.oneCell'=true:=by
          intro u hu
          obtain⟨i,hi⟩:=List.getElem?_of_mem hu
          have hi2:i<zs.length:=(List.getElem?_eq_some_iff.1 hi).1
          rw[k3 i (by omega)]at hi
          exact hv1 u (List.mem_of_getElem? hi)
         obtain⟨rs,g1,g2,g3⟩:=lr _ hparts hf k1 hone
         have hrows:=pR hdec g2
         have hrl:rs.length=len * n:=by
          have:=hrows.length
          rw[lz,h4,←h2]at this;exact this.symm
         refine⟨e,ty',l,rs,rfl,rfl,hwf.1.1.1.1,hrows,by rw[hrl,h4,h2],?_,?_⟩
         · have:len≤len * n:=Nat.le_mul_of_pos_right _ (by omega)
           unfold maxLen;omega
         · have hnot:¬(len * n>2 ^ 24):=by omega
           simp only[Instr.buildSlice,Sem.run_bind,run_underlying hu,Result.andThen_ok,fU hn,if_neg hnot,run_pure']
           rw[h4]
           by_cases h0:len * n=0
           · have hzs:zs=[]:=bE (by rw[k2,←hzl,h3];exact h0)
             subst hzs
             simp only[h0,if_true,run_pure',Result.andThen_ok,Sem.run_bind]
             have hz0:(Array.map (fun x=>(#[]:Array Value)[x % (#[]:Array Value).size]!) (Array.range 0))=#[]:=by simp[Array.range]
             rw[hz0,g1]
             rfl
           · simp only[if_neg h0,Sem.run_bind,hv,Result.andThen_ok,run_pure']
             have hza:(Array.range (len * n)).map (v.cells[· % v.cells.size]!)=zs.toArray:=by
              apply dQ.1
              apply List.ext_getElem?
              intro i
              simp only[dc,List.getElem?_map,Array.toList_range]
              have hvs:v.cells.toList.length=v.cells.size:=cl
              by_cases hi:i<len * n
              · rw[List.getElem?_range hi,k3 i (by rw[←hzl,h3];exact hi),hvs]
                simp only[bu]
                have hpos2:0<v.cells.size:=by rw[←hvs,←hzl,h3];omega
                have hm:i % v.cells.size<v.cells.size:=Nat.mod_lt _ hpos2
                rw[getElem!_pos v.cells _ hm]
                simp[hm]
              · rw[List.getElem?_eq_none (by simpa using Nat.le_of_not_lt hi),List.getElem?_eq_none (by rw[k2,←hzl,h3];omega)]
                rfl
             rw[hza,g1]
             rfl
     ·simp at h
   ·simp at h
 ·simp at h
theorem yg (r:Rel Γ st V a w) {o:Oper} {sx:SX} {ck':List Chunk} (h:opM P tys st o.op=some (sx,ck')) :
 ∃v w' V',(execOp a.eval o).run P w = .ok (.value v) w'∧sx.R V' v∧Rel Γ {st with ck:=ck'} V' a w':=by
 obtain⟨dst,op,ty,pos,after,guard⟩:=o
 simp only at h
 cases op <;> first |(simp[opM]at h;done) |skip
 case alloc e =>
  simp only[opM]at h
  split at h
  · rename_i z hz
    cases hwf:st.wf
    ·rw[hwf]at h;simp at h
    · rw [hwf]at h
      simp only[cond_true,aa,ae]at h
      obtain⟨rfl,rfl⟩:=h
      obtain⟨v,hv,hvz,_⟩:=nu (V:=V) (w:=w) hz
      have hzlt:z.all (SC.lt st.ck.length)=true:=by
       unfold l8 at hz
       simp only[bm]at hz
       obtain⟨i,_,v',_,hz⟩:=hz
       cases hb:v'.cells.toList.all fun v=>v.oneCell'
       ·rw[hb]at hz;simp at hz
       · rw[hb]at hz
         simp only[cond_true,aa]at hz
         subst hz
         simp[SC.lt]
      obtain⟨V',hag,_,e1,e2,r'⟩:=r.grow hwf none (c:=.cells z e) (v':=undef) (s':=w.heap.size) (row:=none) (by simp) (gX w (.cells v.cells e)) (fun V' hag _ h1 _=>by
       refine⟨⟨v.cells.toList,?_,lZ hag hzlt hvz⟩,fun b hb=>.inr ?_⟩
       ·rw[h1,heap_alloc_new]
       ·simp only[Chunk.blk,h1,aa]at hb;omega)
      refine⟨.pointer (some ⟨w.heap.size,0,none⟩),_,V',?_,by show _=_;rw[e1],r'⟩
      simp only[execOp]
      refine bo ?_
      simp only[Instr.alloc,Sem.run_bind,hv,Result.andThen_ok]
      rfl
  ·simp at h
 case makeMap t res =>
  cases res with
  |some _=>simp[opM]at h
  | none =>
    simp only[opM]at h
    split at h
    case h_2=>simp at h
    split at h
    case h_2=>simp at h
    cases hwf:st.wf
    ·rw[hwf]at h;simp at h
    · rw[hwf]at h
      simp only[cond_true,aa,ae]at h
      obtain⟨rfl,rfl⟩:=h
      obtain⟨V',hag,_,e1,e2,r'⟩:=r.grow hwf none (c:=.obj (.set [] 0)) (v':=.map (some w.heap.size)) (s':=w.heap.size) (row:=none) (by simp) (gX w (.map #[] 0)) (fun V' hag _ h1 h2=>by
       refine⟨⟨by rw[h1,heap_alloc_new];rfl,by rw[h1,h2]⟩,fun b hb=>.inr ?_⟩
       simp only[Chunk.blk,h1,aa]at hb;omega)
      refine⟨.map (some w.heap.size),_,V',?_,by show _=_;rw[e2],r'⟩
      simp only[execOp]
      refine bo ?_
      simp[Instr.makeMap,Result.andThen]
 case range t x =>
  simp only[opM]at h
  split at h
  · rename_i j kt et hx ht
    split at h
    · rename_i es clk hck
      cases hwf:(st.wf&&Nat.blt j st.ck.length)
      ·rw[hwf]at h;simp at h
      · rw[hwf]at h
        simp only[cond_true,aa,ae]at h
        obtain⟨rfl,rfl⟩:=h
        simp only[af]at hwf
        have hjl:j<st.ck.length:=aB hwf.2
        have e3:a.eval x=V.ov j:=aJ r (g:=none) trivial hx
        obtain⟨g1,g2⟩:=r.wok.own j _ hck
        obtain⟨V',hag,_,e1,e2,r'⟩:=r.grow hwf.1 none (c:=.obj (.it j [] clk)) (v':=.map (some w.heap.size)) (s':=w.heap.size) (row:=none) (by simp) (gX w (.mapIter (some (V.σ j)) clk #[] clk)) (fun V' hag _ h1 h2=>by
         refine⟨⟨?_,by rw[h1,h2]⟩,fun b hb=>.inr ?_⟩
         ·rw[h1,heap_alloc_new];show _=some (Obj.mapIter (some (V'.σ j)) clk #[] clk);rw[(hag.same j hjl).1]
         ·simp only[Chunk.blk,h1,aa]at hb;omega)
        refine⟨.pointer (some ⟨w.heap.size,0,none⟩),_,V',?_,by show _=_;rw[e1],r'⟩
        simp only[execOp,e3,g2]
        exact bo (run_range_map w t kt et (V.σ j) _ clk ht g1)
    ·simp at h
  ·simp at h
 case box e x =>
  simp only[opM]at h
  split at h
  · rename_i sv' n hx hn
    split at h
    · rename_i cs hcs
      cases hwf:(Nat.beq cs.length n&&st.wf&&cs.all (SC.lt st.ck.length))
      ·rw[hwf]at h;simp at h
      · rw[hwf]at h
        simp only[cond_true,aa,ae]at h
        obtain⟨rfl,rfl⟩:=h
        simp only[af]at hwf
        obtain⟨h1,_⟩:=kz r.wok hcs (aJ r (g:=none) trivial hx)
        obtain⟨V',hag,_,e1,e2,r'⟩:=r.grow hwf.1.2 none (c:=.cells cs e) (v':=undef) (s':=w.heap.size) (row:=none) (by simp) (gX w (.cells (a.eval x).cells e)) (fun V' hag _ g1 _=>by
         refine⟨⟨(a.eval x).cells.toList,?_,lZ hag hwf.2 h1⟩,fun b hb=>.inr ?_⟩
         ·rw[g1,heap_alloc_new]
         ·simp only[Chunk.blk,g1,aa]at hb;omega)
        refine⟨.pointer (some ⟨w.heap.size,0,none⟩),_,V',?_,by show _=_;rw[e1],r'⟩
        simp only[execOp]
        exact bo rfl
    ·simp at h
  ·simp at h
 case buildSlice t len parts =>
  obtain⟨e,ty',l,rs,rfl,rfl,hwf,hrows,hrl,hmx,hrun⟩:=we r h
  obtain⟨V',hag,hH,e1,e2,r'⟩:=r.grow hwf none (c:=.own e ty' l) (v':=.slice (some ⟨w.heap.size,0,none⟩) l.length l.length) (s':=w.heap.size) (row:=none) (by simp) (gX w (.cells rs.toArray e)) (fun V' hag hH f1 f2=>by
   refine⟨⟨rs,⟨hrl,.inr ⟨w.heap.size,l.length,rs.toArray,f2,aS _,heap_alloc_new w _,av _,hmx,by simpa using hrl,?_⟩⟩,by rw[hH];exact hrows,fun b hb=>?_⟩,fun b hb=>.inr ?_⟩
   ·rw[a8 (by simp[hrl])]
   ·rw[f2]at hb;simp only[Value.ownBlock,aa]at hb;rw[f1,hb]
   ·simp only[Chunk.blk,f2,Value.ownBlock,aa]at hb;omega)
  refine⟨_,_,V',?_,rfl,r'⟩
  simp only[execOp]
  rw[e2]
  exact bo hrun
theorem pI(n:Int):∀(es:List (Int×Nat)) (i j:Nat),jF n es i=some j→i≤j∧∃b,es[j - i]?=some (n,b)
 |[],_,_,h=>by cases h
 | e :: es,i,j,h=>by
   rw[jF]at h
   cases hb:n==e.1
   · rw[hb]at h
     obtain⟨h1,b,h2⟩:=pI n es (i+1) j h
     refine⟨by omega,b,?_⟩
     rw[show j - i=(j - (i+1))+1 by omega,List.getElem?_cons_succ];exact h2
   · rw[hb]at h
     simp only[cond_true,aa]at h
     subst h
     exact⟨av _,e.2,by rw[eY,List.getElem?_cons_zero,eq_of_beq hb]⟩
theorem xe{t kt et:TypeId}{kk:IntKind}(ht:P.underlying t=some (.map kt et))(hk:P.underlying kt=some (.int kk)){b clk:Nat}{es:List (Int×Nat)}(hb:w.heap[b]?=some (.map (es.map fg).toArray clk))(n:Int) :
 ∃w',(Instr.mapUpdate t (.map (some b)) (.int .i64 n) (.bool true)).run P w = .ok () w'∧w'.os=w.os∧w'.tape=w.tape∧w'.output=w.output∧w'.heap.size=w.heap.size ∧
  w'.heap[b]?=some (.map ((jD es clk n).map fg).toArray (ky es clk n))∧∀k,k≠b→w'.heap[k]?=w.heap[k]?:=by
 have hlt:b<w.heap.size:=(Array.getElem?_eq_some_iff.1 hb).1
 have hg:(getObj b).run P w = .ok (.map (es.map fg).toArray clk) w:=by simp[getObj,Sem.run,hb]
 have hset:∀es' clk',(setObj b (.map es' clk')).run P w = .ok () (Go.ChangeMaps.setBlock w b (.map es' clk')):=fun es' clk'=>by simp[setObj,Sem.run,hb,Go.ChangeMaps.setBlock]
 have hres:∀o:Obj,(Go.ChangeMaps.setBlock w b o).heap[b]?=some o∧(Go.ChangeMaps.setBlock w b o).heap.size=w.heap.size∧∀k,k≠b→(Go.ChangeMaps.setBlock w b o).heap[k]?=w.heap[k]?:=fun o =>
  ⟨by simp[Go.ChangeMaps.setBlock,hlt],by simp[Go.ChangeMaps.setBlock],fun k hk=>by simp only[Go.ChangeMaps.setBlock];exact Array.getElem?_setIfInBounds_ne (Ne.symm hk)⟩
 have hrun:(Instr.mapUpdate t (.map (some b)) (.int .i64 n) (.bool true)).run P w = .ok () (Go.ChangeMaps.setBlock w b (.map ((jD es clk n).map fg).toArray (ky es clk n))):=by
  simp only[Instr.mapUpdate,Sem.run_bind,run_underlying ht,Result.andThen_ok,hg,j6 hk]
  simp only[List.toList_toArray,kQ hk,Result.andThen_ok]
  have hh:=tQ n es 0
  unfold jD ky
  cases hp:jF n es 0 with
  | none =>
    rw[hp]at hh
    rw[←hh]
    simp only[Option.map_none,Result.andThen_ok,Option.isSome_none,cond_false]
    rw[hset]
    simp[fg]
  | some j =>
    rw[hp]at hh
    rw[←hh]
    obtain⟨_,b1,h2⟩:=pI n es 0 j hp
    have hkey:((((es.map fg).toArray)[j]?).map (·.key)).getD (Value.int .i64 n) = .int .i64 n:=by
     simp only[List.getElem?_toArray,List.getElem?_map]
     rw[show j=j - 0 by omega,h2];rfl
    have hsame:(Instr.keyThatStays (.int .i64 n) (.int .i64 n)).run P w = .ok (.int .i64 n) w:=by
     unfold Instr.keyThatStays
     rw[if_pos (by simp[Instr.sameBits])];rfl
    simp only[bu,Result.andThen_ok,Option.isSome_some,cond_true,Sem.run_bind,hkey,hsame,hset]
    congr 2
    congr 1
    refine Array.ext_getElem? fun k=>?_
    rw[Array.getElem?_modify]
    split
    · rename_i e
      subst e
      simp only[List.getElem?_toArray,List.getElem?_map]
      rw[show j=j - 0 by omega,h2];rfl
    ·rfl
 exact⟨_,hrun,rfl,rfl,rfl,(hres _).2.1,(hres _).1,(hres _).2.2⟩
theorem yh(r:Rel Γ st V a w){o:Oper}{p:Option Prop}{ck':List Chunk}(h:opS P st o.op=some (p,ck'))(hp:Holds p) :
 ∃w',(execOp a.eval o).run P w = .ok .skip w'∧Rel Γ {st with ck:=ck'} V a w':=by
 obtain⟨dst,op,ty,pos,after,guard⟩:=o
 simp only at h
 cases op <;> first |(simp[opS]at h;done) |skip
 rotate_left
 · rename_i t m k v
   simp only[opS]at h
   split at h
   · rename_i j n kt et hm hk hv ht
     split at h
     · rename_i es clk kk hck hku
       simp only[aa,ae]at h
       obtain⟨rfl,rfl⟩:=h
       have e1:a.eval m=V.ov j:=aJ r (g:=none) trivial hm
       have e2:=aJ r (g:=none) trivial hk
       have e3:=aJ r (g:=none) trivial hv
       obtain⟨h1,h2⟩:=r.wok.own j _ hck
       obtain⟨w',hrun,q1,q2,q3,q4,q5,q6⟩:=xe (P:=P) ht hku h1 n
       refine⟨w',?_,r.setCk (r.wok.rewrite hck _ ⟨q1,q2,q3,q4⟩ (fun b hb=>q6 b fun e=>hb (by rw[e];rfl)) rfl ⟨q5,h2⟩)⟩
       simp only[execOp,e1,h2]
       generalize a.eval k=u at e2 ⊢
       generalize a.eval v=u2 at e3 ⊢
       cases e2;cases e3
       simp only[Sem.run_bind,hrun,Result.andThen_ok]
       rfl
     ·simp at h
   ·simp at h
 rename_i t ad x
 have fin:∀{b off n:Nat} {arr:Array Value} {e:TypeId} {us:List Value} (ha:a.eval ad = .pointer (some ⟨b,off,none⟩)) (hn:gE P t=some n) (hw:w.heap[b]?=some (.cells arr e (0,0))) (hu:us=(a.eval x).cells.toList) (h1:∀v∈us,v.oneCell'=true) (hl:us.length=n) (hfit:off+n≤arr.size),
  (execOp a.eval ⟨dst,.store t ad x,ty,pos,after,guard⟩).run P w = .ok .skip (w.setRow b (splice arr.toList off us).toArray):=by
  intro b off n arr e us ha hn hw hu h1 hl hfit
  have hst:=run_storeCells_at (P:=P) b off e us 0 arr w hw (by omega) h1
  have hsz:(a.eval x).cells.size=n:=by rw[←cl,←hu,hl]
  have hrun:(Instr.storeAt t (.pointer (some ⟨b,off,none⟩)) (a.eval x)).run P w = .ok () (w.setRow b (splice arr.toList off us).toArray):=by
   simp only[Instr.storeAt,Instr.sureAddr,Sem.run_bind,run_pure',Result.andThen_ok,storeVar,fU hn,hsz,ne_eq,not_true_eq_false,if_false]
   rw[←hu,hst];simp only[cF];rfl
  simp only[execOp,ha,Sem.run_bind,hrun,Result.andThen_ok]
  rfl
 have hoth:∀(b:Nat) (arr:Array Value),(w.setRow b arr).os=w.os∧(w.setRow b arr).tape=w.tape∧(w.setRow b arr).output=w.output∧(w.setRow b arr).heap.size=w.heap.size:=fun b arr=>⟨rfl,rfl,rfl,by simp[World.setRow]⟩
 simp only[opS]at h
 split at h
 · rename_i i off vs n ha hx hn
   simp only[bm]at hx
   obtain⟨sx,hx1,hx2⟩:=hx
   obtain⟨hu,h1⟩:=kz r.wok hx2 (aJ r (g:=none) trivial hx1)
   split at h
   · rename_i cs e hck
     cases hb:(Nat.beq vs.length n&&Nat.ble (off+n) cs.length)
     ·rw[hb]at h;simp at h
     · rw[hb]at h
       simp only[cond_true,aa,ae]at h
       obtain⟨rfl,rfl⟩:=h
       simp only[af]at hb
       have q1:=ak hb.1
       have q2:=aB hb.2
       obtain⟨us,g1,g2⟩:=r.wok.own i _ hck
       have hul:=hu.length
       have hcl:=g2.length
       have e1:a.eval ad = .pointer (some ⟨V.σ i,off,none⟩):=aJ r (g:=none) trivial ha
       refine⟨_,fin e1 hn g1 rfl h1 (by omega) (by simp;omega),r.setCk (r.wok.rewrite hck _ (hoth _ _) (fun b hb=>setRow_other w _ b _ (fun he=>hb (by rw[he];rfl))) rfl ?_)⟩
       have:cs.take off++vs++cs.drop (off+n)=splice cs off vs:=by unfold splice;rw[q1]
       rw[this]
       exact⟨_,setRow_heap w (V.σ i) _ _ e (0,0) g1,g2.splice hu off⟩
   ·simp at h
 · rename_i i j sz off vs n ha hx hn
   simp only[bm]at hx
   obtain⟨sx,hx1,hx2⟩:=hx
   obtain⟨hu,h1⟩:=kz r.wok hx2 (aJ r (g:=none) trivial hx1)
   split at h
   · rename_i e ty' l hck
     split at h
     · rename_i x' hdec
       simp only[bm]at hdec
       obtain⟨pds,hpd,hdec⟩:=hdec
       cases hb:(Nat.beq vs.length n&&Nat.ble (off+n) ty'.size&&Nat.beq sz ty'.size)
       ·rw[hb]at h;simp at h
       · rw [hb]at h
         simp only[cond_true,aa,ae]at h
         obtain⟨rfl,rfl⟩:=h
         simp only[Holds]at hp
         simp only[af]at hb
         have q1:=ak hb.1.1
         have q2:=aB hb.1.2
         have q3:=ak hb.2
         obtain⟨xs,k1,k2,k3⟩:=r.wok.own i _ hck
         have hul:=hu.length
         have hsp:=ty'.size_pos
         rcases k1.2 with⟨_,h4⟩ |⟨g,cap,cur,m1,m2,m3,m4,m5,m6,m7⟩
         ·omega
         · have hs:V.σ i=g:=k3 g (by rw[m1];rfl)
           have e1:a.eval ad = .pointer (some ⟨g,j * ty'.size+off,none⟩):=by rw[←hs,←q3];exact aJ r (g:=none) trivial ha
           have hjl:j * ty'.size+ty'.size≤l.length * ty'.size:=by rw[←Nat.succ_mul];exact bQ _ hp
           have hcap:l.length * ty'.size≤cap * ty'.size:=bQ _ m4
           refine⟨_,fin e1 hn m3 rfl h1 (by omega) (by rw[m6];omega),r.setCk (r.wok.rewrite hck _ (hoth _ _) (fun b hb=>setRow_other w _ b _ (fun he=>hb (by rw[he];simp[Chunk.blk,m1,Value.ownBlock]))) rfl ?_)⟩
           have hcl:cur.toList.length=cap * ty'.size:=by rw[cl];exact m6
           have hlen:(splice cur.toList (j * ty'.size+off) (a.eval x).cells.toList).length=cur.toList.length:=mg (by omega)
           have hrow:((xs.drop (j * ty'.size)).take ty'.size).length=ty'.size:=by simp[k1.1];omega
           have e5:(splice cur.toList (j * ty'.size+off) (a.eval x).cells.toList).take (l.length * ty'.size)=splice xs (j * ty'.size+off) (a.eval x).cells.toList:=by
            rw[DW (by omega) (by omega),m7]
           refine⟨splice xs (j * ty'.size+off) (a.eval x).cells.toList,⟨?_,.inr ⟨g,cap,_,by rw[bA];exact m1,aS _,setRow_heap w g _ _ e (0,0) m3,by rw[bA];exact m4,m5,by simpa using hlen.trans hcl,by rw[bA];simpa using e5⟩⟩,?_,k3⟩
           ·rw[mg (by rw[k1.1];omega),bA];exact k1.1
           · rw[tW (sz:=ty'.size) (by omega) (by rw[k1.1];exact hjl),Mc hp]
             refine k2.splice (ETy.dec_PR hdec (kL hpd ?_)) _
             have e6:((ty'.enc (ty'.get l j)).map SC.pd).take off++vs++((ty'.enc (ty'.get l j)).map SC.pd).drop (off+n)=splice ((ty'.enc (ty'.get l j)).map SC.pd) off vs:=by unfold splice;rw[q1]
             rw[e6]
             refine All2.splice ?_ hu off
             rw[All2.map_left,←Mb hp]
             exact(k2.drop _).take _
     ·simp at h
   ·simp at h
 ·simp at h
end
end Go.Ev
