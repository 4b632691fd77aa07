/- An executor for function bodies of the model over data, part PE: the computing operations are sound. Conditions: each operation's own, told as a proposition. -/
import Derived.Test.YtlhgnjmdopjpeaaGreatDoorPD
namespace Go.Ev
open Go.RowKit
section
variable{Γ:Ctx}{P:Program}{st:ST}{V:Vn}{a:Act}{w:World}
theorem Qa(r:Rel Γ st V a w){i:Nat}{e:TypeId}{t:ETy}{l:List t.den}(h:st.ck[i]?=some (.own e t l)):∃ad c,V.ov i = .slice ad l.length c:=by
 obtain⟨xs,h1,_,_⟩:=r.wok.own i _ h
 obtain⟨ad,c,h2,_⟩:=Cf h1
 exact⟨ad,c,h2⟩
set_option maxHeartbeats 1000000 in
theorem xT{H:Mem}{t:TypeId}{p q:PD}{u v:Value}{b:Bool}(h:eqP P t p q=some b)(hp:PR H p u)(hq:PR H q v)(d:Nat):(Op.equalIn (d+1) t u v).run P w = .ok b w:=by
 unfold eqP at h
 split at h
 · rename_i kt k a k' c hu
   cases hb:(k==k')
   ·rw[hb]at h;simp at h
   · rw[hb]at h
     simp only[beq_iff_eq]at hb
     subst hb
     simp only[cond_true,aa]at h
     subst h
     cases hp;cases hq
     exact run_equalIn_int w d t k kt a c hu
 · rename_i x y hu
   simp only[aa]at h
   subst h
   cases hp;cases hq
   rw[run_equalIn_string w d t _ _ hu,ByteArray.toList_eq,ByteArray.toList_eq,gO,gO]
 · rename_i x y hu
   simp only[aa]at h
   subst h
   cases hp;cases hq
   exact run_equalIn_bool' w d t x y hu
 ·simp at h
theorem sO{cs ds:List SC}{us vs:List Value}(h1:All2 (SC.R V) cs us)(h2:All2 (SC.R V) ds vs)(d:Nat):∀(fs:List Field) (b:Bool),r9 P cs ds fs=some b→(Op.eqFields (d+1) us.toArray vs.toArray fs).run P w = .ok b w
 |[],b,h=>by simp only[r9,aa]at h;subst h;rfl
 | f :: fs, b,h=>by
   simp only[r9]at h
   cases hn:(f.name != "_")
   ·rw[hn]at h;simp at h
   · rw [hn]at h
     simp only[cond_true]at h
     have hn':f.name≠"_":=by simpa using hn
     split at h
     · rename_i p q hp hq
       split at h
       · rename_i b1 r1 hb hr
         simp only[aa]at h
         obtain⟨u,g1,g2⟩:=ld (P:=P) (w:=w) h1 hp
         obtain⟨v,g3,g4⟩:=ld (P:=P) (w:=w) h2 hq
         have g5:=xT (w:=w) hb g2 g4 d
         have ih:=sO h1 h2 d fs r1 hr
         simp only[Op.eqFields,hn',ne_eq,not_false_eq_true,if_true,Sem.run_bind,g1,g3,g5,Result.andThen_ok]
         cases b1
         · have hbf:b=false:=by rw[←h];split <;> rfl
           rw[hbf];rfl
         · have hbr:b=r1:=by
            rw[←h]
            split
            ·simp only[r9,aa]at hr;exact hr
            ·rfl
           rw[hbr]
           exact ih
       ·simp at h
     ·simp at h
theorem Gl{t:TypeId}{x y:SX}{u v:Value}{b:Bool}(h:L7 P t x y=some b)(hx:x.R V u)(hy:y.R V v)(d:Nat):(Op.equalIn (d+2) t u v).run P w = .ok b w:=by
 unfold L7 at h
 split at h
 ·exact xT h hx hy (d+1)
 · rename_i cs ds
   split at h
   · rename_i gs hu
     cases hb:(!P.stoodInHeld t)
     ·rw[hb]at h;simp at h
     · rw[hb]at h
       simp only[cond_true]at h
       simp only[aK]at hb
       have hf:P.fieldsOf t=gs:=by unfold Program.fieldsOf;rw[hu]
       obtain⟨us,rfl,h1⟩:=hx
       obtain⟨vs,rfl,h2⟩:=hy
       rw[run_equalIn_struct w (d+1) t us.toArray vs.toArray (by rw[hf];exact hu) hb,hf]
       exact sO h1 h2 d gs.toList b h
   ·simp at h
 ·simp at h
theorem vl{cs ds:List SC}{us vs:List Value}(h1:All2 (SC.R V) cs us)(h2:All2 (SC.R V) ds vs)(d:Nat):∀(fs:List Field) (b:Bool),wB P cs ds fs=some b→(Op.eqFields (d+2) us.toArray vs.toArray fs).run P w = .ok b w
 |[],b,h=>by simp only[wB,aa]at h;subst h;rfl
 | f :: fs, b,h=>by
   simp only[wB]at h
   cases hn:(f.name != "_")
   ·rw[hn]at h;simp at h
   · rw [hn]at h
     simp only[cond_true]at h
     have hn':f.name≠"_":=by simpa using hn
     split at h
     · rename_i p q hp hq
       split at h
       · rename_i b1 r1 hb hr
         simp only[aa]at h
         obtain⟨u,g1,g2⟩:=ld (P:=P) (w:=w) h1 hp
         obtain⟨v,g3,g4⟩:=ld (P:=P) (w:=w) h2 hq
         have g5:=Gl (w:=w) hb g2 g4 d
         have ih:=vl h1 h2 d fs r1 hr
         simp only[Op.eqFields,hn',ne_eq,not_false_eq_true,if_true,Sem.run_bind,g1,g3,g5,Result.andThen_ok]
         cases b1
         · have hbf:b=false:=by rw[←h];split <;> rfl
           rw[hbf];rfl
         · have hbr:b=r1:=by
            rw[←h]
            split
            ·simp only[wB,aa]at hr;exact hr
            ·rfl
           rw[hbr]
           exact ih
       ·simp at h
     ·simp at h
theorem sN{t:TypeId}{cs ds:List SC}{us vs:List Value}{b:Bool}(h:Az P t cs ds=some b)(h1:All2 (SC.R V) cs us)(h2:All2 (SC.R V) ds vs) :
 P.eqGuardType P.depth t=false∧(Op.equalIn 10000 t (.agg us.toArray) (.agg vs.toArray)).run P w = .ok b w:=by
 unfold Az at h
 split at h
 · rename_i fs hu
   cases hb:(!P.stoodInHeld t && !P.eqGuardType P.depth t)
   ·rw[hb]at h;simp at h
   · rw[hb]at h
     simp only[cond_true]at h
     simp only[af,aK]at hb
     have hf:P.fieldsOf t=fs:=by unfold Program.fieldsOf;rw[hu]
     refine⟨hb.2,?_⟩
     rw[run_equalIn_struct w 9999 t us.toArray vs.toArray (by rw[hf];exact hu) hb.1,hf]
     exact vl h1 h2 9997 fs.toList b h
 ·simp at h
def fg(e:Int×Nat):MapEntry:={key:=.int .i64 e.1,val:=.bool true,born:=e.2}
theorem sS(kk:IntKind)(n:Int):∀(es:List (Int×Nat)) (i:Nat),Instr.findNow (.int kk) (.int .i64 n) (es.map fg) i=some ((jF n es i).map fun j=>(j,.bool true))
 |[],_=>rfl
 | e::es,i=>by
   have h:Instr.sameNow (.int kk) (.int .i64 n) (fg e).key=some (n==e.1):=by simp[Instr.sameNow,fg]
   simp only[aq,Instr.findNow,h,jF]
   cases n==e.1
   ·exact sS kk n es (i+1)
   ·rfl
theorem tQ(n:Int):∀(es:List (Int×Nat)) (i:Nat),(jF n es i).isSome=ji es n
 |[],_=>rfl
 | e::es,i=>by
   have ih:=tQ n es (i+1)
   unfold ji at ih ⊢
   rw[jF,cr]
   cases n==e.1
   ·exact ih
   ·rfl
theorem kQ{kt:TypeId}{kk:IntKind}(hk:P.underlying kt=some (.int kk))(n:Int)(es:List (Int×Nat)):(Instr.findKey kt (.int .i64 n) (es.map fg)).run P w = .ok ((jF n es 0).map fun j=>(j,.bool true)) w:=by
 simp only[Instr.findKey,Sem.run_bind,run_underlying hk,Result.andThen_ok,sS]
 rfl
theorem j6{kt:TypeId}{kk:IntKind}(hk:P.underlying kt=some (.int kk))(b:Bool)(n:Int):(Instr.checkKey b 10000 kt (.int .i64 n)).run P w = .ok () w:=by
 rw[show(10000:Nat)=9999+1 from rfl,Instr.checkKey]
 simp only[Sem.run_bind,run_underlying hk,Result.andThen_ok]
 rfl
theorem xc{t kt et:TypeId}{kk:IntKind}{inf:TypeInfo}(ht:P.underlying t=some (.map kt et))(hk:P.underlying kt=some (.int kk))(hi:P.info? et=some inf)(hz:inf.zero=some (.bool false)){b clk:Nat}{es:List (Int×Nat)}(hb:w.heap[b]?=some (.map (es.map fg).toArray clk))(n:Int) :
 (Instr.lookup t (.map (some b)) (.int .i64 n) false).run P w = .ok (.bool (ji es n)) w:=by
 have hg:(getObj b).run P w = .ok (.map (es.map fg).toArray clk) w:=by simp[getObj,Sem.run,hb]
 have hz':(zeroValue et).run P w = .ok (.bool false) w:=by simp[zeroValue,typeInfo,hi,hz,go_sem]
 simp only[Instr.lookup,Sem.run_bind,run_underlying ht,Result.andThen_ok,hg,j6 hk]
 simp only[run_pure',Result.andThen_ok,List.toList_toArray,kQ hk]
 rw[←tQ n es 0]
 cases jF n es 0 with
 | none =>
   simp only[Option.map_none,Result.andThen_ok,Sem.run_bind,hz']
   rfl
 |some j=>rfl
theorem J3 (r:Rel Γ st V a w) {g:Option (Nat×Bool)} (hg:fN a g)
 {o:Oper} {p:Option Prop} {sx:SX} (h:opV P st g o.op=some (p,sx)) (hp:Holds p):∃v,(execOp a.eval o).run P w = .ok (.value v) w∧sx.R V v:=by
 obtain⟨dst,op,ty,pos,after,guard⟩:=o
 simp only at h
 cases op with
 | move x =>
   simp only[opV,aj,ae]at h
   obtain⟨sv',he,rfl,rfl⟩:=h
   exact⟨_,rfl,aJ r hg he⟩
 | assign x =>
   simp only[opV,aj,ae]at h
   obtain⟨sv',he,rfl,rfl⟩:=h
   exact⟨_,rfl,aJ r hg he⟩
 | lookup t x i ok =>
   cases ok with
   |true=>simp[opV]at h
   | false =>
     simp only[opV]at h
     split at h
     · rename_i j n kt et hx hi ht
       split at h
       · rename_i es clk kk inf hck hk hinf
         split at h
         · rename_i hz
           simp only[aa,ae]at h
           obtain⟨rfl,rfl⟩:=h
           have e1:a.eval x=V.ov j:=aJ r hg hx
           have e2:=aJ r hg hi
           obtain⟨h1,h2⟩:=r.wok.own j _ hck
           simp only[execOp,e1,h2]
           generalize a.eval i=u at e2 ⊢
           cases e2
           exact⟨_,bo (xc ht hk hinf hz h1 n),.bool _⟩
         ·simp at h
       ·simp at h
     ·simp at h
 | pick c x y =>
   simp only[opV]at h
   split at h
   · rename_i s
     split at h
     · rename_i b va vb hc hx hy
       simp only[aj,ae]at h
       obtain⟨sc,hk,rfl,rfl⟩:=h
       have ec:=aJ r hg hc
       have ec':a.eval (.tmp s) = .bool b:=by
        generalize a.eval (.tmp s)=u at ec ⊢
        cases ec;rfl
       have ec2:a.tmps.getD s undef = .bool b:=ec'
       have ek:=Dv (V:=V) hk (fun hb=>sG r hg hx (by rw[ec2,hb])) (fun hb=>sG r hg hy (by rw[ec2,hb]))
       refine⟨_,?_,ek⟩
       simp only[execOp,ec',asBool]
       cases b <;> rfl
     ·simp at h
   ·simp at h
 | binOp op t x y yt =>
   simp only[opV]at h
   split at h
   · rename_i v u hx hy
     split at h
     · rename_i r' hnb
       simp only[aa,ae]at h
       obtain⟨rfl,rfl⟩:=h
       obtain⟨e1,e2,v2,hr,hR⟩:=Cc (P:=P) (w:=w) (x:=x) hnb (aJ r hg hx)
       refine⟨v2,?_,hR⟩
       subst e1
       simp only[execOp]
       refine bo ?_
       have e3:a.eval (.const .nilIface) = .nilIface:=rfl
       rw[e3]
       simp only[Sem.run_bind,e2,Result.andThen_ok,hr]
     · simp only[aj,ae]at h
       obtain⟨⟨p',v'⟩,hb,rfl,rfl⟩:=h
       obtain⟨v2,hr,hR,hn⟩:=E7 (P:=P) (w:=w) hb hp (aJ r hg hx) (aJ r hg hy)
       refine⟨v2,?_,hR⟩
       simp only[execOp]
       refine bo ?_
       simp only[Sem.run_bind,gN op t x y hn,Result.andThen_ok,hr]
   · rename_i cs ds hx hy
     obtain⟨us,e1,h1⟩:=aJ r hg hx
     obtain⟨vs,e2,h2⟩:=aJ r hg hy
     split at h
     · simp only[aj,ae]at h
       obtain⟨b,hb,rfl,rfl⟩:=h
       obtain⟨g1,g2⟩:=sN (w:=w) hb h1 h2
       refine⟨_,?_,.bool b⟩
       simp only[execOp,e1,e2]
       refine bo ?_
       simp only[Sem.run_bind,run_eqGuard_agg w _ t x y _ _ g1,Result.andThen_ok,run_eql_struct,g2]
     · simp only[aj,ae]at h
       obtain⟨b,hb,rfl,rfl⟩:=h
       obtain⟨g1,g2⟩:=sN (w:=w) hb h1 h2
       refine⟨_,?_,.bool (!b)⟩
       simp only[execOp,e1,e2]
       refine bo ?_
       simp only[Sem.run_bind,run_eqGuard_agg w _ t x y _ _ g1,Result.andThen_ok,run_neq_struct,g2]
     ·simp at h
   ·simp at h
 | unOp op t x =>
   simp only[opV]at h
   split at h
   · rename_i b hx
     simp only[aa,ae]at h
     obtain⟨rfl,rfl⟩:=h
     have e1:=aJ r hg hx
     simp only[execOp]
     generalize a.eval x=u at e1 ⊢
     cases e1
     exact⟨_,rfl,.bool _⟩
   · rename_i k n hx
     simp only[aa,ae]at h
     obtain⟨rfl,rfl⟩:=h
     have e1:=aJ r hg hx
     simp only[execOp]
     generalize a.eval x=u at e1 ⊢
     cases e1
     exact⟨_,rfl,.int _ _⟩
   ·simp at h
 | convert src dst' x =>
   simp only[opV]at h
   split at h
   · rename_i d k k' n hs hd hx
     simp only[aa,ae]at h
     obtain⟨rfl,rfl⟩:=h
     have e1:=aJ r hg hx
     simp only[execOp]
     generalize a.eval x=u at e1 ⊢
     cases e1
     refine⟨_,bo ?_,.int k _⟩
     simp only[convert,Sem.run_bind,run_underlying hs,run_underlying hd,Result.andThen_ok]
     rfl
   · rename_i d s hs hd hx
     simp only[aa,ae]at h
     obtain⟨rfl,rfl⟩:=h
     have e1:=aJ r hg hx
     simp only[execOp]
     generalize a.eval x=u at e1 ⊢
     cases e1
     refine⟨_,bo ?_,.str s⟩
     simp only[convert,Sem.run_bind,run_underlying hs,run_underlying hd,Result.andThen_ok]
     rfl
   · rename_i d k n hs hd hx
     simp only[aa,ae]at h
     obtain⟨rfl,rfl⟩:=h
     have e1:=aJ r hg hx
     simp only[execOp]
     generalize a.eval x=u at e1 ⊢
     cases e1
     refine⟨_,bo ?_,.flS _⟩
     simp only[convert,Sem.run_bind,run_underlying hs,run_underlying hd,Result.andThen_ok]
     rfl
   · rename_i d k n hs hd hx
     simp only[aa,ae]at h
     obtain⟨rfl,rfl⟩:=h
     have e1:PR V.H (.fl (some n)) (a.eval x):=aJ r hg hx
     have e2:=e1.fl_some
     obtain⟨g1,g2,g3⟩:jJ k n:=hp
     simp only[execOp,e2]
     refine⟨_,bo ?_,.int k (da n)⟩
     simp only[convert,Sem.run_bind,run_underlying hs,run_underlying hd,Result.andThen_ok]
     simp[Conv.floatToInt,g1,g2,g3]
   ·simp at h
 | extract x i =>
   simp only[opV]at h
   split at h
   · rename_i l hx
     simp only[aj,ae]at h
     obtain⟨v,hv,rfl,rfl⟩:=h
     obtain⟨us,e1,e2⟩:=sP r hx
     obtain⟨u,e3,e4⟩:=e2.get hv
     refine⟨u,?_,e4⟩
     simp only[execOp,e1]
     refine bo ?_
     have:us.toArray[i]?=some u:=by simpa using e3
     simp only[Instr.extract,this];rfl
   ·simp at h
 | field t x i =>
   simp only[opV]at h
   split at h
   · rename_i cs fd hx hf
     simp only[aj,ae]at h
     obtain⟨sv'',hv,rfl,rfl⟩:=h
     obtain⟨us,e1,e2⟩:=aJ r hg hx
     obtain⟨fs,hu,hfi⟩:=oQ hf
     obtain⟨v,hr,hR⟩:=ld (P:=P) (w:=w) e2 hv
     refine⟨v,?_,hR⟩
     simp only[execOp,e1]
     refine bo ?_
     simp only[Instr.field,Sem.run_bind,run_underlying hu,Result.andThen_ok,hfi,asAgg,run_pure',hr]
   ·simp at h
 | fieldAddr t x i =>
   simp only[opV]at h
   split at h
   · rename_i s fd hx hf
     have e1:=aJ r hg hx
     obtain⟨fs,hu,hfi⟩:=oQ hf
     split at h
     · rename_i n hs
       have go:∀b off,a.eval x = .pointer (some ⟨b,off,none⟩)→(execOp a.eval ⟨dst,.fieldAddr t x i,ty,pos,after,guard⟩).run P w = .ok (.value (.pointer (some ⟨b,off+fd.offset,none⟩))) w:=by
        intro b off e
        simp only[execOp,e]
        refine bo ?_
        simp only[Instr.fieldAt,Sem.run_bind,run_underlying hu,Result.andThen_ok,hfi,Instr.sureAddr,fieldPlace,run_pure',fU hs,Nat.add_one_ne_zero,if_false,addr_add]
       split at h
       · simp only[aa,ae]at h
         obtain⟨rfl,rfl⟩:=h
         exact⟨_,go _ _ e1,rfl⟩
       · rename_i ty' rr off
         simp only[aa,ae]at h
         obtain⟨rfl,rfl⟩:=h
         generalize hq:a.eval x=u at e1 go
         cases e1 with
         | ref _ _ _ b o0 cells e fr hb hs' hc =>
           refine⟨_,go _ _ rfl,?_⟩
           rw[gG]
           exact .ref _ _ _ b o0 cells e fr hb hs' hc
       · rename_i j k sz off
         simp only[aa,ae]at h
         obtain⟨rfl,rfl⟩:=h
         refine⟨_,go _ _ e1,?_⟩
         show _=_
         rw[gG]
       ·simp at h
     ·simp at h
   ·simp at h
 | load t x =>
   simp only[opV]at h
   split at h
   · rename_i p' cs off hx
     simp only[bm]at hx
     obtain⟨sx0,hx1,hx2⟩:=hx
     split at h
     · rename_i ab hs
       simp only[aa,ae]at h
       obtain⟨rfl,rfl⟩:=h
       have hp':Holds p'∧off<2:=hp
       obtain⟨b,o0,arr,e,fr,us,e1,e2,e3,e4⟩:=s5 r (aJ r hg hx1) hx2 hp'.1
       obtain⟨v,hr,hR⟩:=om (P:=P) e2 e3 e4 (Ku hs hp'.2)
       refine⟨v,?_,hR⟩
       simp only[execOp,e1]
       refine bo ?_
       simp only[Instr.loadAt,Instr.sureAddr,Sem.run_bind,run_pure',Result.andThen_ok,hr]
     · simp only[aj,ae]at h
       obtain⟨sv'',hv,rfl,rfl⟩:=h
       obtain⟨b,o0,arr,e,fr,us,e1,e2,e3,e4⟩:=s5 r (aJ r hg hx1) hx2 hp
       obtain⟨v,hr,hR⟩:=om (P:=P) e2 e3 e4 hv
       refine⟨v,?_,hR⟩
       simp only[execOp,e1]
       refine bo ?_
       simp only[Instr.loadAt,Instr.sureAddr,Sem.run_bind,run_pure',Result.andThen_ok,hr]
   ·simp at h
 | index t x i =>
   simp only[opV]at h
   split at h
   · rename_i s n hx ht hi
     simp only[aa,ae]at h
     obtain⟨rfl,rfl⟩:=h
     simp only[Holds]at hp
     have e1:=aJ r hg hx
     obtain⟨k,e2⟩:=eQ r hg hi
     simp only[execOp,e2]
     generalize a.eval x=u at e1 ⊢
     cases e1
     refine⟨_,bo ?_,.int _ _⟩
     simp only[Instr.index,asIntOf,Sem.run_bind,run_underlying ht]
     simp only[run_pure',Sem.run_bind,Result.andThen_ok]
     have hlt:n.toNat<(bs s).size:=by
      have:=hp.2
      unfold aE at this
      rw[kU]
      omega
     have hget:(bs s)[n.toNat]?=some (s.getD n.toNat 0):=by
      rw[getElem?_pos (bs s) n.toNat hlt]
      simp only[aa]
      have:n.toNat<s.length:=by rw[←kU];exact hlt
      rw[List.getD_eq_getElem?_getD,List.getElem?_eq_getElem this]
      rfl
     simp only[hp.1,if_true,hget]
     rfl
   · rename_i cs len el n hx ht hi
     split at h
     · rename_i sz hs
       simp only[aj,ae]at h
       obtain⟨sv'',hv,rfl,rfl⟩:=h
       simp only[Holds]at hp
       obtain⟨us,e1,e3⟩:=aJ r hg hx
       obtain⟨k,e2⟩:=eQ r hg hi
       obtain⟨v,hr,hR⟩:=ld (P:=P) (w:=w) e3 hv
       refine⟨v,?_,hR⟩
       simp only[execOp,e1,e2]
       refine bo ?_
       simp only[Instr.index,asIntOf,Sem.run_bind,run_underlying ht]
       simp only[run_pure',Sem.run_bind,Result.andThen_ok,if_pos hp,fU hs,hr]
     ·simp at h
   ·simp at h
 | slice t x lo hi mx =>
   cases mx with
   |some _=>simp[opV]at h
   | none =>
     simp only[opV]at h
     split at h
     · rename_i s bl bh hx ht h1 h2
       simp only[aa,ae]at h
       obtain⟨rfl,rfl⟩:=h
       have e1:=aJ r hg hx
       obtain⟨x0,y0,g1,g2,g3,g4,g5⟩:=xL r hg h1 h2 s hp
       rw[g5]
       simp only[execOp]
       generalize a.eval x=u at e1 ⊢
       cases e1
       refine⟨_,bo (y6 ht (CK g1 (by have:=g2 s.length (av _);rw[kU];exact this))),.str _⟩
     · rename_i ty' l e bl bh hx ht h1 h2
       split at h
       · rename_i n hn
         cases hb:Nat.beq n ty'.size
         ·rw[hb]at h;simp at h
         · rw[hb]at h
           simp only[cond_true,aa,ae]at h
           obtain⟨rfl,rfl⟩:=h
           have hsz:=ak hb
           have e1:=aJ r hg hx
           obtain⟨x0,y0,g1,g2,g3,g4,g5⟩:=xL r hg h1 h2 l hp
           rw[g5]
           simp only[execOp]
           have e2:PR V.H (.lst ty' l) (a.eval x):=e1
           obtain⟨ao,cap,e3,e4,_⟩:=e2.slice_form
           rw[e3]at e2 ⊢
           refine⟨_,bo (pU ht hn (CK g1 (g2 cap e4))),?_⟩
           rw[hsz]
           exact e2.cut g3 g4
       ·simp at h
     ·simp at h
 | indexAddr t x i =>
   simp only[opV]at h
   split at h
   · rename_i ty' l e j hx ht hi
     split at h
     · rename_i sz hs
       cases hb:Nat.beq sz ty'.size
       ·rw[hb]at h;simp at h
       · rw[hb]at h
         simp only[cond_true,aa,ae]at h
         obtain⟨rfl,rfl⟩:=h
         have hsz:=ak hb
         simp only[Holds]at hp
         have e1:PR V.H (.lst ty' l) (a.eval x):=aJ r hg hx
         obtain⟨k,e2⟩:=eQ r hg hi
         obtain⟨b,off,cap,e3,e4⟩:=e1.elem (j:=j.toNat) (by omega)
         simp only[execOp,e2,e3]
         refine⟨_,bo (mf ht hs hp.1 hp.2),?_⟩
         rw[hsz];exact e4
     ·simp at h
   · rename_i m e j hx ht hi
     split at h
     · rename_i sz e' ty' l hs hck
       cases hb:Nat.beq sz ty'.size
       ·rw[hb]at h;simp at h
       · rw[hb]at h
         simp only[cond_true,aa,ae]at h
         obtain⟨rfl,rfl⟩:=h
         simp only[Holds]at hp
         have e1:a.eval x=V.ov m:=aJ r hg hx
         obtain⟨k,e2⟩:=eQ r hg hi
         obtain⟨xs,h1,h2,h3⟩:=r.wok.own m _ hck
         have e3:∃b cp,V.ov m = .slice (some ⟨b,0,none⟩) l.length cp∧V.σ m=b:=by
          rcases h1.2 with⟨_,h4⟩ |⟨g',cap,cur,h4,_⟩
          ·omega
          ·exact⟨_,_,h4,h3 _ (by rw[h4];rfl)⟩
         obtain⟨b,cp,e3,e4⟩:=e3
         simp only[execOp,e1,e2,e3]
         refine⟨_,bo (mf ht hs hp.1 hp.2),?_⟩
         show _=_
         rw[e4,ba,cF]
     ·simp at h
   · rename_i m off n e j hx ht hi
     split at h
     · rename_i sz hs
       simp only[aa,ae]at h
       obtain⟨rfl,rfl⟩:=h
       simp only[Holds]at hp
       have e1:a.eval x = .pointer (some ⟨V.σ m,off,none⟩):=aJ r hg hx
       obtain⟨k,e2⟩:=eQ r hg hi
       simp only[execOp,e1,e2]
       exact⟨_,bo (CI ht hs hp.1 hp.2),rfl⟩
     ·simp at h
   · rename_i l e j hx ht hi
     split at h
     · rename_i sz hs
       cases hb:Nat.beq sz 1
       ·rw[hb]at h;simp at h
       · rw[hb]at h
         simp only[cond_true,aa,ae]at h
         obtain⟨rfl,rfl⟩:=h
         have hsz:=ak hb
         simp only[Holds]at hp
         have e1:PR V.H (.fns l) (a.eval x):=aJ r hg hx
         obtain⟨k,e2⟩:=eQ r hg hi
         generalize hq:a.eval x=u at e1
         cases e1 with
         | fns _ b cap cells e' fr uss hb' hcap hc hh =>
           simp only[execOp,e2,hq]
           refine⟨_,bo (mf ht hs hp.1 hp.2),?_⟩
           rw[hsz,ba,Nat.mul_one]
           exact .fnAt l j.toNat b cells e' fr uss hb' hc hh
     ·simp at h
   ·simp at h
 | makeInterface t x =>
   simp only[opV]at h
   split at h
   · rename_i p' d hx ht
     split at h
     ·simp at h
     · rename_i v hni hv
       simp only[aa,ae]at h
       obtain⟨rfl,rfl⟩:=h
       have e1:=Sf hv (aJ r hg hx)
       refine⟨.iface t v,?_,.v _ rfl⟩
       simp only[execOp,e1]
       refine bo ?_
       simp only[Instr.makeInterface,Sem.run_bind,run_underlying ht,Result.andThen_ok]
       rfl
     ·simp at h
   ·simp at h
 | makeFunc fn first cap =>
   simp only[opV]at h
   split at h
   · rename_i x y hx hy
     simp only[aa,ae]at h
     obtain⟨rfl,rfl⟩:=h
     refine⟨_,?_,_,_,rfl,np r hg _ _ hx,np r hg _ _ hy⟩
     simp only[execOp]
     refine bo ?_
     have f1:first.map a.eval=(first.toList.map a.eval).toArray:=(dQ).1 (by rw[dc])
     have f2:cap.map a.eval=(cap.toList.map a.eval).toArray:=(dQ).1 (by rw[dc])
     simp only[Instr.makeFunc,f1,f2];rfl
   ·simp at h
 | nilCheck x =>
   simp only[opV]at h
   split at h
   · rename_i s hx
     have e1:=aJ r hg hx
     split at h
     · simp only[aa,ae]at h
       obtain⟨rfl,rfl⟩:=h
       refine⟨_,?_,e1⟩
       have e2:a.eval x=_:=e1
       simp only[execOp,e2];rfl
     · simp only[aa,ae]at h
       obtain⟨rfl,rfl⟩:=h
       refine⟨_,?_,e1⟩
       have e2:a.eval x=_:=e1
       simp only[execOp,e2];rfl
     · simp only[aa,ae]at h
       obtain⟨rfl,rfl⟩:=h
       refine⟨_,?_,e1⟩
       simp only[execOp]
       generalize a.eval x=u at e1 ⊢
       cases e1
       rfl
     · simp only[aa,ae]at h
       obtain⟨rfl,rfl⟩:=h
       refine⟨_,?_,e1⟩
       obtain⟨ua,ub,e2,_⟩:=e1
       simp only[execOp,e2];rfl
     ·simp at h
   ·simp at h
 | call c =>
   obtain⟨callee,args,ts⟩:=c
   cases callee with
   | builtin b =>
     cases b <;> first |(simp[opV]at h;done) |skip
     case min =>
      simp only[opV]at h
      split at h
      · rename_i x y hx
        have ea:args=#[x,y]:=by cases args;simp_all
        subst ea
        split at h
        · rename_i k m k' n h1 h2
          simp only[aa,ae]at h
          obtain⟨rfl,rfl⟩:=h
          have e1:PR V.H (.int k m) (a.eval x):=aJ r hg h1
          have e2:PR V.H (.int k' n) (a.eval y):=aJ r hg h2
          generalize hq1:a.eval x=u1 at e1
          generalize hq2:a.eval y=u2 at e2
          cases e1
          cases e2
          refine⟨_,?_,.int _ _⟩
          simp only[execOp,resolve,Sem.run_bind,run_pure',Result.andThen_ok,invoke,builtin,de,aq,cb,hq1,hq2]
          rfl
        ·simp at h
      ·simp at h
     case max =>
      simp only[opV]at h
      split at h
      · rename_i x y hx
        have ea:args=#[x,y]:=by cases args;simp_all
        subst ea
        split at h
        · rename_i k m k' n h1 h2
          simp only[aa,ae]at h
          obtain⟨rfl,rfl⟩:=h
          have e1:PR V.H (.int k m) (a.eval x):=aJ r hg h1
          have e2:PR V.H (.int k' n) (a.eval y):=aJ r hg h2
          generalize hq1:a.eval x=u1 at e1
          generalize hq2:a.eval y=u2 at e2
          cases e1
          cases e2
          refine⟨_,?_,.int _ _⟩
          simp only[execOp,resolve,Sem.run_bind,run_pure',Result.andThen_ok,invoke,builtin,de,aq,cb,hq1,hq2]
          rfl
        ·simp at h
      ·simp at h
     case complex =>
      simp only[opV]at h
      split at h
      · rename_i x y hx
        have ea:args=#[x,y]:=by cases args;simp_all
        subst ea
        split at h
        · rename_i o o' h1 h2
          simp only[aa,ae]at h
          obtain⟨rfl,rfl⟩:=h
          have e1:PR V.H (.fl o) (a.eval x):=aJ r hg h1
          have e2:PR V.H (.fl o') (a.eval y):=aJ r hg h2
          generalize hq1:a.eval x=u1 at e1
          generalize hq2:a.eval y=u2 at e2
          cases e1 with |fl _ x1 f1 =>
          cases e2 with |fl _ x2 f2 =>
          refine⟨.complex .f64 x1 x2,?_,.cx _ x1 x2 fun p hp2=>?_⟩
          · simp only[execOp,resolve,Sem.run_bind,run_pure',Result.andThen_ok,invoke,builtin,de,aq,cb,hq1,hq2]
            rfl
          · cases o with
            |none=>simp at hp2
            | some q1=>cases o' with
              |none=>simp at hp2
              |some q2=>simp at hp2;rw[←hp2,f1 q1 rfl,f2 q2 rfl]
        ·simp at h
      ·simp at h
     case imag =>
      simp only[opV]at h
      split at h
      · rename_i x hx
        have ea:args=#[x]:=by cases args;simp_all
        subst ea
        split at h
        · rename_i o h1
          simp only[aa,ae]at h
          obtain⟨rfl,rfl⟩:=h
          have e1:PR V.H (.cx o) (a.eval x):=aJ r hg h1
          generalize hq1:a.eval x=u1 at e1
          cases e1 with |cx _ x1 x2 f1 =>
          refine⟨.float .f64 x2,?_,.fl _ x2 fun p hp2=>?_⟩
          · simp only[execOp,resolve,Sem.run_bind,run_pure',Result.andThen_ok,invoke,builtin,de,aq,cb,hq1]
            rfl
          · cases o with
            |none=>simp at hp2
            |some q1=>simp at hp2;rw[←hp2,f1 q1 rfl]
        ·simp at h
      ·simp at h
     case real =>
      simp only[opV]at h
      split at h
      · rename_i x hx
        have ea:args=#[x]:=by cases args;simp_all
        subst ea
        split at h
        · rename_i o h1
          simp only[aa,ae]at h
          obtain⟨rfl,rfl⟩:=h
          have e1:PR V.H (.cx o) (a.eval x):=aJ r hg h1
          generalize hq1:a.eval x=u1 at e1
          cases e1 with |cx _ x1 x2 f1 =>
          refine⟨.float .f64 x1,?_,.fl _ x1 fun p hp2=>?_⟩
          · simp only[execOp,resolve,Sem.run_bind,run_pure',Result.andThen_ok,invoke,builtin,de,aq,cb,hq1]
            rfl
          · cases o with
            |none=>simp at hp2
            |some q1=>simp at hp2;rw[←hp2,f1 q1 rfl]
        ·simp at h
      ·simp at h
     simp only[opV]at h
     split at h
     · rename_i x t hx ht
       have ea:args=#[x]:=by cases args;simp_all
       have et:ts=#[t]:=by cases ts;simp_all
       subst ea;subst et
       have fin:∀v n,a.eval x=v→(Builtin.len_ #[t] ty #[v]).run P w = .ok (.int .i64 n) w→(execOp a.eval ⟨dst,.call {callee:=.builtin .len,args:=#[x],argTypes:=#[t]},ty,pos,after,guard⟩).run P w = .ok (.value (.int .i64 n)) w:=by
        intro v n e1 e2
        simp only[execOp,resolve,Sem.run_bind]
        simp only[run_pure',Sem.run_bind,Result.andThen_ok,invoke,builtin,de,aq,cb,e1,e2]
       split at h
       · rename_i s he hu
         simp only[aa,ae]at h
         obtain⟨rfl,rfl⟩:=h
         have e1:=aJ r hg he
         generalize hq:a.eval x=u at e1
         cases e1
         exact⟨_,fin _ _ hq (run_len_string hu),.int _ _⟩
       · rename_i t' l e he hu
         simp only[aa,ae]at h
         obtain⟨rfl,rfl⟩:=h
         have e1:PR V.H (.lst t' l) (a.eval x):=aJ r hg he
         obtain⟨ao,cap,e3,_⟩:=e1.slice_form
         exact⟨_,fin _ _ e3 (run_len_slice hu),.int _ _⟩
       · rename_i e he hu
         simp only[aa,ae]at h
         obtain⟨rfl,rfl⟩:=h
         have e1:=aJ r hg he
         generalize hq:a.eval x=u at e1
         cases e1
         exact⟨_,fin _ _ hq (run_len_slice hu),.int _ _⟩
       · rename_i i e he hu
         split at h
         · rename_i e' t' l hck
           simp only[aa,ae]at h
           obtain⟨rfl,rfl⟩:=h
           have e1:a.eval x=V.ov i:=aJ r hg he
           obtain⟨ad,cp,e2⟩:=Qa r hck
           exact⟨_,fin _ _ (e1.trans e2) (run_len_slice hu),.int _ _⟩
         ·simp at h
       · rename_i l e he hu
         simp only[aa,ae]at h
         obtain⟨rfl,rfl⟩:=h
         have e1:PR V.H (.fns l) (a.eval x):=aJ r hg he
         generalize hq:a.eval x=u at e1
         cases e1
         exact⟨_,fin _ _ hq (run_len_slice hu),.int _ _⟩
       ·simp at h
     ·simp at h
   |value _=>exact absurd (show(none:Option (Option Prop×SX))=some (p,sx)from h) (by simp)
   |invoke _ _=>exact absurd (show(none:Option (Option Prop×SX))=some (p,sx)from h) (by simp)
 |_=>simp[opV]at h
end
end Go.Ev
