/- An executor for function bodies of the model over data, part PZ: a slice set against nil; a contract told otherwise. Conditions: none. An executor for function bodies of the model over data, part VA: a slice of the caller's own, lent to one that only reads. Conditions: each rule's own. An executor for function bodies of the model over data, part VB: a function looked up in a map that nobody writes. Conditions: each rule's own. -/
import Derived.Test.YtcopfgbbjdefbaaGreatDoorPY
import Derived.Lib.SliceRun
import Derived.MapKept
namespace Go.Ev
open Go.RowKit
def B7 (P:Program) (root:Code) (p:List Nat) (i:Nat) (st:ST):Option (Nat×Nat) :=
 match (opsOf (sub root p))[i]? with
 | some o=>match o.guard,o.dst,o.op with
   | none,some d,.binOp .eql ty (.tmp s) (.const (.slice none 0 0)) _=>match P.underlying ty,lookup st.fr s with
     | some (.slice _),some (.x (.c (.pd (.lst _ _))))=>bif Nat.blt d st.n then some (d,s) else none
     | _,_=>none
   | _,_,_=>none
 | none=>none
section
variable {P:Program} {f:Go.Sy.Md} {root:Code} {Γ:Ctx} {Q:Out} {st:ST} {k:List PI}
theorem J.isNil {p:List Nat} {i d s:Nat} {t:ETy} {l:List t.den} (h:B7 P root p i st=some (d,s)) (hl:lookup st.fr s=some (.x (.c (.pd (.lst t l)))))
 (h0:l=[]→J P f root Γ Q (.ops p (i+1)::k) { st with fr:=bD d (.x (.b true)) st.fr })
 (h1:J P f root Γ Q (.ops p (i+1)::k) { st with fr:=bD d (.x (.b false)) st.fr }):J P f root Γ Q (.ops p i::k) st:=by
 unfold B7 at h
 split at h
 · rename_i o ho
   split at h
   · rename_i d' ty s' yt hg hd hop
     split at h
     · rename_i e t' l' hu hlk
       cases hb:Nat.blt d' st.n
       · rw [hb] at h; cases h
       · rw [hb] at h
         simp only [cond_true,aa,ae] at h
         obtain ⟨rfl,rfl⟩:=h
         intro hT V a w r
         have hi:i<(opsOf (sub root p)).size:=(Array.getElem?_eq_some_iff.1 ho).1
         have hsz:(opsOf (sub root p)).size - i=((opsOf (sub root p)).size - (i+1))+1:=by omega
         simp only [av,PI.den]
         rw [hsz,bO]
         have hv:PR V.H (.lst t l) (a.tmps.getD s' undef):=r.slots s' _ (cl hl)
         have hput:∀ b:Bool,de st (some d') (.x (.b b))=some { st with fr:=bD d' (.x (.b b)) st.fr }:=fun b=>by
          simp only [de,hb,cond_true]
         have run:∀ (ao:Option Addr) (n c:Nat),a.tmps.getD s' undef = .slice ao n c→(execOp a.eval o).run P w = .ok (.value (.bool ao.isNone)) w:=by
          intro ao n c hs
          obtain ⟨dst,op,ty',pos,after,guard⟩:=o
          simp only at hop
          subst hop
          simp only [execOp]
          refine bg ?_
          have e1:a.eval (.tmp s') = .slice ao n c:=hs
          have e2:a.eval (.const (.slice none 0 0)) = .slice none 0 0:=rfl
          rw [e1,e2]
          simp only [Sem.run_bind,eR .eql ty (.tmp s') (.const (.slice none 0 0)) (a:=.slice ao n c) (b:=.slice none 0 0) ⟨fun _ e=>(by cases e),(by intro e; cases e)⟩,Result.andThen_ok]
          rw [Lib.run_eql_slice_nil w ty e ao n c 0 0 hu]
         have hw:Region.wanted o (yielded (opsOf (sub root p)) a.tmps)=true:=by simp only [Region.wanted,hg]
         have go:∀ b:Bool,(execOp a.eval o).run P w = .ok (.value (.bool b)) w→(J P f root Γ Q (.ops p (i+1)::k) { st with fr:=bD d' (.x (.b b)) st.fr })→_:=fun b hr hj =>
          Go.Sy.Fin.op_value ho hw hr (by
           rw [hd]
           exact hj hT V _ _ (cz r (hput b) (v:=.bool b) (.bool b)))
         generalize hus:a.tmps.getD s' undef=u at hv run
         cases hv with
         | emp _ ao cap he =>
           cases ao with
           | none=>exact go true (run none 0 cap rfl) (h0 rfl)
           | some x=>exact go false (run (some x) 0 cap rfl) h1
         | lst _ _ b off cap cells e' fr hb' hc hm hs hh=>exact go false (run _ _ cap rfl) h1
     · cases h
   · cases h
 · cases h
theorem ag.ret {f:FuncId} {args:List SX} {ck ck':List Chunk} {ret ret':SV} (h:ag P f args ck ret ck') (hr:∀ (V:Vn) (v:Value),ret.R V v→ret'.R V v):ag P f args ck ret' ck':=by
 intro w V vs hw hT hv
 refine (h w V vs hw hT hv).mono fun e w' hq=>?_
 obtain ⟨v,V',rfl,h1,h2⟩:=hq
 exact ⟨v,V',rfl,hr _ _ h1,h2⟩
theorem ag.nilOwn {f:FuncId} {fn:Func} {args:List SX} {e:TypeId} {t:ETy} {l:List t.den} (hf:P.funcs[f]?=some fn) (hb:fn.body.isSome=true) (hn:Nat.ble args.length fn.ntmps=true)
 (h:∀ Γ,J P f (aw fn) Γ (fun v ck=>(v = .x (.c (.own 0))∧ck=[.own e t l])∨(l=[]∧v = .x (.c (.pd (.v (.slice none 0 0))))∧ck=[])) [.code []] (eX fn.ntmps args [])):ag P f args [] (.x (.c (.own 0))) [.own e t l]:=by
 intro w V vs hw hT hv
 refine (ij hf (je hb) hn (Γ:=entry [] V w) rfl (h _) hw hT hv).mono fun en w' hq=>?_
 obtain ⟨v,V',r,c,rfl,hc,h1,h2⟩:=hq
 rcases hc with ⟨rfl,rfl⟩ | ⟨rfl,rfl,rfl⟩
 · exact ⟨v,V',rfl,h1,h2⟩
 · have hv:v = .slice none 0 0:=by
    have h3:PR V'.H (.v (.slice none 0 0)) v:=h1
    cases h3; rfl
   obtain ⟨V2,hag,_,_,e2,hw2⟩:=h2.regrow (ck:=[]) rfl (aP _) none (c:=.own e t []) (v':=.slice none 0 0) (s':=0) (w':=w') (row:=none) (by simp) (World.grownBy.refl _ _) (fun V' hag hH f1 f2=>by
    have f3:V'.ov 0 = .slice none 0 0:=f2
    refine ⟨⟨[],?_,.nil,fun b hb=>by rw [f2] at hb; simp [Value.ownBlock] at hb⟩,fun b hb=>by simp [Chunk.blk,f3,Value.ownBlock] at hb⟩
    rw [f2]; exact World.ownsRow_nil w' 0 e t.size)
   refine ⟨v,V2,rfl,?_,hw2⟩
   show v=V2.ov 0
   rw [hv]; exact e2.symm
/-! ### blocks in another order -/
def distinct:List Nat→Bool
 | []=>true
 | a::r=>!r.any (Nat.beq a)&&distinct r
theorem nA:∀ {m:List Nat},distinct m=true→∀ (i j:Nat) x,m[i]?=some x→m[j]?=some x→i=j
 | [],_,i,j,x,h,_=>by simp at h
 | a :: r,hd,i,j,x,hi,hj=>by
   simp only [distinct,af,aD] at hd
   have hn:∀ k:Nat,r[k]?≠some a:=fun k hk=>by
    have h1:=c7.1 hd.1 a (List.mem_of_getElem? hk)
    simp at h1
   cases i with
   | zero =>
     simp only [List.getElem?_cons_zero,aa] at hi
     subst hi
     cases j with
     | zero=>rfl
     | succ j=>exact absurd (by simpa using hj) (hn j)
   | succ i =>
     cases j with
     | zero =>
       simp only [List.getElem?_cons_zero,aa] at hj
       subst hj
       exact absurd (by simpa using hi) (hn i)
     | succ j=>rw [nA hd.2 i j x (by simpa using hi) (by simpa using hj)]
theorem BL {m:List Nat} {n:Nat} {ck ck':List Chunk} (hp:dc ck m=some ck') (h1:distinct m=true) (h3:within m (ck'.flatMap Chunk.refs)=true) (h4:m.take n=List.range n) :
 RnW (fun i=>bW i m 0) (fun j=>m.getD j 0) n ck (ck'.map (Chunk.map fun i=>bW i m 0))∧n≤(ck'.map (Chunk.map fun i=>bW i m 0)).length∧∀ l,within m l=true→∀ i∈l,(fun j=>m.getD j 0) ((fun i=>bW i m 0) i)=i:=by
 have hpk:=gm hp
 have hround:∀ i,i∈m→m.getD (bW i m 0) 0=i:=fun i hi=>by
  have:=(gD (k:=0) hi).2
  rw [dy] at this
  simp [List.getD_eq_getElem?_getD,this]
 have hin:∀ {l:List Nat},within m l=true→∀ i∈l,i∈m:=fun hw i hi=>fp (ak.1 hw i hi)
 refine ⟨⟨?_,?_⟩,?_,fun l hl i hi=>hround i (hin hl i hi)⟩
 · intro j x' hx
   rw [List.getElem?_map,al] at hx
   obtain ⟨c,hc,rfl⟩:=hx
   obtain ⟨i,hi,hci⟩:=hpk.2 j c hc
   have hgi:m.getD j 0=i:=by simp [List.getD_eq_getElem?_getD,hi]
   refine .inr ⟨c,by show ck[m.getD j 0]?=some c; rw [hgi]; exact hci,rfl,?_,fun r hr=>hround r (hin (oN h3 (List.mem_of_getElem? hc)) r hr)⟩
   show bW (m.getD j 0) m 0=j
   rw [hgi]
   have:=(gD (k:=0) (List.mem_of_getElem? hi)).2
   rw [dy] at this
   exact nA h1 _ _ i this hi
 · intro j hj
   have:(m.take n)[j]?=(List.range n)[j]?:=by rw [h4]
   rw [List.getElem?_take_of_lt hj,List.getElem?_range hj] at this
   simp [List.getD_eq_getElem?_getD,this]
 · have:(m.take n).length=n:=by rw [h4]; simp
   rw [a7] at this
   rw [aL,hpk.1]; omega
def CJ (m:List Nat) (st:ST):Option ST:=match dc st.ck m with
 | some ck'=>bif distinct m&&within m (st.fr.flatMap fun p=>p.2.refs)&&within m (ck'.flatMap Chunk.refs)&&(m.take st.m==List.range st.m) then
    some { st with fr:=st.fr.map (fun p=>(p.1,p.2.map fun i=>bW i m 0)),ck:=ck'.map (Chunk.map fun i=>bW i m 0) } else none
 | none=>none
theorem J.perm {todo:List PI} {st':ST} (m:List Nat) (h:CJ m st=some st') (hk:J P f root Γ Q todo st'):J P f root Γ Q todo st:=by
 unfold CJ at h
 split at h
 · rename_i ck' hp
   cases hb:(distinct m&&within m (st.fr.flatMap fun p=>p.2.refs)&&within m (ck'.flatMap Chunk.refs)&&(m.take st.m==List.range st.m))
   · rw [hb] at h; cases h
   · rw [hb] at h
     simp only [cond_true,aa] at h
     subst h
     simp only [af,beq_iff_eq] at hb
     obtain ⟨⟨⟨h1,h2⟩,h3⟩,h4⟩:=hb
     obtain ⟨g1,g2,g3⟩:=BL hp h1 h3 h4
     exact J.renum _ _ g1 g2 (fun p hp i hi=>g3 _ h2 i (aG.2 ⟨p,hp,hi⟩)) hk
 · cases h
def Gu (n:Nat) (m:List Nat) (v:SV) (ck:List Chunk):Option (SV×List Chunk):=match dc ck m with
 | some ck'=>bif distinct m&&within m v.refs&&within m (ck'.flatMap Chunk.refs)&&(m.take n==List.range n) then
    some (v.map fun i=>bW i m 0,ck'.map (Chunk.map fun i=>bW i m 0)) else none
 | none=>none
theorem xZ {ρ:Nat→Nat} {V V':Vn} {sv:SV} (h:Turned ρ V V' sv.refs) {v:Value} (hr:sv.R V v):(sv.map ρ).R V' v:=by
 cases sv with
 | x s=>exact SX.R_map h hr
 | tup l =>
   obtain ⟨us,rfl,h2⟩:=hr
   exact ⟨us,rfl,gZ h h2⟩
 | grd _ _ _=>exact hr.elim
theorem ag.perm {f:FuncId} {fn:Func} {args:List SX} {ck ck':List Chunk} {ret:SV} (hf:P.funcs[f]?=some fn) (hb:fn.body.isSome=true) (hn:Nat.ble args.length fn.ntmps=true)
 (h:∀ Γ,J P f (aw fn) Γ (fun v c=>∃ m,Gu ck.length m v c=some (ret,ck')) [.code []] (eX fn.ntmps args ck)):ag P f args ck ret ck':=by
 intro w V vs hw hT hv
 refine (ij hf (je hb) hn (Γ:=entry ck V w) rfl (h _) hw hT hv).mono fun en w' hq=>?_
 obtain ⟨v,V',r,c,rfl,⟨m,hm⟩,h1,h2⟩:=hq
 unfold Gu at hm
 split at hm
 · rename_i c' hp
   cases hb:(distinct m&&within m r.refs&&within m (c'.flatMap Chunk.refs)&&(m.take ck.length==List.range ck.length))
   · rw [hb] at hm; cases hm
   · rw [hb] at hm
     simp only [cond_true,aa,ae] at hm
     obtain ⟨rfl,rfl⟩:=hm
     simp only [af,beq_iff_eq] at hb
     obtain ⟨⟨⟨g1,g2⟩,g3⟩,g4⟩:=hb
     obtain ⟨k1,k2,k3⟩:=BL hp g1 g3 g4
     obtain ⟨V2,_,k4,k5⟩:=h2.renum (m:=ck.length) (ar _) k1
     exact ⟨v,V2,rfl,xZ (k5 _ (k3 _ g2)) h1,k4⟩
 · cases hm
end
end Go.Ev
namespace Go.Ev
open Go.RowKit
section
variable {P:Program} {f:FuncId}
theorem ag.mark {args:List SX} {ck ck':List Chunk} {ret:SV} (h:ag P f args ck ret ck'):ag P f args ck ret (ck'++[.dead]):=by
 intro w V vs hw hT hv
 refine (h w V vs hw hT hv).mono fun en w' hq=>?_
 obtain ⟨v,V',rfl,h1,h2⟩:=hq
 refine ⟨v,V',rfl,h1,h2.sub fun x c hc=>?_⟩
 by_cases hx:x<ck'.length
 · right; rwa [List.getElem?_append_left hx] at hc
 · left
   rw [List.getElem?_append_right (by omega)] at hc
   exact (a8.1 (List.mem_of_getElem? hc))
end
end Go.Ev
namespace Go.Ev
open Go.RowKit
def fI:List (Str×Nat)→Str→Option Nat
 | [],_=>none
 | p::r,s=>bif p.1==s then some p.2 else fI r s
theorem IJ {a b:Str} (h:bs a=bs b):a=b:=by
 have:=congrArg (fun x:ByteArray=>x.data.toList) h
 simpa [eT] using this
theorem oH (s:Str):∀ (l:List (Str×Nat)) (es:List MapEntry) (i:Nat),es.map (fun e=>(e.key,e.val))=l.map (fun p=>(Value.string (bs p.1),Value.func (.func p.2) #[] #[])) →
 ∃ r,Instr.findNow .string (.string (bs s)) es i=some r∧r.map (·.2)=(fI l s).map fun f=>Value.func (.func f) #[] #[]
 | [],es,i,h=>by
   have:es=[]:=by simpa using h
   subst this
   exact ⟨none,rfl,rfl⟩
 | p :: l,es,i,h=>by
   cases es with
   | nil=>simp at h
   | cons e es =>
     simp only [av,dt,ae] at h
     obtain ⟨⟨h1,h2⟩,h3⟩:=h
     have hs:Instr.sameNow .string (.string (bs s)) e.key=some (p.1==s):=by
      rw [h1]
      show some (bs s==bs p.1)=_
      congr 1
      cases hb:p.1==s
      · cases hc:(bs s==bs p.1)
        · rfl
        · rw [beq_eq_false_iff_ne] at hb
          exact absurd (IJ ((MapKept.bytes_beq _ _).1 hc)).symm hb
      · rw [eq_of_beq hb]; exact (MapKept.bytes_beq _ _).2 rfl
     cases hb:p.1==s
     · obtain ⟨r,g1,g2⟩:=oH s l es (i+1) h3
       refine ⟨r,?_,?_⟩
       · simp only [Instr.findNow,hs,hb]; exact g1
       · simp only [fI,hb,cond_false]; exact g2
     · refine ⟨some (i,e.val),?_,?_⟩
       · simp only [Instr.findNow,hs,hb]
       · simp only [fI,hb,cond_true,bu,h2]
theorem qI {P:Program} {w:World} {t kt et:TypeId} {r clock:Nat} {es:Array MapEntry} {l:List (Str×Nat)} (ht:P.underlying t=some (.map kt et)) (hk:P.underlying kt=some .string) (hb:w.heap[r]?=some (.map es clock))
 (h:es.toList.map (fun e=>(e.key,e.val))=l.map fun p=>(Value.string (bs p.1),Value.func (.func p.2) #[] #[])) (s:Str) {z:Value} (hz:fI l s=none→(zeroValue et).run P w = .ok z w) :
 (Instr.lookup t (.map (some r)) (.string (bs s)) false).run P w = .ok (match fI l s with | some f=>.func (.func f) #[] #[] | none=>z) w:=by
 obtain ⟨q,h1,h2⟩:=oH s l es.toList 0 h
 have hc:∀ b,(Instr.checkKey b 10000 kt (.string (bs s))).run P w = .ok () w:=fun b=>by
  rw [show (10000:Nat)=9999+1 from rfl,Instr.checkKey]
  simp only [Sem.run_bind,run_underlying hk,Result.andThen_ok]
  rfl
 have hf:(Instr.findKey kt (.string (bs s)) es.toList).run P w = .ok q w:=by
  simp [Instr.findKey,run_underlying hk,h1,Result.andThen]
 cases hg:fI l s with
 | none =>
   rw [hg] at h2
   have hq:q=none:=by cases q with | none=>rfl | some x=>simp at h2
   subst hq
   simp [Instr.lookup,run_underlying ht,MapKept.run_getObj_map hb,hc,hf,hz hg,Result.andThen]
 | some f =>
   rw [hg] at h2
   cases q with
   | none=>simp at h2
   | some x =>
     obtain ⟨i,v⟩:=x
     simp only [bu,aa] at h2
     subst h2
     simp [Instr.lookup,run_underlying ht,MapKept.run_getObj_map hb,hc,hf,Result.andThen]
def nM (P:Program) (root:Code) (p:List Nat) (i:Nat) (st:ST):Option (Nat×Nat×Operand×TypeId) :=
 match (opsOf (sub root p))[i]? with
 | some o=>match o.guard,o.dst,o.op with
   | none,some d,.lookup ty (.tmp m) k false=>match P.underlying ty with
     | some (.map kt et)=>match P.underlying kt with
       | some .string=>bif Nat.blt d st.n then some (d,m,k,et) else none
       | _=>none
     | _=>none
   | _,_,_=>none
 | none=>none
section
variable {P:Program} {f:Go.Sy.Md} {root:Code} {Γ:Ctx} {Q:Out} {st:ST} {k:List PI}
theorem J.lookup {p:List Nat} {i d m:Nat} {kx:Operand} {et:TypeId} {l:List (Str×Nat)} {s:Str} (h:nM P root p i st=some (d,m,kx,et)) (hm:lookup st.fr m=some (.x (.c (.pd (.tbl l))))) (hs:bw st none kx=some (.c (.pd (.str s)))) {z:PD} {zv:Value} (hz:fk zv=some (.c (.pd z)))
 (hzr:fI l s=none→∀ w:World,(zeroValue et).run P w = .ok zv w)
 (hk:J P f root Γ Q (.ops p (i+1)::k) { st with fr:=bD d (.x (match fI l s with | some g=>.c (.fn (.func g) [] []) | none=>.c (.pd z))) st.fr }):J P f root Γ Q (.ops p i::k) st:=by
 unfold nM at h
 split at h
 · rename_i o ho
   split at h
   · rename_i d' ty m' k' hg hd hop
     split at h
     · rename_i kt et' hu
       split at h
       · rename_i hus
         cases hb:Nat.blt d' st.n
         · rw [hb] at h; cases h
         · rw [hb] at h
           simp only [cond_true,aa,ae] at h
           obtain ⟨rfl,rfl,rfl,rfl⟩:=h
           intro hT V a w r
           have hi:i<(opsOf (sub root p)).size:=(Array.getElem?_eq_some_iff.1 ho).1
           have hsz:(opsOf (sub root p)).size - i=((opsOf (sub root p)).size - (i+1))+1:=by omega
           simp only [av,PI.den]
           rw [hsz,bO]
           have hv:PR V.H (.tbl l) (a.tmps.getD m' undef):=r.slots m' _ (cl hm)
           have hs2:PR V.H (.str s) (a.eval k'):=aC r (g:=none) trivial hs
           have hw:Region.wanted o (yielded (opsOf (sub root p)) a.tmps)=true:=by simp only [Region.wanted,hg]
           have hput:∀ sx:SX,de st (some d') (.x sx)=some { st with fr:=bD d' (.x sx) st.fr }:=fun sx=>by simp only [de,hb,cond_true]
           have e1:a.eval (.tmp m')=a.tmps.getD m' undef:=rfl
           generalize hus2:a.tmps.getD m' undef=u at hv e1
           generalize hks:a.eval k'=ks at hs2
           cases hs2
           cases hv with
           | tbl _ b es clock hbk hes =>
             have hrun:=qI (P:=P) (w:=w) (t:=ty) (kt:=kt) (et:=et') hu hus (r.wok.imm _ _ hbk) hes s (z:=zv) (fun hn=>hzr hn w)
             have hr:(execOp a.eval o).run P w = .ok (.value (match fI l s with | some f=>.func (.func f) #[] #[] | none=>zv)) w:=by
              obtain ⟨dst,op,ty',pos,after,guard⟩:=o
              simp only at hop
              subst hop
              simp only [execOp]
              refine bg ?_
              rw [e1,hks]; exact hrun
             refine Go.Sy.Fin.op_value ho hw hr ?_
             rw [hd]
             refine hk hT V _ _ (cz r (hput _) ?_)
             cases fI l s with
             | none=>exact uT hz
             | some g=>exact ⟨[],[],rfl,.nil,.nil⟩
       · cases h
     · cases h
   · cases h
 · cases h
end
end Go.Ev
