/- An executor for function bodies of the model over data, part PY: blocks renumbered behind a call; a nil slice in a block of the call's own. Conditions: none. An executor for function bodies of the model over data, part PZ: a slice set against nil; a contract told otherwise. Conditions: none. An executor for function bodies of the model over data, part VB: a function looked up in a map that nobody writes. Conditions: each rule's own. An executor for function bodies of the model over data, part VC: a map from texts to functions, made; a function set against nil. Conditions: each rule's own. -/
import Derived.Test.YtpfidgnkokidoaaGreatDoorPX
import Derived.Lib.SliceRun
import Derived.MapKept
namespace Go.Ev
open Go.RowKit
section
variable {P:Program} {f:FuncId} {root:Code} {Γ:Ctx} {Q:Out} {st:ST} {todo:List PI}
theorem ak.renum {fn:Func} {args:List SX} {ck ck':List Chunk} {ret:SV} (hf:P.funcs[f]?=some fn) (hb:fn.body.isSome=true) (hn:Nat.ble args.length fn.ntmps=true) (hr:ud ret=true)
 (h:∀ Γ,J P f (aH fn) Γ (fun v c=>v=ret∧Rn ck.length c ck') [.code []] (cL fn.ntmps args ck)):ak P f args ck ret ck':=by
 intro w V vs hw hT hv
 refine (ko hf (lb hb) hn (Γ:=entry ck V w) rfl (h _) hw hT hv).mono fun en w' hq=>?_
 obtain ⟨v,V',r,c,rfl,⟨rfl,hc⟩,h1,h2⟩:=hq
 obtain ⟨ρ,ρ',hc⟩:=hc
 obtain ⟨V2,_,h3,_⟩:=h2.renum (m:=ck.length) (aw _) hc
 exact ⟨v,V2,rfl,xw hr h1,h3⟩
theorem J.renum (ρ ρ':Nat→Nat) {ck':List Chunk} (h:RnW ρ ρ' st.m st.ck ck') (hl:st.m≤ck'.length) (hs:∀ p∈st.fr,∀ i∈p.2.refs,ρ' (ρ i)=i)
 (hk:J P f root Γ Q todo { st with fr:=st.fr.map (fun p=>(p.1,p.2.map ρ)),ck:=ck' }):J P f root Γ Q todo st:=by
 intro hT V a w r
 obtain ⟨V2,_,h3,h4⟩:=r.wok.renum r.few.1 h
 refine hk hT V2 a w { size:=r.size,defers:=r.defers,slots:=?_,wok:=h3,few:=⟨r.few.1,hl⟩ }
 intro s sv hm
 obtain ⟨⟨s',sv'⟩,h5,h6⟩:=bo.1 hm
 simp only [ae] at h6
 obtain ⟨rfl,rfl⟩:=h6
 exact (r.slots _ _ h5).map (h4 _ (hs _ h5))
theorem J.nilCk (i k:Nat) (e:TypeId) (t:ETy) {cs:List SC} {E:TypeId} (hc:st.ck[i]?=some (.cells cs E)) (hk:cs[k]?=some (.pd (.v (.slice none 0 0)))) (hwf:st.wf=true)
 (hj:J P f root Γ Q todo { st with ck:=st.ck.set i (.cells (cs.set k (.own st.ck.length)) E)++[.own e t []] }):J P f root Γ Q todo st:=by
 intro hT V a w r
 have hwf2:iT st.ck=true:=by simp only [ST.wf,ab] at hwf; exact hwf.2
 have hwf1:=hwf
 simp only [ST.wf,ab] at hwf1
 obtain ⟨V',hag,_,_,e2,hw⟩:=r.wok.regrow hwf2 (bn r.few.1 r.few.2) none (c:=.own e t []) (v':=.slice none 0 0) (s':=0) (w':=w) (row:=none) (by simp) (World.grownBy.refl _ _) (fun V' hag hH f1 f2=>by
  refine ⟨⟨[],?_,.nil,fun b hb=>by rw [f2] at hb; simp [Value.ownBlock] at hb⟩,fun b hb=>by simp [Chunk.blk,f2,Value.ownBlock] at hb⟩
  rw [f2]; exact World.ownsRow_nil w 0 e t.size)
 have hi:i<st.ck.length:=(List.getElem?_eq_some_iff.1 hc).1
 have hck:(eU none st.ck++[Chunk.own e t []])[i]?=some (.cells cs E):=by
  show (st.ck++[Chunk.own e t []])[i]?=_
  rw [List.getElem?_append_left hi]; exact hc
 have hset:st.ck.set i (.cells (cs.set k (.own st.ck.length)) E)++[.own e t []]=(eU none st.ck++[Chunk.own e t []]).set i (.cells (cs.set k (.own st.ck.length)) E):=by
  show _=(st.ck++[Chunk.own e t []]).set i _
  rw [List.set_append_left _ _ hi]
 have hlen:i<(eU none st.ck++[Chunk.own e t []]).length:=(List.getElem?_eq_some_iff.1 hck).1
 have hget:∀ (j:Nat) (c:Chunk),((eU none st.ck++[Chunk.own e t []]).set i (.cells (cs.set k (.own st.ck.length)) E))[j]?=some c→(j=i∧c = .cells (cs.set k (.own st.ck.length)) E)∨(j≠i∧(eU none st.ck++[Chunk.own e t []])[j]?=some c):=by
  intro j c hj
  by_cases hji:i=j
  · subst hji
    rw [List.getElem?_set_self hlen] at hj
    simp only [aa] at hj
    exact .inl ⟨rfl,hj.symm⟩
  · rw [List.getElem?_set_ne hji] at hj
    exact .inr ⟨fun e=>hji e.symm,hj⟩
 have hblk:∀ (j:Nat) (c:Chunk) (b:Nat),((eU none st.ck++[Chunk.own e t []]).set i (.cells (cs.set k (.own st.ck.length)) E))[j]?=some c→c.blk V' j=some b→∃ c0,(eU none st.ck++[Chunk.own e t []])[j]?=some c0∧c0.blk V' j=some b:=by
  intro j c b hj hb
  rcases hget j c hj with ⟨rfl,rfl⟩ | ⟨_,h2⟩
  · exact ⟨_,hck,hb⟩
  · exact ⟨c,h2,hb⟩
 refine hj hT V' a w { size:=r.size,defers:=r.defers,slots:=?_,wok:=?_,few:=⟨r.few.1,?_⟩ }
 · intro s sv hm
   exact (r.slots s sv hm).agree hag (al.1 hwf1.1 _ hm)
 · show WOk Γ (st.ck.set i (.cells (cs.set k (.own st.ck.length)) E)++[.own e t []]) V' w
   rw [hset]
   refine { ext:=hw.ext,imm:=hw.imm,hle:=hw.hle,frz:=hw.frz,agr:=hw.agr,own:=?_,base:=?_,inj:=?_ }
   · intro j c hj
     rcases hget j c hj with ⟨rfl,rfl⟩ | ⟨_,h2⟩
     · obtain ⟨us,q1,q2⟩:=hw.own j _ hck
       refine ⟨us,q1,?_⟩
       obtain ⟨u,h6,h7⟩:=q2.get hk
       have hu:u = .slice none 0 0:=by
        have h8:PR V'.H (.v (.slice none 0 0)) u:=h7
        cases h8; rfl
       have h9:=q2.set (a:=SC.own st.ck.length) (b:=u) (show u=V'.ov st.ck.length by rw [hu,e2]) k
       have h10:us.set k u=us:=by
        apply List.ext_getElem?
        intro x
        rw [List.getElem?_set]
        split
        · rename_i hx; subst hx
          split
          · exact h6.symm
          · rename_i hlt; rw [List.getElem?_eq_none (by omega)]
        · rfl
       rw [h10] at h9
       exact h9
     · exact hw.own j c h2
   · intro j c b hj hb
     obtain ⟨c0,h1,h2⟩:=hblk j c b hj hb
     exact hw.base j c0 b h1 h2
   · intro x y c d b hc' hd hb hb2
     obtain ⟨c0,h1,h2⟩:=hblk x c b hc' hb
     obtain ⟨d0,g1,g2⟩:=hblk y d b hd hb2
     exact hw.inj x y c0 d0 b h1 g1 h2 g2
 · show st.m≤(st.ck.set i (.cells (cs.set k (SC.own st.ck.length)) E)++[Chunk.own e t []]).length
   rw [ag,cV]; have:=r.few.2; omega
end
end Go.Ev
namespace Go.Ev
open Go.RowKit
section
variable {P:Program} {f:FuncId} {root:Code} {Γ:Ctx} {Q:Out} {st:ST} {k:List PI}
theorem ak.ret {args:List SX} {ck ck':List Chunk} {ret ret':SV} (h:ak P f args ck ret ck') (hr:∀ (V:Vn) (v:Value),ret.R V v→ret'.R V v):ak P f args ck ret' ck':=by
 intro w V vs hw hT hv
 refine (h w V vs hw hT hv).mono fun e w' hq=>?_
 obtain ⟨v,V',rfl,h1,h2⟩:=hq
 exact ⟨v,V',rfl,hr _ _ h1,h2⟩
theorem ak.nilOwn {fn:Func} {args:List SX} {e:TypeId} {t:ETy} {l:List t.den} (hf:P.funcs[f]?=some fn) (hb:fn.body.isSome=true) (hn:Nat.ble args.length fn.ntmps=true)
 (h:∀ Γ,J P f (aH fn) Γ (fun v ck=>(v = .x (.c (.own 0))∧ck=[.own e t l])∨(l=[]∧v = .x (.c (.pd (.v (.slice none 0 0))))∧ck=[])) [.code []] (cL fn.ntmps args [])):ak P f args [] (.x (.c (.own 0))) [.own e t l]:=by
 intro w V vs hw hT hv
 refine (ko hf (lb hb) hn (Γ:=entry [] V w) rfl (h _) hw hT hv).mono fun en w' hq=>?_
 obtain ⟨v,V',r,c,rfl,hc,h1,h2⟩:=hq
 rcases hc with ⟨rfl,rfl⟩ | ⟨rfl,rfl,rfl⟩
 · exact ⟨v,V',rfl,h1,h2⟩
 · have hv:v = .slice none 0 0:=by
    have h3:PR V'.H (.v (.slice none 0 0)) v:=h1
    cases h3; rfl
   obtain ⟨V2,hag,_,_,e2,hw2⟩:=h2.regrow (ck:=[]) rfl (br _) none (c:=.own e t []) (v':=.slice none 0 0) (s':=0) (w':=w') (row:=none) (by simp) (World.grownBy.refl _ _) (fun V' hag hH f1 f2=>by
    have f3:V'.ov 0 = .slice none 0 0:=f2
    refine ⟨⟨[],?_,.nil,fun b hb=>by rw [f2] at hb; simp [Value.ownBlock] at hb⟩,fun b hb=>by simp [Chunk.blk,f3,Value.ownBlock] at hb⟩
    rw [f2]; exact World.ownsRow_nil w' 0 e t.size)
   refine ⟨v,V2,rfl,?_,hw2⟩
   show v=V2.ov 0
   rw [hv]; exact e2.symm
/-! ### blocks in another order -/
end
end Go.Ev
namespace Go.Ev
open Go.RowKit
def fT:List (Str×Nat)→Str→Option Nat
 | [],_=>none
 | p::r,s=>bif p.1==s then some p.2 else fT r s
theorem OM {a b:Str} (h:bs a=bs b):a=b:=by
 have:=congrArg (fun x:ByteArray=>x.data.toList) h
 simpa [cE] using this
theorem sn (s:Str):∀ (l:List (Str×Nat)) (es:List MapEntry) (i:Nat),es.map (fun e=>(e.key,e.val))=l.map (fun p=>(Value.string (bs p.1),Value.func (.func p.2) #[] #[])) →
 ∃ r,Instr.findNow .string (.string (bs s)) es i=some r∧r.map (·.2)=(fT l s).map fun f=>Value.func (.func f) #[] #[]
 | [],es,i,h=>by
   have:es=[]:=by simpa using h
   subst this
   exact ⟨none,rfl,rfl⟩
 | p :: l,es,i,h=>by
   cases es with
   | nil=>simp at h
   | cons e es =>
     simp only [ay,gr,ae] at h
     obtain ⟨⟨h1,h2⟩,h3⟩:=h
     have hs:Instr.sameNow .string (.string (bs s)) e.key=some (p.1==s):=by
      rw [h1]
      show some (bs s==bs p.1)=_
      congr 1
      cases hb:p.1==s
      · cases hc:(bs s==bs p.1)
        · rfl
        · rw [beq_eq_false_iff_ne] at hb
          exact absurd (OM ((MapKept.bytes_beq _ _).1 hc)).symm hb
      · rw [eq_of_beq hb]; exact (MapKept.bytes_beq _ _).2 rfl
     cases hb:p.1==s
     · obtain ⟨r,g1,g2⟩:=sn s l es (i+1) h3
       refine ⟨r,?_,?_⟩
       · simp only [Instr.findNow,hs,hb]; exact g1
       · simp only [fT,hb,cond_false]; exact g2
     · refine ⟨some (i,e.val),?_,?_⟩
       · simp only [Instr.findNow,hs,hb]
       · simp only [fT,hb,cond_true,cB,h2]
theorem wL {P:Program} {w:World} {t kt et:TypeId} {r clock:Nat} {es:Array MapEntry} {l:List (Str×Nat)} (ht:P.underlying t=some (.map kt et)) (hk:P.underlying kt=some .string) (hb:w.heap[r]?=some (.map es clock))
 (h:es.toList.map (fun e=>(e.key,e.val))=l.map fun p=>(Value.string (bs p.1),Value.func (.func p.2) #[] #[])) (s:Str) {z:Value} (hz:fT l s=none→(zeroValue et).run P w = .ok z w) :
 (Instr.lookup t (.map (some r)) (.string (bs s)) false).run P w = .ok (match fT l s with | some f=>.func (.func f) #[] #[] | none=>z) w:=by
 obtain ⟨q,h1,h2⟩:=sn s l es.toList 0 h
 have hc:∀ b,(Instr.checkKey b 10000 kt (.string (bs s))).run P w = .ok () w:=fun b=>by
  rw [show (10000:Nat)=9999+1 from rfl,Instr.checkKey]
  simp only [Sem.run_bind,run_underlying hk,Result.andThen_ok]
  rfl
 have hf:(Instr.findKey kt (.string (bs s)) es.toList).run P w = .ok q w:=by
  simp [Instr.findKey,run_underlying hk,h1,Result.andThen]
 cases hg:fT l s with
 | none =>
   rw [hg] at h2
   have hq:q=none:=by cases q with | none=>rfl | some x=>simp at h2
   subst hq
   simp [Instr.lookup,run_underlying ht,MapKept.run_getObj_map hb,hc,hf,hz hg,Result.andThen]
 | some f =>
   rw [hg] at h2
   cases q with
   | none=>simp at h2
   | some x =>
     obtain ⟨i,v⟩:=x
     simp only [cB,aa] at h2
     subst h2
     simp [Instr.lookup,run_underlying ht,MapKept.run_getObj_map hb,hc,hf,Result.andThen]
def Ds (P:Program) (root:Code) (p:List Nat) (i:Nat) (st:ST):Option (Nat×Nat×Operand×TypeId) :=
 match (opsOf (sub root p))[i]? with
 | some o=>match o.guard,o.dst,o.op with
   | none,some d,.lookup ty (.tmp m) k false=>match P.underlying ty with
     | some (.map kt et)=>match P.underlying kt with
       | some .string=>bif Nat.blt d st.n then some (d,m,k,et) else none
       | _=>none
     | _=>none
   | _,_,_=>none
 | none=>none
section
variable {P:Program} {f:FuncId} {root:Code} {Γ:Ctx} {Q:Out} {st:ST} {k:List PI}
theorem J.lookup {p:List Nat} {i d m:Nat} {kx:Operand} {et:TypeId} {l:List (Str×Nat)} {s:Str} (h:Ds P root p i st=some (d,m,kx,et)) (hm:lookup st.fr m=some (.x (.c (.pd (.tbl l))))) (hs:bR st none kx=some (.c (.pd (.str s)))) {z:PD} {zv:Value} (hz:il zv=some (.c (.pd z)))
 (hzr:fT l s=none→∀ w:World,(zeroValue et).run P w = .ok zv w)
 (hk:J P f root Γ Q (.ops p (i+1)::k) { st with fr:=ei d (.x (match fT l s with | some g=>.c (.fn (.func g) [] []) | none=>.c (.pd z))) st.fr }):J P f root Γ Q (.ops p i::k) st:=by
 unfold Ds at h
 split at h
 · rename_i o ho
   split at h
   · rename_i d' ty m' k' hg hd hop
     split at h
     · rename_i kt et' hu
       split at h
       · rename_i hus
         cases hb:Nat.blt d' st.n
         · rw [hb] at h; cases h
         · rw [hb] at h
           simp only [cond_true,aa,ae] at h
           obtain ⟨rfl,rfl,rfl,rfl⟩:=h
           intro hT V a w r
           have hi:i<(opsOf (sub root p)).size:=(Array.getElem?_eq_some_iff.1 ho).1
           have hsz:(opsOf (sub root p)).size - i=((opsOf (sub root p)).size - (i+1))+1:=by omega
           simp only [ay,PI.den]
           rw [hsz,cv]
           have hv:PR V.H (.tbl l) (a.tmps.getD m' undef):=r.slots m' _ (dE hm)
           have hs2:PR V.H (.str s) (a.eval k'):=aK r (g:=none) trivial hs
           have hw:Region.wanted o (yielded (opsOf (sub root p)) a.tmps)=true:=by simp only [Region.wanted,hg]
           have hput:∀ sx:SX,fW st (some d') (.x sx)=some { st with fr:=ei d' (.x sx) st.fr }:=fun sx=>by simp only [fW,hb,cond_true]
           have e1:a.eval (.tmp m')=a.tmps.getD m' undef:=rfl
           generalize hus2:a.tmps.getD m' undef=u at hv e1
           generalize hks:a.eval k'=ks at hs2
           cases hs2
           cases hv with
           | tbl _ b es clock hbk hes =>
             have hrun:=wL (P:=P) (w:=w) (t:=ty) (kt:=kt) (et:=et') hu hus (r.wok.imm _ _ hbk) hes s (z:=zv) (fun hn=>hzr hn w)
             have hr:(execOp a.eval o).run P w = .ok (.value (match fT l s with | some f=>.func (.func f) #[] #[] | none=>zv)) w:=by
              obtain ⟨dst,op,ty',pos,after,guard⟩:=o
              simp only at hop
              subst hop
              simp only [execOp]
              refine bM ?_
              rw [e1,hks]; exact hrun
             refine Go.Sy.Fin.op_value ho hw hr ?_
             rw [hd]
             refine hk hT V _ _ (eK r (hput _) ?_)
             cases fT l s with
             | none=>exact AD hz
             | some g=>exact ⟨[],[],rfl,.nil,.nil⟩
       · cases h
     · cases h
   · cases h
 · cases h
end
end Go.Ev
namespace Go.Ev
open Go.RowKit
/-! ### a map made and filled -/
def Lm (ty m:Nat):Option Oper→Option (ByteArray×Nat)
 | some o=>match o.guard,o.dst,o.op with
   | none,none,.insert t (.tmp m') (.const (.string s)) (.func g)=>bif Nat.beq t ty&&Nat.beq m' m then some (s,g) else none
   | _,_,_=>none
 | none=>none
def qd (ops:Array Oper) (ty m:Nat):Nat→Nat→Option (List (ByteArray×Nat))
 | 0,_=>some []
 | n+1,i=>match Lm ty m ops[i]?,qd ops ty m n (i+1) with
   | some p,some l=>some (p::l)
   | _,_=>none
def rX (s:ByteArray) (l:List (ByteArray×Nat)):Bool:=l.all fun p=>!(p.1==s)
def qb:List (ByteArray×Nat)→Bool
 | []=>true
 | p::r=>rX p.1 r&&qb r
def rL (p:ByteArray×Nat):Value×Value:=(.string p.1,.func (.func p.2) #[] #[])
theorem qX (s:ByteArray):∀ (es:List MapEntry) (l:List (ByteArray×Nat)) (i:Nat),es.map (fun e=>(e.key,e.val))=l.map rL→rX s l=true→Instr.findNow .string (.string s) es i=some none
 | [],l,i,h,_=>rfl
 | e :: es,l,i,h,hn=>by
   cases l with
   | nil=>simp at h
   | cons p l =>
     simp only [ay,gr,rL,ae] at h
     simp only [rX,aE,ab,aC] at hn
     have hs:Instr.sameNow .string (.string s) e.key=some false:=by
      rw [h.1.1]
      show some (s==p.1)=some false
      congr 1
      cases hb:(s==p.1)
      · rfl
      · have:=(MapKept.bytes_beq _ _).1 hb
        rw [this,(MapKept.bytes_beq _ _).2 rfl] at hn
        exact absurd hn.1 (by simp)
     rw [Instr.findNow,hs]
     exact qX s es l (i+1) h.2 hn.2
section
variable {P:Program} {w:World}
theorem FB {ty kt et:TypeId} {r clock:Nat} {es:Array MapEntry} {l:List (ByteArray×Nat)} {s:ByteArray} {v:Value} (ht:P.underlying ty=some (.map kt et)) (hk:P.underlying kt=some .string) (hb:w.heap[r]?=some (.map es clock)) (h:es.toList.map (fun e=>(e.key,e.val))=l.map rL) (hn:rX s l=true) :
 (Instr.mapUpdate ty (.map (some r)) (.string s) v).run P w = .ok () { w with heap:=w.heap.setIfInBounds r (.map (es.push { key:=.string s,val:=v,born:=clock }) (clock+1)) }:=by
 have hq:MapKept.IsKey .string (.string s):=trivial
 have hf:=qX s es.toList l 0 h hn
 simp [Instr.mapUpdate,run_underlying ht,MapKept.run_getObj_map hb,MapKept.run_checkKey hk hq,MapKept.run_findKey hk hf,MapKept.run_setObj_map _ hb,Result.andThen]
structure Beyond (r:Nat) (w w':World):Prop where
 os:w'.os=w.os
 tape:w'.tape=w.tape
 output:w'.output=w.output
 size:w'.heap.size=w.heap.size
 block:∀ k,k≠r→w'.heap[k]?=w.heap[k]?
theorem CX {f:FuncId} {R:Ending→World→Prop} {ops:Array Oper} {k:List Item} {a:Act} {ty m r:Nat} {kt et:TypeId} (ht:P.underlying ty=some (.map kt et)) (hk:P.underlying kt=some .string) (hm:a.tmps.getD m undef = .map (some r)) :
 ∀ (n i:Nat) (l0 l:List (ByteArray×Nat)) (es:Array MapEntry) (clock:Nat) (w:World),qd ops ty m n i=some l→w.heap[r]?=some (.map es clock)→es.toList.map (fun e=>(e.key,e.val))=l0.map rL→(∀ p∈l,rX p.1 l0=true)→qb l=true →
  (∀ w' es' clock',w'.heap[r]?=some (.map es' clock')→es'.toList.map (fun e=>(e.key,e.val))=(l0++l).map rL→Beyond r w w'→Go.Sy.Fin P f R (.inRegion ops (List.range' (i+n) (ops.size - (i+n)))::k) a w') →
  Go.Sy.Fin P f R (.inRegion ops (List.range' i (ops.size - i))::k) a w
 | 0,i,l0,l,es,clock,w,hl,hb,he,_,_,hfin=>by
   simp only [qd,aa] at hl
   subst hl
   exact hfin w es clock hb (by simpa using he) ⟨rfl,rfl,rfl,rfl,fun _ _=>rfl⟩
 | n + 1, i, l0,l,es,clock,w,hl,hb,he,hno,hap,hfin=>by
   simp only [qd] at hl
   split at hl
   · rename_i p l' hp hl'
     simp only [aa] at hl
     subst hl
     unfold Lm at hp
     split at hp
     · rename_i o ho
       split at hp
       · rename_i t m' s g hg hd hop
         cases hbq:(Nat.beq t ty&&Nat.beq m' m)
         · rw [hbq] at hp; cases hp
         · rw [hbq] at hp
           simp only [cond_true,aa] at hp
           subst hp
           simp only [ab] at hbq
           have e1:=ar hbq.1
           have e2:=ar hbq.2
           subst e1; subst e2
           have hi:i<ops.size:=(Array.getElem?_eq_some_iff.1 ho).1
           have hsz:ops.size - i=(ops.size - (i+1))+1:=by omega
           rw [hsz,cv]
           have hr:=FB (P:=P) (v:=.func (.func g) #[] #[]) ht hk hb he (hno _ az)
           have hw:Region.wanted o (yielded ops a.tmps)=true:=by simp only [Region.wanted,hg]
           have hrun:(execOp a.eval o).run P w = .ok .skip { w with heap:=w.heap.setIfInBounds r (.map (es.push { key:=.string s,val:=.func (.func g) #[] #[],born:=clock }) (clock+1)) }:=by
            obtain ⟨dst,op,ty',pos,after,guard⟩:=o
            simp only at hop
            subst hop
            have e3:a.eval (.tmp m') = .map (some r):=hm
            have e4:a.eval (.const (.string s)) = .string s:=rfl
            have e5:a.eval (.func g) = .func (.func g) #[] #[]:=rfl
            simp only [execOp,e3,e4,e5]
            simp [Sem.run_bind,hr,Result.andThen]
           refine Go.Sy.Fin.op_skip ho hw hrun ?_
           rw [hd]
           have hlt:r<w.heap.size:=(Array.getElem?_eq_some_iff.1 hb).1
           simp only [qb,ab] at hap
           refine CX ht hk hm n (i+1) (l0++[(s,g)]) l' _ (clock+1) _ hl' (by simp [hlt]; rfl) ?_ ?_ hap.2 ?_
           · simp only [Array.toList_push,cn,ay,cb,he]; rfl
           · intro p hp
             simp only [rX,aQ,aE,List.all_nil,c8,ab,aC]
             refine ⟨hno p (aD _ hp),?_⟩
             have h5:=al.1 hap.1 p hp
             simp only [aC] at h5
             cases hb2:(s==p.1)
             · rfl
             · have e6:=(MapKept.bytes_beq _ _).1 hb2
               subst e6
               rw [(MapKept.bytes_beq _ _).2 rfl] at h5; cases h5
           · intro w' es' clock' h1 h2 h3
             have:=hfin w' es' clock' h1 (by simpa using h2) ⟨h3.os,h3.tape,h3.output,by rw [h3.size]; simp,fun j hj=>by rw [h3.block j hj]; exact Array.getElem?_setIfInBounds_ne (Ne.symm hj)⟩
             rw [show i+1+n=i+(n+1) by omega]; exact this
       · cases hp
     · cases hp
   · cases hl
end
def Gu (P:Program) (root:Code) (p:List Nat) (i n:Nat) (st:ST):Option (Nat×List (ByteArray×Nat)) :=
 match (opsOf (sub root p))[i]? with
 | some o=>match o.guard,o.dst,o.op with
   | none,some d,.makeMap ty none=>match P.underlying ty with
     | some (.map kt _)=>match P.underlying kt with
       | some .string=>match qd (opsOf (sub root p)) ty d n (i+1) with
         | some l=>bif Nat.blt d st.n&&qb l&&st.wf then some (d,l) else none
         | none=>none
       | _=>none
     | _=>none
   | _,_,_=>none
 | none=>none
def keyed (l:List (ByteArray×Nat)):List (Str×Nat):=l.map fun p=>(p.1.data.toList,p.2)
theorem WOk.more {Γ:Ctx} {ck:List Chunk} {V:Vn} {w w':World} (r:WOk Γ ck V w) (hwf:iT ck=true) {o:Obj} (hf:Fr (fun _=>False) w w') (hs:w'.heap[w.heap.size]?=some o) :
 ∃ V',V'.σ=V.σ∧V'.ov=V.ov∧V'.H w.heap.size=some o∧Agree ck.length V V'∧WOk Γ ck V' w':=by
 have hold:∀ b,b<w.heap.size→w'.heap[b]?=w.heap[b]?:=fun b hb=>hf.block b hb (fun h=>h)
 have hlt:∀ k o,V.H k=some o→k<w.heap.size:=fun k o hk=>(Array.getElem?_eq_some_iff.1 (r.imm k o hk)).1
 have hle:HLe V.H fun k=>if k=w.heap.size then some o else V.H k:=fun k x hk=>by
  have:=hlt k x hk
  show (if k=w.heap.size then some o else V.H k)=some x
  rw [if_neg (by omega)]; exact hk
 have hag:Agree ck.length V ⟨fun k=>if k=w.heap.size then some o else V.H k,V.σ,V.ov⟩:=⟨hle,fun i hi=>⟨rfl,rfl⟩⟩
 have rk:=r.kept hf
 refine ⟨⟨fun k=>if k=w.heap.size then some o else V.H k,V.σ,V.ov⟩,rfl,rfl,if_pos rfl,hag,{ ext:=rk.ext,imm:=?_,hle:=r.hle.trans hle,frz:=?_,agr:=r.agr,own:=?_,base:=?_,inj:=?_ }⟩
 · intro k x hk
   have hk':(if k=w.heap.size then some o else V.H k)=some x:=hk
   split at hk'
   · rename_i e; subst e; simp only [aa] at hk'; subst hk'; exact hs
   · exact rk.imm k x hk'
 · intro k hk
   have hk':(if k=w.heap.size then some o else V.H k)≠none:=hk
   split at hk'
   · rename_i e; subst e; exact .inr (.inl r.ext.size)
   · exact r.frz k hk'
 · intro i c hc
   have hi:=jy hwf hc
   exact Chunk.holds_agree hag hi.1 hi.2 (rk.own i c hc)
 · intro i c b hc hb
   have hi:=jy hwf hc
   rw [Chunk.blk_agree hag hi.1] at hb
   refine ⟨(r.base i c b hc hb).1,?_⟩
   show (if b=w.heap.size then some o else V.H b)=none
   rw [if_neg (by have:=Chunk.blk_lt (r.own i c hc) hb; omega)]
   exact (r.base i c b hc hb).2
 · intro i j c d b hc hd hb1 hb2
   have hi:=jy hwf hc
   have hj:=jy hwf hd
   rw [Chunk.blk_agree hag hi.1] at hb1
   rw [Chunk.blk_agree hag hj.1] at hb2
   exact r.inj i j c d b hc hd hb1 hb2
section
variable {P:Program} {f:FuncId} {root:Code} {Γ:Ctx} {Q:Out} {st:ST} {k:List PI}
theorem J.makeTbl {p:List Nat} {i n d:Nat} {l:List (ByteArray×Nat)} (h:Gu P root p i n st=some (d,l))
 (hk:J P f root Γ Q (.ops p (i+1+n)::k) { st with fr:=ei d (.x (.c (.pd (.tbl (keyed l))))) st.fr }):J P f root Γ Q (.ops p i::k) st:=by
 unfold Gu at h
 split at h
 · rename_i o ho
   split at h
   · rename_i d' ty hg hd hop
     split at h
     · rename_i kt et hu
       split at h
       · rename_i hus
         split at h
         · rename_i l' hl
           cases hb:(Nat.blt d' st.n&&qb l'&&st.wf)
           · rw [hb] at h; cases h
           · rw [hb] at h
             simp only [cond_true,aa,ae] at h
             obtain ⟨rfl,rfl⟩:=h
             simp only [ab] at hb
             obtain ⟨⟨hd',hap⟩,hwf⟩:=hb
             intro hT V a w r
             have hi:i<(opsOf (sub root p)).size:=(Array.getElem?_eq_some_iff.1 ho).1
             have hsz:(opsOf (sub root p)).size - i=((opsOf (sub root p)).size - (i+1))+1:=by omega
             simp only [ay,PI.den]
             rw [hsz,cv]
             have hw:Region.wanted o (yielded (opsOf (sub root p)) a.tmps)=true:=by simp only [Region.wanted,hg]
             have hrun:(execOp a.eval o).run P w = .ok (.value (.map (some w.heap.size))) (w.alloc (.map #[] 0)):=by
              obtain ⟨dst,op,ty',pos,after,guard⟩:=o
              simp only at hop
              subst hop
              simp only [execOp]
              refine bM ?_
              simp [Instr.makeMap,Result.andThen]
             refine Go.Sy.Fin.op_value ho hw hrun ?_
             rw [hd]
             have hds:d'<a.tmps.size:=by rw [r.size]; exact aA hd'
             have hget:(a.put (some d') (.map (some w.heap.size))).tmps.getD d' undef = .map (some w.heap.size):=by
              have:=mn a.tmps d' d' (.map (some w.heap.size)) hds
              rw [if_pos rfl] at this; exact this
             have h0:=MapKept.heap_alloc w (.map #[] 0)
             refine CX hu hus hget n (i+1) [] l' #[] 0 (w.alloc (.map #[] 0)) hl h0.1 rfl (fun _ _=>rfl) hap ?_
             intro w' es clock h1 h2 h3
             have hfr:Fr (fun _=>False) w w':=⟨h3.os,h3.tape,h3.output,by rw [h3.size]; show _≤(w.heap.push _).size; simp,fun j hj _=>by rw [h3.block j (by omega)]; exact h0.2 j hj⟩
             simp only [ST.wf,ab] at hwf
             obtain ⟨V',e1,e2,e3,hag,hw'⟩:=r.wok.more hwf.2 hfr h1
             have hr2:=r.turn (by simp only [ST.wf,ab]; exact hwf) hag hw' (aw _)
             have hput:fW st (some d') (.x (.c (.pd (.tbl (keyed l')))))=some { st with fr:=ei d' (.x (.c (.pd (.tbl (keyed l'))))) st.fr }:=by simp only [fW,hd',cond_true]
             refine hk hT V' _ w' (eK hr2 hput (v:=.map (some w.heap.size)) ?_)
             show PR V'.H (.tbl (keyed l')) _
             refine .tbl _ _ es clock e3 ?_
             rw [h2]
             simp only [bN,keyed,eZ]
             refine fg fun x _=>?_
             simp only [rL,Function.comp,lh]
         · cases h
       · cases h
     · cases h
   · cases h
 · cases h
/-! ### a function set against nil -/
def Af (P:Program) (root:Code) (p:List Nat) (i:Nat) (st:ST):Option (Nat×Bool) :=
 match (opsOf (sub root p))[i]? with
 | some o=>match o.guard,o.dst,o.op with
   | none,some d,.binOp .neq ty (.tmp s) (.const .nilFunc) _=>match P.underlying ty,lookup st.fr s with
     | some (.func _ _ _),some (.x (.c (.fn _ _ _)))=>bif Nat.blt d st.n then some (d,true) else none
     | some (.func _ _ _),some (.x (.c (.pd (.v .nilFunc))))=>bif Nat.blt d st.n then some (d,false) else none
     | _,_=>none
   | _,_,_=>none
 | none=>none
theorem tv (w:World) (d:Nat) {t:TypeId} {ps rs:Array TypeId} {vd:Bool} (ht:P.underlying t=some (.func ps rs vd)) (g:Fn) (x y:Array Value):(Op.equalIn (d+1) t (.func g x y) .nilFunc).run P w = .ok false w:=by simp [Op.equalIn,run_underlying ht]
theorem pZ (w:World) (d:Nat) {t:TypeId} {ps rs:Array TypeId} {vd:Bool} (ht:P.underlying t=some (.func ps rs vd)):(Op.equalIn (d+1) t .nilFunc .nilFunc).run P w = .ok true w:=by simp [Op.equalIn,run_underlying ht]
theorem AT {w:World} {t:TypeId} {ps rs:Array TypeId} {vd:Bool} (ht:P.underlying t=some (.func ps rs vd)) (g:Fn) (x y:Array Value):(binOp .neq t (.func g x y) .nilFunc).run P w = .ok (.bool true) w:=by
 simp only [binOp]
 simp [Op.equal,Op.maxDepth,tv w 9999 ht g x y]
theorem tP {w:World} {t:TypeId} {ps rs:Array TypeId} {vd:Bool} (ht:P.underlying t=some (.func ps rs vd)):(binOp .neq t .nilFunc .nilFunc).run P w = .ok (.bool false) w:=by
 simp only [binOp]
 simp [Op.equal,Op.maxDepth,pZ w 9999 ht]
theorem J.fnNil {p:List Nat} {i d:Nat} {b:Bool} (h:Af P root p i st=some (d,b)) (hk:J P f root Γ Q (.ops p (i+1)::k) { st with fr:=ei d (.x (.b b)) st.fr }):J P f root Γ Q (.ops p i::k) st:=by
 unfold Af at h
 split at h
 · rename_i o ho
   split at h
   · rename_i d' ty s yt hg hd hop
     have fin:Nat.blt d' st.n=true→(∀ V a w,Rel Γ st V a w→(execOp a.eval o).run P w = .ok (.value (.bool b)) w)→d'=d→J P f root Γ Q (.ops p i::k) st:=by
      rintro hb hr rfl hT V a w r
      have hi:i<(opsOf (sub root p)).size:=(Array.getElem?_eq_some_iff.1 ho).1
      have hsz:(opsOf (sub root p)).size - i=((opsOf (sub root p)).size - (i+1))+1:=by omega
      simp only [ay,PI.den]
      rw [hsz,cv]
      have hw:Region.wanted o (yielded (opsOf (sub root p)) a.tmps)=true:=by simp only [Region.wanted,hg]
      have hput:fW st (some d') (.x (.b b))=some { st with fr:=ei d' (.x (.b b)) st.fr }:=by simp only [fW,hb,cond_true]
      refine Go.Sy.Fin.op_value ho hw (hr V a w r) ?_
      rw [hd]
      exact hk hT V _ _ (eK r hput (v:=.bool b) (.bool b))
     split at h
     · rename_i ps rs vd g fi ca hu hl
       cases hb:Nat.blt d' st.n
       · rw [hb] at h; cases h
       · rw [hb] at h
         simp only [cond_true,aa,ae] at h
         obtain ⟨e1,rfl⟩:=h
         refine fin hb (fun V a w r=>?_) e1
         have hv:SX.R V (.c (.fn g fi ca)) (a.tmps.getD s undef):=r.slots s _ (dE hl)
         obtain ⟨ua,ub,hu2,_,_⟩:=hv
         obtain ⟨dst,op,ty',pos,after,guard⟩:=o
         simp only at hop
         subst hop
         simp only [execOp]
         refine bM ?_
         have e2:a.eval (.tmp s) = .func g ua.toArray ub.toArray:=hu2
         have e3:a.eval (.const .nilFunc) = .nilFunc:=rfl
         rw [e2,e3]
         simp only [Sem.run_bind,iN .neq ty (.tmp s) (.const .nilFunc) (a:=.func g ua.toArray ub.toArray) (b:=.nilFunc) ⟨fun _ e=>(by cases e),(by intro e; cases e)⟩,Result.andThen_ok]
         exact AT hu g _ _
     · rename_i ps rs vd hu hl
       cases hb:Nat.blt d' st.n
       · rw [hb] at h; cases h
       · rw [hb] at h
         simp only [cond_true,aa,ae] at h
         obtain ⟨e1,rfl⟩:=h
         refine fin hb (fun V a w r=>?_) e1
         have hv:PR V.H (.v .nilFunc) (a.tmps.getD s undef):=r.slots s _ (dE hl)
         generalize hus:a.tmps.getD s undef=u at hv
         cases hv
         obtain ⟨dst,op,ty',pos,after,guard⟩:=o
         simp only at hop
         subst hop
         simp only [execOp]
         refine bM ?_
         have e2:a.eval (.tmp s) = .nilFunc:=hus
         have e3:a.eval (.const .nilFunc) = .nilFunc:=rfl
         rw [e2,e3]
         simp only [Sem.run_bind,iN .neq ty (.tmp s) (.const .nilFunc) (a:=.nilFunc) (b:=.nilFunc) ⟨fun _ e=>(by cases e),(by intro e; cases e)⟩,Result.andThen_ok]
         exact tP hu
     · cases h
   · cases h
 · cases h
end
/-! ### blocks that nobody reads any more -/
theorem WOk.lost {Γ:Ctx} {ck:List Chunk} {V:Vn} {w:World} (r:WOk Γ ck V w) (n:Nat):WOk Γ (List.replicate n .dead) V w:=by
 have hd:∀ (i:Nat) (c:Chunk),(List.replicate n Chunk.dead)[i]?=some c→c = .dead:=fun i c hc=>by
  rw [List.getElem?_replicate] at hc
  split at hc
  · exact (au hc).symm
  · cases hc
 refine { ext:=r.ext,imm:=r.imm,hle:=r.hle,frz:=r.frz,agr:=r.agr,own:=?_,base:=?_,inj:=?_ }
 · intro i c hc; rw [hd i c hc]; trivial
 · intro i c b hc hb; rw [hd i c hc] at hb; cases hb
 · intro i j c d b hc _ hb _; rw [hd i c hc] at hb; cases hb
theorem ak.lost {P:Program} {f:FuncId} {fn:Func} {args:List SX} {ck:List Chunk} {ret:SV} (n:Nat) (hf:P.funcs[f]?=some fn) (hb:fn.body.isSome=true) (hn:Nat.ble args.length fn.ntmps=true) (hr:ud ret=true)
 (h:∀ Γ,J P f (aH fn) Γ (fun v _=>v=ret) [.code []] (cL fn.ntmps args ck)):ak P f args ck ret (List.replicate n .dead):=by
 intro w V vs hw hT hv
 refine (ko hf (lb hb) hn (Γ:=entry ck V w) rfl (h _) hw hT hv).mono fun e w' hq=>?_
 obtain ⟨v,V',r,c,rfl,rfl,h1,h2⟩:=hq
 exact ⟨v,V',rfl,h1,h2.lost n⟩
end Go.Ev
