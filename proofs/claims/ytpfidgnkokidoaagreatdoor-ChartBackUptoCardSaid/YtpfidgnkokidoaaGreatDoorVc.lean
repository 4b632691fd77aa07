/- An executor for function bodies of the model over data, part VC: a map from texts to functions, made; a function set against nil. Conditions: each rule's own. -/
import Derived.Test.YtpfidgnkokidoaaGreatDoorVb
namespace Go.Ev
open Go.RowKit
/-! ### a map made and filled -/
def LH (ty m:Nat):Option Oper→Option (ByteArray×Nat)
 | some o=>match o.guard,o.dst,o.op with
   | none,none,.insert t (.tmp m') (.const (.string s)) (.func g)=>bif Nat.beq t ty&&Nat.beq m' m then some (s,g) else none
   | _,_,_=>none
 | none=>none
def rF (ops:Array Oper) (ty m:Nat):Nat→Nat→Option (List (ByteArray×Nat))
 | 0,_=>some []
 | n+1,i=>match LH ty m ops[i]?,rF ops ty m n (i+1) with
   | some p,some l=>some (p::l)
   | _,_=>none
def rU (s:ByteArray) (l:List (ByteArray×Nat)):Bool:=l.all fun p=>!(p.1==s)
def qZ:List (ByteArray×Nat)→Bool
 | []=>true
 | p::r=>rU p.1 r&&qZ r
def rW (p:ByteArray×Nat):Value×Value:=(.string p.1,.func (.func p.2) #[] #[])
theorem rv (s:ByteArray):∀ (es:List MapEntry) (l:List (ByteArray×Nat)) (i:Nat),es.map (fun e=>(e.key,e.val))=l.map rW→rU s l=true→Instr.findNow .string (.string s) es i=some none
 | [],l,i,h,_=>rfl
 | e :: es,l,i,h,hn=>by
   cases l with
   | nil=>simp at h
   | cons p l =>
     simp only [aw,List.cons.injEq,rW,ae] at h
     simp only [rU,aF,ab,aD] at hn
     have hs:Instr.sameNow .string (.string s) e.key=some false:=by
      rw [h.1.1]
      show some (s==p.1)=some false
      congr 1
      cases hb:(s==p.1)
      · rfl
      · have:=(MapKept.bytes_beq _ _).1 hb
        rw [this,(MapKept.bytes_beq _ _).2 rfl] at hn
        exact absurd hn.1 (by simp)
     rw [Instr.findNow,hs]
     exact rv s es l (i+1) h.2 hn.2
section
variable {P:Program} {w:World}
theorem F4 {ty kt et:TypeId} {r clock:Nat} {es:Array MapEntry} {l:List (ByteArray×Nat)} {s:ByteArray} {v:Value} (ht:P.underlying ty=some (.map kt et)) (hk:P.underlying kt=some .string) (hb:w.heap[r]?=some (.map es clock)) (h:es.toList.map (fun e=>(e.key,e.val))=l.map rW) (hn:rU s l=true) :
 (Instr.mapUpdate ty (.map (some r)) (.string s) v).run P w = .ok () { w with heap:=w.heap.setIfInBounds r (.map (es.push { key:=.string s,val:=v,born:=clock }) (clock+1)) }:=by
 have hq:MapKept.IsKey .string (.string s):=trivial
 have hf:=rv s es.toList l 0 h hn
 simp [Instr.mapUpdate,run_underlying ht,MapKept.run_getObj_map hb,MapKept.run_checkKey hk hq,MapKept.run_findKey hk hf,MapKept.run_setObj_map _ hb,Result.andThen]
structure Beyond (r:Nat) (w w':World):Prop where
 os:w'.os=w.os
 tape:w'.tape=w.tape
 output:w'.output=w.output
 size:w'.heap.size=w.heap.size
 block:∀ k,k≠r→w'.heap[k]?=w.heap[k]?
theorem C3 {f:FuncId} {R:Ending→World→Prop} {ops:Array Oper} {k:List Item} {a:Act} {ty m r:Nat} {kt et:TypeId} (ht:P.underlying ty=some (.map kt et)) (hk:P.underlying kt=some .string) (hm:a.tmps.getD m undef = .map (some r)) :
 ∀ (n i:Nat) (l0 l:List (ByteArray×Nat)) (es:Array MapEntry) (clock:Nat) (w:World),rF ops ty m n i=some l→w.heap[r]?=some (.map es clock)→es.toList.map (fun e=>(e.key,e.val))=l0.map rW→(∀ p∈l,rU p.1 l0=true)→qZ l=true →
  (∀ w' es' clock',w'.heap[r]?=some (.map es' clock')→es'.toList.map (fun e=>(e.key,e.val))=(l0++l).map rW→Beyond r w w'→Go.Sy.Fin P f R (.inRegion ops (List.range' (i+n) (ops.size - (i+n)))::k) a w') →
  Go.Sy.Fin P f R (.inRegion ops (List.range' i (ops.size - i))::k) a w
 | 0,i,l0,l,es,clock,w,hl,hb,he,_,_,hfin=>by
   simp only [rF,aa] at hl
   subst hl
   exact hfin w es clock hb (by simpa using he) ⟨rfl,rfl,rfl,rfl,fun _ _=>rfl⟩
 | n + 1, i, l0,l,es,clock,w,hl,hb,he,hno,hap,hfin=>by
   simp only [rF] at hl
   split at hl
   · rename_i p l' hp hl'
     simp only [aa] at hl
     subst hl
     unfold LH at hp
     split at hp
     · rename_i o ho
       split at hp
       · rename_i t m' s g hg hd hop
         cases hbq:(Nat.beq t ty&&Nat.beq m' m)
         · rw [hbq] at hp; cases hp
         · rw [hbq] at hp
           simp only [cond_true,aa] at hp
           subst hp
           simp only [ab] at hbq
           have e1:=aq hbq.1
           have e2:=aq hbq.2
           subst e1; subst e2
           have hi:i<ops.size:=(Array.getElem?_eq_some_iff.1 ho).1
           have hsz:ops.size - i=(ops.size - (i+1))+1:=by omega
           rw [hsz,cw]
           have hr:=F4 (P:=P) (v:=.func (.func g) #[] #[]) ht hk hb he (hno _ aA)
           have hw:Region.wanted o (yielded ops a.tmps)=true:=by simp only [Region.wanted,hg]
           have hrun:(execOp a.eval o).run P w = .ok .skip { w with heap:=w.heap.setIfInBounds r (.map (es.push { key:=.string s,val:=.func (.func g) #[] #[],born:=clock }) (clock+1)) }:=by
            obtain ⟨dst,op,ty',pos,after,guard⟩:=o
            simp only at hop
            subst hop
            have e3:a.eval (.tmp m') = .map (some r):=hm
            have e4:a.eval (.const (.string s)) = .string s:=rfl
            have e5:a.eval (.func g) = .func (.func g) #[] #[]:=rfl
            simp only [execOp,e3,e4,e5]
            simp [Sem.run_bind,hr,Result.andThen]
           refine Go.Sy.Fin.op_skip ho hw hrun ?_
           rw [hd]
           have hlt:r<w.heap.size:=(Array.getElem?_eq_some_iff.1 hb).1
           simp only [qZ,ab] at hap
           refine C3 ht hk hm n (i+1) (l0++[(s,g)]) l' _ (clock+1) _ hl' (by simp [hlt]; rfl) ?_ ?_ hap.2 ?_
           · simp only [Array.toList_push,cm,aw,bI,he]; rfl
           · intro p hp
             simp only [rU,aR,aF,List.all_nil,c8,ab,aD]
             refine ⟨hno p (aE _ hp),?_⟩
             have h5:=al.1 hap.1 p hp
             simp only [aD] at h5
             cases hb2:(s==p.1)
             · rfl
             · have e6:=(MapKept.bytes_beq _ _).1 hb2
               subst e6
               rw [(MapKept.bytes_beq _ _).2 rfl] at h5; cases h5
           · intro w' es' clock' h1 h2 h3
             have:=hfin w' es' clock' h1 (by simpa using h2) ⟨h3.os,h3.tape,h3.output,by rw [h3.size]; simp,fun j hj=>by rw [h3.block j hj]; exact Array.getElem?_setIfInBounds_ne (Ne.symm hj)⟩
             rw [show i+1+n=i+(n+1) by omega]; exact this
       · cases hp
     · cases hp
   · cases hl
end
def H7 (P:Program) (root:Code) (p:List Nat) (i n:Nat) (st:ST):Option (Nat×List (ByteArray×Nat)) :=
 match (opsOf (sub root p))[i]? with
 | some o=>match o.guard,o.dst,o.op with
   | none,some d,.makeMap ty none=>match P.underlying ty with
     | some (.map kt _)=>match P.underlying kt with
       | some .string=>match rF (opsOf (sub root p)) ty d n (i+1) with
         | some l=>bif Nat.blt d st.n&&qZ l&&st.wf then some (d,l) else none
         | none=>none
       | _=>none
     | _=>none
   | _,_,_=>none
 | none=>none
def keyed (l:List (ByteArray×Nat)):List (Str×Nat):=l.map fun p=>(p.1.data.toList,p.2)
theorem WOk.more {Γ:Ctx} {ck:List Chunk} {V:Vn} {w w':World} (r:WOk Γ ck V w) (hwf:iY ck=true) {o:Obj} (hf:Fr (fun _=>False) w w') (hs:w'.heap[w.heap.size]?=some o) :
 ∃ V',V'.σ=V.σ∧V'.ov=V.ov∧V'.H w.heap.size=some o∧Agree ck.length V V'∧WOk Γ ck V' w':=by
 have hold:∀ b,b<w.heap.size→w'.heap[b]?=w.heap[b]?:=fun b hb=>hf.block b hb (fun h=>h)
 have hlt:∀ k o,V.H k=some o→k<w.heap.size:=fun k o hk=>(Array.getElem?_eq_some_iff.1 (r.imm k o hk)).1
 have hle:HLe V.H fun k=>if k=w.heap.size then some o else V.H k:=fun k x hk=>by
  have:=hlt k x hk
  show (if k=w.heap.size then some o else V.H k)=some x
  rw [if_neg (by omega)]; exact hk
 have hag:Agree ck.length V ⟨fun k=>if k=w.heap.size then some o else V.H k,V.σ,V.ov⟩:=⟨hle,fun i hi=>⟨rfl,rfl⟩⟩
 have rk:=r.kept hf
 refine ⟨⟨fun k=>if k=w.heap.size then some o else V.H k,V.σ,V.ov⟩,rfl,rfl,if_pos rfl,hag,{ ext:=rk.ext,imm:=?_,hle:=r.hle.trans hle,frz:=?_,agr:=r.agr,own:=?_,base:=?_,inj:=?_ }⟩
 · intro k x hk
   have hk':(if k=w.heap.size then some o else V.H k)=some x:=hk
   split at hk'
   · rename_i e; subst e; simp only [aa] at hk'; subst hk'; exact hs
   · exact rk.imm k x hk'
 · intro k hk
   have hk':(if k=w.heap.size then some o else V.H k)≠none:=hk
   split at hk'
   · rename_i e; subst e; exact .inr (.inl r.ext.size)
   · exact r.frz k hk'
 · intro i c hc
   have hi:=jy hwf hc
   exact Chunk.holds_agree hag hi.1 hi.2 (rk.own i c hc)
 · intro i c b hc hb
   have hi:=jy hwf hc
   rw [Chunk.blk_agree hag hi.1] at hb
   refine ⟨(r.base i c b hc hb).1,?_⟩
   show (if b=w.heap.size then some o else V.H b)=none
   rw [if_neg (by have:=Chunk.blk_lt (r.own i c hc) hb; omega)]
   exact (r.base i c b hc hb).2
 · intro i j c d b hc hd hb1 hb2
   have hi:=jy hwf hc
   have hj:=jy hwf hd
   rw [Chunk.blk_agree hag hi.1] at hb1
   rw [Chunk.blk_agree hag hj.1] at hb2
   exact r.inj i j c d b hc hd hb1 hb2
section
variable {P:Program} {f:FuncId} {root:Code} {Γ:Ctx} {Q:Out} {st:ST} {k:List PI}
theorem J.makeTbl {p:List Nat} {i n d:Nat} {l:List (ByteArray×Nat)} (h:H7 P root p i n st=some (d,l))
 (hk:J P f root Γ Q (.ops p (i+1+n)::k) { st with fr:=ej d (.x (.c (.pd (.tbl (keyed l))))) st.fr }):J P f root Γ Q (.ops p i::k) st:=by
 unfold H7 at h
 split at h
 · rename_i o ho
   split at h
   · rename_i d' ty hg hd hop
     split at h
     · rename_i kt et hu
       split at h
       · rename_i hus
         split at h
         · rename_i l' hl
           cases hb:(Nat.blt d' st.n&&qZ l'&&st.wf)
           · rw [hb] at h; cases h
           · rw [hb] at h
             simp only [cond_true,aa,ae] at h
             obtain ⟨rfl,rfl⟩:=h
             simp only [ab] at hb
             obtain ⟨⟨hd',hap⟩,hwf⟩:=hb
             intro hT V a w r
             have hi:i<(opsOf (sub root p)).size:=(Array.getElem?_eq_some_iff.1 ho).1
             have hsz:(opsOf (sub root p)).size - i=((opsOf (sub root p)).size - (i+1))+1:=by omega
             simp only [aw,PI.den]
             rw [hsz,cw]
             have hw:Region.wanted o (yielded (opsOf (sub root p)) a.tmps)=true:=by simp only [Region.wanted,hg]
             have hrun:(execOp a.eval o).run P w = .ok (.value (.map (some w.heap.size))) (w.alloc (.map #[] 0)):=by
              obtain ⟨dst,op,ty',pos,after,guard⟩:=o
              simp only at hop
              subst hop
              simp only [execOp]
              refine bO ?_
              simp [Instr.makeMap,Result.andThen]
             refine Go.Sy.Fin.op_value ho hw hrun ?_
             rw [hd]
             have hds:d'<a.tmps.size:=by rw [r.size]; exact aB hd'
             have hget:(a.put (some d') (.map (some w.heap.size))).tmps.getD d' undef = .map (some w.heap.size):=by
              have:=mW a.tmps d' d' (.map (some w.heap.size)) hds
              rw [if_pos rfl] at this; exact this
             have h0:=MapKept.heap_alloc w (.map #[] 0)
             refine C3 hu hus hget n (i+1) [] l' #[] 0 (w.alloc (.map #[] 0)) hl h0.1 rfl (fun _ _=>rfl) hap ?_
             intro w' es clock h1 h2 h3
             have hfr:Fr (fun _=>False) w w':=⟨h3.os,h3.tape,h3.output,by rw [h3.size]; show _≤(w.heap.push _).size; simp,fun j hj _=>by rw [h3.block j (by omega)]; exact h0.2 j hj⟩
             simp only [ST.wf,ab] at hwf
             obtain ⟨V',e1,e2,e3,hag,hw'⟩:=r.wok.more hwf.2 hfr h1
             have hr2:=r.turn (by simp only [ST.wf,ab]; exact hwf) hag hw' (av _)
             have hput:fZ st (some d') (.x (.c (.pd (.tbl (keyed l')))))=some { st with fr:=ej d' (.x (.c (.pd (.tbl (keyed l'))))) st.fr }:=by simp only [fZ,hd',cond_true]
             refine hk hT V' _ w' (eM hr2 hput (v:=.map (some w.heap.size)) ?_)
             show PR V'.H (.tbl (keyed l')) _
             refine .tbl _ _ es clock e3 ?_
             rw [h2]
             simp only [bP,keyed,eZ]
             refine fh fun x _=>?_
             simp only [rW,Function.comp,ll]
         · cases h
       · cases h
     · cases h
   · cases h
 · cases h
/-! ### a function set against nil -/
def Bg (P:Program) (root:Code) (p:List Nat) (i:Nat) (st:ST):Option (Nat×Bool) :=
 match (opsOf (sub root p))[i]? with
 | some o=>match o.guard,o.dst,o.op with
   | none,some d,.binOp .neq ty (.tmp s) (.const .nilFunc) _=>match P.underlying ty,lookup st.fr s with
     | some (.func _ _ _),some (.x (.c (.fn _ _ _)))=>bif Nat.blt d st.n then some (d,true) else none
     | some (.func _ _ _),some (.x (.c (.pd (.v .nilFunc))))=>bif Nat.blt d st.n then some (d,false) else none
     | _,_=>none
   | _,_,_=>none
 | none=>none
theorem tn (w:World) (d:Nat) {t:TypeId} {ps rs:Array TypeId} {vd:Bool} (ht:P.underlying t=some (.func ps rs vd)) (g:Fn) (x y:Array Value):(Op.equalIn (d+1) t (.func g x y) .nilFunc).run P w = .ok false w:=by simp [Op.equalIn,run_underlying ht]
theorem qc (w:World) (d:Nat) {t:TypeId} {ps rs:Array TypeId} {vd:Bool} (ht:P.underlying t=some (.func ps rs vd)):(Op.equalIn (d+1) t .nilFunc .nilFunc).run P w = .ok true w:=by simp [Op.equalIn,run_underlying ht]
theorem BR {w:World} {t:TypeId} {ps rs:Array TypeId} {vd:Bool} (ht:P.underlying t=some (.func ps rs vd)) (g:Fn) (x y:Array Value):(binOp .neq t (.func g x y) .nilFunc).run P w = .ok (.bool true) w:=by
 simp only [binOp]
 simp [Op.equal,Op.maxDepth,tn w 9999 ht g x y]
theorem vc {w:World} {t:TypeId} {ps rs:Array TypeId} {vd:Bool} (ht:P.underlying t=some (.func ps rs vd)):(binOp .neq t .nilFunc .nilFunc).run P w = .ok (.bool false) w:=by
 simp only [binOp]
 simp [Op.equal,Op.maxDepth,qc w 9999 ht]
theorem J.fnNil {p:List Nat} {i d:Nat} {b:Bool} (h:Bg P root p i st=some (d,b)) (hk:J P f root Γ Q (.ops p (i+1)::k) { st with fr:=ej d (.x (.b b)) st.fr }):J P f root Γ Q (.ops p i::k) st:=by
 unfold Bg at h
 split at h
 · rename_i o ho
   split at h
   · rename_i d' ty s yt hg hd hop
     have fin:Nat.blt d' st.n=true→(∀ V a w,Rel Γ st V a w→(execOp a.eval o).run P w = .ok (.value (.bool b)) w)→d'=d→J P f root Γ Q (.ops p i::k) st:=by
      rintro hb hr rfl hT V a w r
      have hi:i<(opsOf (sub root p)).size:=(Array.getElem?_eq_some_iff.1 ho).1
      have hsz:(opsOf (sub root p)).size - i=((opsOf (sub root p)).size - (i+1))+1:=by omega
      simp only [aw,PI.den]
      rw [hsz,cw]
      have hw:Region.wanted o (yielded (opsOf (sub root p)) a.tmps)=true:=by simp only [Region.wanted,hg]
      have hput:fZ st (some d') (.x (.b b))=some { st with fr:=ej d' (.x (.b b)) st.fr }:=by simp only [fZ,hb,cond_true]
      refine Go.Sy.Fin.op_value ho hw (hr V a w r) ?_
      rw [hd]
      exact hk hT V _ _ (eM r hput (v:=.bool b) (.bool b))
     split at h
     · rename_i ps rs vd g fi ca hu hl
       cases hb:Nat.blt d' st.n
       · rw [hb] at h; cases h
       · rw [hb] at h
         simp only [cond_true,aa,ae] at h
         obtain ⟨e1,rfl⟩:=h
         refine fin hb (fun V a w r=>?_) e1
         have hv:SX.R V (.c (.fn g fi ca)) (a.tmps.getD s undef):=r.slots s _ (dF hl)
         obtain ⟨ua,ub,hu2,_,_⟩:=hv
         obtain ⟨dst,op,ty',pos,after,guard⟩:=o
         simp only at hop
         subst hop
         simp only [execOp]
         refine bO ?_
         have e2:a.eval (.tmp s) = .func g ua.toArray ub.toArray:=hu2
         have e3:a.eval (.const .nilFunc) = .nilFunc:=rfl
         rw [e2,e3]
         simp only [Sem.run_bind,iS .neq ty (.tmp s) (.const .nilFunc) (a:=.func g ua.toArray ub.toArray) (b:=.nilFunc) ⟨fun _ e=>(by cases e),(by intro e; cases e)⟩,Result.andThen_ok]
         exact BR hu g _ _
     · rename_i ps rs vd hu hl
       cases hb:Nat.blt d' st.n
       · rw [hb] at h; cases h
       · rw [hb] at h
         simp only [cond_true,aa,ae] at h
         obtain ⟨e1,rfl⟩:=h
         refine fin hb (fun V a w r=>?_) e1
         have hv:PR V.H (.v .nilFunc) (a.tmps.getD s undef):=r.slots s _ (dF hl)
         generalize hus:a.tmps.getD s undef=u at hv
         cases hv
         obtain ⟨dst,op,ty',pos,after,guard⟩:=o
         simp only at hop
         subst hop
         simp only [execOp]
         refine bO ?_
         have e2:a.eval (.tmp s) = .nilFunc:=hus
         have e3:a.eval (.const .nilFunc) = .nilFunc:=rfl
         rw [e2,e3]
         simp only [Sem.run_bind,iS .neq ty (.tmp s) (.const .nilFunc) (a:=.nilFunc) (b:=.nilFunc) ⟨fun _ e=>(by cases e),(by intro e; cases e)⟩,Result.andThen_ok]
         exact vc hu
     · cases h
   · cases h
 · cases h
end
/-! ### blocks that nobody reads any more -/
theorem WOk.lost {Γ:Ctx} {ck:List Chunk} {V:Vn} {w:World} (r:WOk Γ ck V w) (n:Nat):WOk Γ (List.replicate n .dead) V w:=by
 have hd:∀ (i:Nat) (c:Chunk),(List.replicate n Chunk.dead)[i]?=some c→c = .dead:=fun i c hc=>by
  rw [List.getElem?_replicate] at hc
  split at hc
  · exact (ar hc).symm
  · cases hc
 refine { ext:=r.ext,imm:=r.imm,hle:=r.hle,frz:=r.frz,agr:=r.agr,own:=?_,base:=?_,inj:=?_ }
 · intro i c hc; rw [hd i c hc]; trivial
 · intro i c b hc hb; rw [hd i c hc] at hb; cases hb
 · intro i j c d b hc _ hb _; rw [hd i c hc] at hb; cases hb
theorem ak.lost {P:Program} {f:FuncId} {fn:Func} {args:List SX} {ck:List Chunk} {ret:SV} (n:Nat) (hf:P.funcs[f]?=some fn) (hb:fn.body.isSome=true) (hn:Nat.ble args.length fn.ntmps=true) (hr:ur ret=true)
 (h:∀ Γ,J P f (aI fn) Γ (fun v _=>v=ret) [.code []] (cN fn.ntmps args ck)):ak P f args ck ret (List.replicate n .dead):=by
 intro w V vs hw hT hv
 refine (kE hf (lF hb) hn (Γ:=entry ck V w) rfl (h _) hw hT hv).mono fun e w' hq=>?_
 obtain ⟨v,V',r,c,rfl,rfl,h1,h2⟩:=hq
 exact ⟨v,V',rfl,h1,h2.lost n⟩
end Go.Ev
