/- An executor for function bodies of the model over data, part VC: a map from texts to functions, made; a function set against nil. Conditions: each rule's own. An executor for function bodies of the model over data, part VD: a pointer set against nil. Conditions: each rule's own. An executor for function bodies of the model over data, part VE: calls whose truths are all written out, run to their end. Conditions: those that the run tells. -/
import Derived.Test.YtlhgnjmdopjpeaaGreatDoorVb
namespace Go.Ev
open Go.RowKit
/-! ### a map made and filled -/
def OP(ty m:Nat):Option Oper→Option (ByteArray×Nat)
 | some o=>match o.guard,o.dst,o.op with
   |none,none,.insert t (.tmp m') (.const (.string s)) (.func g)=>bif Nat.beq t ty&&Nat.beq m' m then some (s,g)else none
   |_,_,_=>none
 |none=>none
def qP(ops:Array Oper)(ty m:Nat):Nat→Nat→Option (List (ByteArray×Nat))
 |0,_=>some []
 | n+1,i=>match OP ty m ops[i]?,qP ops ty m n (i+1)with
   |some p,some l=>some (p::l)
   |_,_=>none
def si(s:ByteArray)(l:List (ByteArray×Nat)):Bool:=l.all fun p=>!(p.1==s)
def pY:List (ByteArray×Nat)→Bool
 |[]=>true
 |p::r=>si p.1 r&&pY r
def r8(p:ByteArray×Nat):Value×Value:=(.string p.1,.func (.func p.2) #[] #[])
theorem qF (s:ByteArray):∀(es:List MapEntry) (l:List (ByteArray×Nat)) (i:Nat),es.map (fun e=>(e.key,e.val))=l.map r8→si s l=true→Instr.findNow .string (.string s) es i=some none
 |[],l,i,h,_=>rfl
 | e :: es,l,i,h,hn=>by
   cases l with
   |nil=>simp at h
   | cons p l =>
     simp only[aq,List.cons.injEq,r8,ae]at h
     simp only[si,eH,af,aK]at hn
     have hs:Instr.sameNow .string (.string s) e.key=some false:=by
      rw[h.1.1]
      show some (s==p.1)=some false
      congr 1
      cases hb:(s==p.1)
      ·rfl
      · have:=(MapKept.bytes_beq _ _).1 hb
        rw[this,(MapKept.bytes_beq _ _).2 rfl]at hn
        exact absurd hn.1 (by simp)
     rw[Instr.findNow,hs]
     exact qF s es l (i+1) h.2 hn.2
section
variable{P:Program}{w:World}
theorem Hi{ty kt et:TypeId}{r clock:Nat}{es:Array MapEntry}{l:List (ByteArray×Nat)}{s:ByteArray}{v:Value}(ht:P.underlying ty=some (.map kt et))(hk:P.underlying kt=some .string)(hb:w.heap[r]?=some (.map es clock))(h:es.toList.map (fun e=>(e.key,e.val))=l.map r8)(hn:si s l=true) :
 (Instr.mapUpdate ty (.map (some r)) (.string s) v).run P w = .ok () {w with heap:=w.heap.setIfInBounds r (.map (es.push {key:=.string s,val:=v,born:=clock}) (clock+1))}:=by
 have hq:MapKept.IsKey .string (.string s):=trivial
 have hf:=qF s es.toList l 0 h hn
 simp[Instr.mapUpdate,run_underlying ht,MapKept.run_getObj_map hb,MapKept.run_checkKey hk hq,MapKept.run_findKey hk hf,MapKept.run_setObj_map _ hb,Result.andThen]
structure Beyond (r:Nat) (w w':World):Prop where
 os:w'.os=w.os
 tape:w'.tape=w.tape
 output:w'.output=w.output
 size:w'.heap.size=w.heap.size
 block:∀k,k≠r→w'.heap[k]?=w.heap[k]?
theorem EA{f:Go.Sy.Md}{R:Ending→World→Prop}{ops:Array Oper}{k:List Item}{a:Act}{ty m r:Nat}{kt et:TypeId}(ht:P.underlying ty=some (.map kt et))(hk:P.underlying kt=some .string)(hm:a.tmps.getD m undef = .map (some r)) :
 ∀(n i:Nat) (l0 l:List (ByteArray×Nat)) (es:Array MapEntry) (clock:Nat) (w:World),qP ops ty m n i=some l→w.heap[r]?=some (.map es clock)→es.toList.map (fun e=>(e.key,e.val))=l0.map r8→(∀p∈l,si p.1 l0=true)→pY l=true →
  (∀w' es' clock',w'.heap[r]?=some (.map es' clock')→es'.toList.map (fun e=>(e.key,e.val))=(l0++l).map r8→Beyond r w w'→Go.Sy.Fin P f R (.inRegion ops (List.range' (i+n) (ops.size - (i+n)))::k) a w') →
  Go.Sy.Fin P f R (.inRegion ops (List.range' i (ops.size - i))::k) a w
 | 0,i,l0,l,es,clock,w,hl,hb,he,_,_,hfin=>by
   simp only[qP,aa]at hl
   subst hl
   exact hfin w es clock hb (by simpa using he) ⟨rfl,rfl,rfl,rfl,fun _ _=>rfl⟩
 | n + 1, i, l0,l,es,clock,w,hl,hb,he,hno,hap,hfin=>by
   simp only[qP]at hl
   split at hl
   · rename_i p l' hp hl'
     simp only[aa]at hl
     subst hl
     unfold OP at hp
     split at hp
     · rename_i o ho
       split at hp
       · rename_i t m' s g hg hd hop
         cases hbq:(Nat.beq t ty&&Nat.beq m' m)
         ·rw[hbq]at hp;cases hp
         · rw [hbq]at hp
           simp only[cond_true,aa]at hp
           subst hp
           simp only[af]at hbq
           have e1:=ak hbq.1
           have e2:=ak hbq.2
           subst e1;subst e2
           have hi:i<ops.size:=(Array.getElem?_eq_some_iff.1 ho).1
           have hsz:ops.size - i=(ops.size - (i+1))+1:=by omega
           rw[hsz,bG]
           have hr:=Hi (P:=P) (v:=.func (.func g) #[] #[]) ht hk hb he (hno _ az)
           have hw:Region.wanted o (yielded ops a.tmps)=true:=by simp only[Region.wanted,hg]
           have hrun:(execOp a.eval o).run P w = .ok .skip {w with heap:=w.heap.setIfInBounds r (.map (es.push {key:=.string s,val:=.func (.func g) #[] #[],born:=clock}) (clock+1))}:=by
            obtain⟨dst,op,ty',pos,after,guard⟩:=o
            simp only at hop
            subst hop
            have e3:a.eval (.tmp m') = .map (some r):=hm
            have e4:a.eval (.const (.string s)) = .string s:=rfl
            have e5:a.eval (.func g) = .func (.func g) #[] #[]:=rfl
            simp only[execOp,e3,e4,e5]
            simp[Sem.run_bind,hr,Result.andThen]
           refine Go.Sy.Fin.op_skip ho hw hrun ?_
           rw[hd]
           have hlt:r<w.heap.size:=(Array.getElem?_eq_some_iff.1 hb).1
           simp only[pY,af]at hap
           refine EA ht hk hm n (i+1) (l0++[(s,g)]) l' _ (clock+1) _ hl' (by simp[hlt];rfl) ?_ ?_ hap.2 ?_
           ·simp only[Array.toList_push,bC,aq,cb,he];rfl
           · intro p hp
             simp only[si,bz,eH,List.all_nil,dF,af,aK]
             refine⟨hno p (aD _ hp),?_⟩
             have h5:=an.1 hap.1 p hp
             simp only[aK]at h5
             cases hb2:(s==p.1)
             ·rfl
             · have e6:=(MapKept.bytes_beq _ _).1 hb2
               subst e6
               rw[(MapKept.bytes_beq _ _).2 rfl]at h5;cases h5
           · intro w' es' clock' h1 h2 h3
             have:=hfin w' es' clock' h1 (by simpa using h2) ⟨h3.os,h3.tape,h3.output,by rw[h3.size];simp,fun j hj=>by rw[h3.block j hj];exact Array.getElem?_setIfInBounds_ne (Ne.symm hj)⟩
             rw[show i+1+n=i+(n+1)by omega];exact this
       ·cases hp
     ·cases hp
   ·cases hl
end
def KE(P:Program)(root:Code)(p:List Nat)(i n:Nat)(st:ST):Option (Nat×List (ByteArray×Nat)) :=
 match(opsOf (sub root p))[i]? with
 | some o=>match o.guard,o.dst,o.op with
   | none,some d,.makeMap ty none=>match P.underlying ty with
     | some (.map kt _)=>match P.underlying kt with
       | some .string=>match qP (opsOf (sub root p)) ty d n (i+1)with
         |some l=>bif Nat.blt d st.n&&pY l&&st.wf then some (d,l)else none
         |none=>none
       |_=>none
     |_=>none
   |_,_,_=>none
 |none=>none
def keyed(l:List (ByteArray×Nat)):List (Str×Nat):=l.map fun p=>(p.1.data.toList,p.2)
theorem WOk.more{Γ:Ctx}{ck:List Chunk}{V:Vn}{w w':World}(r:WOk Γ ck V w)(hwf:mc ck=true){o:Obj}(hf:Fr (fun _=>False) w w')(hs:w'.heap[w.heap.size]?=some o) :
 ∃V',V'.σ=V.σ∧V'.ov=V.ov∧V'.H w.heap.size=some o∧Agree ck.length V V'∧WOk Γ ck V' w':=by
 have hold:∀b,b<w.heap.size→w'.heap[b]?=w.heap[b]?:=fun b hb=>hf.block b hb (fun h=>h)
 have hlt:∀k o,V.H k=some o→k<w.heap.size:=fun k o hk=>(Array.getElem?_eq_some_iff.1 (r.imm k o hk)).1
 have hle:HLe V.H fun k=>if k=w.heap.size then some o else V.H k:=fun k x hk=>by
  have:=hlt k x hk
  show(if k=w.heap.size then some o else V.H k)=some x
  rw[if_neg (by omega)];exact hk
 have hag:Agree ck.length V ⟨fun k=>if k=w.heap.size then some o else V.H k,V.σ,V.ov⟩:=⟨hle,fun i hi=>⟨rfl,rfl⟩⟩
 have rk:=r.kept hf
 refine⟨⟨fun k=>if k=w.heap.size then some o else V.H k,V.σ,V.ov⟩,rfl,rfl,if_pos rfl,hag,{ext:=rk.ext,imm:=?_,hle:=r.hle.trans hle,frz:=?_,agr:=r.agr,own:=?_,base:=?_,inj:=?_}⟩
 · intro k x hk
   have hk':(if k=w.heap.size then some o else V.H k)=some x:=hk
   split at hk'
   ·rename_i e;subst e;simp only[aa]at hk';subst hk';exact hs
   ·exact rk.imm k x hk'
 · intro k hk
   have hk':(if k=w.heap.size then some o else V.H k)≠none:=hk
   split at hk'
   ·rename_i e;subst e;exact .inr (.inl r.ext.size)
   ·exact r.frz k hk'
 · intro i c hc
   have hi:=jt hwf hc
   exact Chunk.holds_agree hag hi.1 hi.2 (rk.own i c hc)
 · intro i c b hc hb
   have hi:=jt hwf hc
   rw[Chunk.blk_agree hag hi.1]at hb
   refine⟨(r.base i c b hc hb).1,?_⟩
   show(if b=w.heap.size then some o else V.H b)=none
   rw[if_neg (by have:=Chunk.blk_lt (r.own i c hc) hb;omega)]
   exact(r.base i c b hc hb).2
 · intro i j c d b hc hd hb1 hb2
   have hi:=jt hwf hc
   have hj:=jt hwf hd
   rw[Chunk.blk_agree hag hi.1]at hb1
   rw[Chunk.blk_agree hag hj.1]at hb2
   exact r.inj i j c d b hc hd hb1 hb2
section
variable{P:Program}{f:Go.Sy.Md}{root:Code}{Γ:Ctx}{Q:Out}{st:ST}{k:List PI}
theorem J.makeTbl{p:List Nat}{i n d:Nat}{l:List (ByteArray×Nat)}(h:KE P root p i n st=some (d,l))
 (hk:J P f root Γ Q (.ops p (i+1+n)::k) {st with fr:=bH d (.x (.c (.pd (.tbl (keyed l))))) st.fr}):J P f root Γ Q (.ops p i::k) st:=by
 unfold KE at h
 split at h
 · rename_i o ho
   split at h
   · rename_i d' ty hg hd hop
     split at h
     · rename_i kt et hu
       split at h
       · rename_i hus
         split at h
         · rename_i l' hl
           cases hb:(Nat.blt d' st.n&&pY l'&&st.wf)
           ·rw[hb]at h;cases h
           · rw[hb]at h
             simp only[cond_true,aa,ae]at h
             obtain⟨rfl,rfl⟩:=h
             simp only[af]at hb
             obtain⟨⟨hd',hap⟩,hwf⟩:=hb
             intro hT V a w r
             have hi:i<(opsOf (sub root p)).size:=(Array.getElem?_eq_some_iff.1 ho).1
             have hsz:(opsOf (sub root p)).size - i=((opsOf (sub root p)).size - (i+1))+1:=by omega
             simp only[aq,PI.den]
             rw[hsz,bG]
             have hw:Region.wanted o (yielded (opsOf (sub root p)) a.tmps)=true:=by simp only[Region.wanted,hg]
             have hrun:(execOp a.eval o).run P w = .ok (.value (.map (some w.heap.size))) (w.alloc (.map #[] 0)):=by
              obtain⟨dst,op,ty',pos,after,guard⟩:=o
              simp only at hop
              subst hop
              simp only[execOp]
              refine bo ?_
              simp[Instr.makeMap,Result.andThen]
             refine Go.Sy.Fin.op_value ho hw hrun ?_
             rw[hd]
             have hds:d'<a.tmps.size:=by rw[r.size];exact aB hd'
             have hget:(a.put (some d') (.map (some w.heap.size))).tmps.getD d' undef = .map (some w.heap.size):=by
              have:=pz a.tmps d' d' (.map (some w.heap.size)) hds
              rw[if_pos rfl]at this;exact this
             have h0:=MapKept.heap_alloc w (.map #[] 0)
             refine EA hu hus hget n (i+1) [] l' #[] 0 (w.alloc (.map #[] 0)) hl h0.1 rfl (fun _ _=>rfl) hap ?_
             intro w' es clock h1 h2 h3
             have hfr:Fr (fun _=>False) w w':=⟨h3.os,h3.tape,h3.output,by rw[h3.size];show _≤(w.heap.push _).size;simp,fun j hj _=>by rw[h3.block j (by omega)];exact h0.2 j hj⟩
             simp only[ST.wf,af]at hwf
             obtain⟨V',e1,e2,e3,hag,hw'⟩:=r.wok.more hwf.2 hfr h1
             have hr2:=r.turn (by simp only[ST.wf,af];exact hwf) hag hw' (av _)
             have hput:er st (some d') (.x (.c (.pd (.tbl (keyed l')))))=some {st with fr:=bH d' (.x (.c (.pd (.tbl (keyed l'))))) st.fr}:=by simp only[er,hd',cond_true]
             refine hk hT V' _ w' (dj hr2 hput (v:=.map (some w.heap.size)) ?_)
             show PR V'.H (.tbl (keyed l')) _
             refine .tbl _ _ es clock e3 ?_
             rw[h2]
             simp only[cd,keyed,List.map_map]
             refine fF fun x _=>?_
             simp only[r8,Function.comp,lL]
         ·cases h
       ·cases h
     ·cases h
   ·cases h
 ·cases h
/-! ### a function set against nil -/
def tw(P:Program)(root:Code)(p:List Nat)(i:Nat)(st:ST):Option (Nat×Bool) :=
 match(opsOf (sub root p))[i]? with
 | some o=>match o.guard,o.dst,o.op with
   | none,some d,.binOp .neq ty (.tmp s) (.const .nilFunc) _=>match P.underlying ty,lookup st.fr s with
     |some (.func _ _ _),some (.x (.c (.fn _ _ _)))=>bif Nat.blt d st.n then some (d,true)else none
     |some (.func _ _ _),some (.x (.c (.pd (.v .nilFunc))))=>bif Nat.blt d st.n then some (d,false)else none
     |_,_=>none
   |_,_,_=>none
 |none=>none
theorem tU(w:World)(d:Nat){t:TypeId}{ps rs:Array TypeId}{vd:Bool}(ht:P.underlying t=some (.func ps rs vd))(g:Fn)(x y:Array Value):(Op.equalIn (d+1) t (.func g x y) .nilFunc).run P w = .ok false w:=by simp[Op.equalIn,run_underlying ht]
theorem pW(w:World)(d:Nat){t:TypeId}{ps rs:Array TypeId}{vd:Bool}(ht:P.underlying t=some (.func ps rs vd)):(Op.equalIn (d+1) t .nilFunc .nilFunc).run P w = .ok true w:=by simp[Op.equalIn,run_underlying ht]
theorem CJ{w:World}{t:TypeId}{ps rs:Array TypeId}{vd:Bool}(ht:P.underlying t=some (.func ps rs vd))(g:Fn)(x y:Array Value):(binOp .neq t (.func g x y) .nilFunc).run P w = .ok (.bool true) w:=by
 simp only[binOp]
 simp[Op.equal,Op.maxDepth,tU w 9999 ht g x y]
theorem vT{w:World}{t:TypeId}{ps rs:Array TypeId}{vd:Bool}(ht:P.underlying t=some (.func ps rs vd)):(binOp .neq t .nilFunc .nilFunc).run P w = .ok (.bool false) w:=by
 simp only[binOp]
 simp[Op.equal,Op.maxDepth,pW w 9999 ht]
theorem J.fnNil{p:List Nat}{i d:Nat}{b:Bool}(h:tw P root p i st=some (d,b))(hk:J P f root Γ Q (.ops p (i+1)::k) {st with fr:=bH d (.x (.b b)) st.fr}):J P f root Γ Q (.ops p i::k) st:=by
 unfold tw at h
 split at h
 · rename_i o ho
   split at h
   · rename_i d' ty s yt hg hd hop
     have fin:Nat.blt d' st.n=true→(∀V a w,Rel Γ st V a w→(execOp a.eval o).run P w = .ok (.value (.bool b)) w)→d'=d→J P f root Γ Q (.ops p i::k) st:=by
      rintro hb hr rfl hT V a w r
      have hi:i<(opsOf (sub root p)).size:=(Array.getElem?_eq_some_iff.1 ho).1
      have hsz:(opsOf (sub root p)).size - i=((opsOf (sub root p)).size - (i+1))+1:=by omega
      simp only[aq,PI.den]
      rw[hsz,bG]
      have hw:Region.wanted o (yielded (opsOf (sub root p)) a.tmps)=true:=by simp only[Region.wanted,hg]
      have hput:er st (some d') (.x (.b b))=some {st with fr:=bH d' (.x (.b b)) st.fr}:=by simp only[er,hb,cond_true]
      refine Go.Sy.Fin.op_value ho hw (hr V a w r) ?_
      rw[hd]
      exact hk hT V _ _ (dj r hput (v:=.bool b) (.bool b))
     split at h
     · rename_i ps rs vd g fi ca hu hl
       cases hb:Nat.blt d' st.n
       ·rw[hb]at h;cases h
       · rw[hb]at h
         simp only[cond_true,aa,ae]at h
         obtain⟨e1,rfl⟩:=h
         refine fin hb (fun V a w r=>?_) e1
         have hv:SX.R V (.c (.fn g fi ca)) (a.tmps.getD s undef):=r.slots s _ (cT hl)
         obtain⟨ua,ub,hu2,_,_⟩:=hv
         obtain⟨dst,op,ty',pos,after,guard⟩:=o
         simp only at hop
         subst hop
         simp only[execOp]
         refine bo ?_
         have e2:a.eval (.tmp s) = .func g ua.toArray ub.toArray:=hu2
         have e3:a.eval (.const .nilFunc) = .nilFunc:=rfl
         rw[e2,e3]
         simp only[Sem.run_bind,gN .neq ty (.tmp s) (.const .nilFunc) (a:=.func g ua.toArray ub.toArray) (b:=.nilFunc) ⟨fun _ e=>(by cases e),(by intro e;cases e)⟩,Result.andThen_ok]
         exact CJ hu g _ _
     · rename_i ps rs vd hu hl
       cases hb:Nat.blt d' st.n
       ·rw[hb]at h;cases h
       · rw[hb]at h
         simp only[cond_true,aa,ae]at h
         obtain⟨e1,rfl⟩:=h
         refine fin hb (fun V a w r=>?_) e1
         have hv:PR V.H (.v .nilFunc) (a.tmps.getD s undef):=r.slots s _ (cT hl)
         generalize hus:a.tmps.getD s undef=u at hv
         cases hv
         obtain⟨dst,op,ty',pos,after,guard⟩:=o
         simp only at hop
         subst hop
         simp only[execOp]
         refine bo ?_
         have e2:a.eval (.tmp s) = .nilFunc:=hus
         have e3:a.eval (.const .nilFunc) = .nilFunc:=rfl
         rw[e2,e3]
         simp only[Sem.run_bind,gN .neq ty (.tmp s) (.const .nilFunc) (a:=.nilFunc) (b:=.nilFunc) ⟨fun _ e=>(by cases e),(by intro e;cases e)⟩,Result.andThen_ok]
         exact vT hu
     ·cases h
   ·cases h
 ·cases h
end
/-! ### blocks that nobody reads any more -/
def G2:SX→Option Bool
 |.c (.loc _ _)=>some true
 |.c (.oat _ _ _ _)=>some true
 |.c (.pd (.ref _ _ _))=>some true
 |.c (.pd (.v (.pointer none)))=>some false
 |_=>none
theorem G3{V:Vn}{x:SX}{b:Bool}(h:G2 x=some b){u:Value}(hu:x.R V u):∃a:Option Addr,u = .pointer a∧a.isSome=b:=by
 unfold G2 at h
 split at h
 · simp only[aa]at h;subst h
   have e:u = .pointer (some _):=hu
   exact⟨_,e,rfl⟩
 · simp only[aa]at h;subst h
   have e:u = .pointer (some _):=hu
   exact⟨_,e,rfl⟩
 · simp only[aa]at h;subst h
   have hp:PR V.H (.ref _ _ _) u:=hu
   cases hp
   exact⟨_,rfl,rfl⟩
 · simp only[aa]at h;subst h
   have hp:PR V.H (.v (.pointer none)) u:=hu
   cases hp
   exact⟨none,rfl,rfl⟩
 ·cases h
def rp(P:Program)(root:Code)(p:List Nat)(i:Nat)(st:ST):Option (Nat×Bool) :=
 match(opsOf (sub root p))[i]? with
 | some o=>match o.guard,o.dst,o.op with
   | none,some d,.binOp op ty (.tmp s) (.const (.pointer none)) _=>match P.underlying ty,lookup st.fr s with
     | some (.pointer _),some (.x v)=>match G2 v,op with
       |some b,.neq=>bif Nat.blt d st.n then some (d,b)else none
       |some b,.eql=>bif Nat.blt d st.n then some (d,!b)else none
       |_,_=>none
     |_,_=>none
   |_,_,_=>none
 |none=>none
section
variable{P:Program}{f:Go.Sy.Md}{root:Code}{Γ:Ctx}{Q:Out}{st:ST}{k:List PI}
theorem nW(w:World)(d:Nat){t e:TypeId}(ht:P.underlying t=some (.pointer e))(a:Option Addr):(Op.equalIn (d+1) t (.pointer a) (.pointer none)).run P w = .ok (!a.isSome) w:=by
 cases a <;> simp[Op.equalIn,run_underlying ht]
theorem DR{w:World}{t e:TypeId}(ht:P.underlying t=some (.pointer e))(a:Option Addr):(binOp .neq t (.pointer a) (.pointer none)).run P w = .ok (.bool a.isSome) w:=by
 simp only[binOp]
 simp[Op.equal,Op.maxDepth,nW w 9999 ht a]
theorem DQ{w:World}{t e:TypeId}(ht:P.underlying t=some (.pointer e))(a:Option Addr):(binOp .eql t (.pointer a) (.pointer none)).run P w = .ok (.bool (!a.isSome)) w:=by
 simp only[binOp]
 simp[Op.equal,Op.maxDepth,nW w 9999 ht a]
theorem J.ptrNil {p:List Nat} {i d:Nat} {b:Bool} (h:rp P root p i st=some (d,b)) (hk:J P f root Γ Q (.ops p (i+1)::k) {st with fr:=bH d (.x (.b b)) st.fr}):J P f root Γ Q (.ops p i::k) st:=by
 unfold rp at h
 split at h
 · rename_i o ho
   split at h
   · rename_i d' op ty s yt hg hd hop
     have fin:Nat.blt d' st.n=true→(∀V a w,Rel Γ st V a w→(execOp a.eval o).run P w = .ok (.value (.bool b)) w)→d'=d→J P f root Γ Q (.ops p i::k) st:=by
      rintro hb hr rfl hT V a w r
      have hi:i<(opsOf (sub root p)).size:=(Array.getElem?_eq_some_iff.1 ho).1
      have hsz:(opsOf (sub root p)).size - i=((opsOf (sub root p)).size - (i+1))+1:=by omega
      simp only[aq,PI.den]
      rw[hsz,bG]
      have hw:Region.wanted o (yielded (opsOf (sub root p)) a.tmps)=true:=by simp only[Region.wanted,hg]
      have hput:er st (some d') (.x (.b b))=some {st with fr:=bH d' (.x (.b b)) st.fr}:=by simp only[er,hb,cond_true]
      refine Go.Sy.Fin.op_value ho hw (hr V a w r) ?_
      rw[hd]
      exact hk hT V _ _ (dj r hput (v:=.bool b) (.bool b))
     split at h
     · rename_i e v hu hl
       have look:∀V a w,Rel Γ st V a w→∀c,G2 v=some c→∃ao:Option Addr,a.eval (.tmp s) = .pointer ao∧ao.isSome=c:=fun V a w r c hc=>G3 hc (r.slots s _ (cT hl))
       have guard:∀(q:BinOp) (ao:Option Addr) (w:World),(eqGuard q ty (.tmp s) (.const (.pointer none)) (.pointer ao) (.pointer none)).run P w = .ok () w:=fun q ao w=>by
        rw[gN q ty (.tmp s) (.const (.pointer none)) (a:=.pointer ao) (b:=.pointer none) ⟨fun _ e=>(by cases e),(by intro e;cases e)⟩]
       split at h
       · rename_i c hc
         cases hb:Nat.blt d' st.n
         ·rw[hb]at h;cases h
         · rw[hb]at h
           simp only[cond_true,aa,ae]at h
           obtain⟨e1,rfl⟩:=h
           refine fin hb (fun V a w r=>?_) e1
           obtain⟨ao,h1,h2⟩:=look V a w r _ hc
           obtain⟨dst,op,ty',pos,after,guard'⟩:=o
           simp only at hop
           subst hop
           simp only[execOp]
           refine bo ?_
           have e3:a.eval (.const (.pointer none)) = .pointer none:=rfl
           rw[h1,e3]
           simp only[Sem.run_bind,guard,Result.andThen_ok]
           rw[DR hu ao,h2]
       · rename_i c hc
         cases hb:Nat.blt d' st.n
         ·rw[hb]at h;cases h
         · rw[hb]at h
           simp only[cond_true,aa,ae]at h
           obtain⟨e1,rfl⟩:=h
           refine fin hb (fun V a w r=>?_) e1
           obtain⟨ao,h1,h2⟩:=look V a w r _ hc
           obtain⟨dst,op,ty',pos,after,guard'⟩:=o
           simp only at hop
           subst hop
           simp only[execOp]
           refine bo ?_
           have e3:a.eval (.const (.pointer none)) = .pointer none:=rfl
           rw[h1,e3]
           simp only[Sem.run_bind,guard,Result.andThen_ok]
           rw[DQ hu ao,h2]
       ·cases h
     ·cases h
   ·cases h
 ·cases h
end
/-! ### guards that are literally true, or literally false -/
def yv(s:Nat)(want:Bool)(fr:List (Nat×SV)):List (Nat×SV):=fr.map fun p=>match p.2 with
 |.grd s' w' v=>bif Nat.beq s' s&&(w'==want)then(p.1,.x v)else p
 |_=>p
def GV(P:Program)(cfg:Cfg)(root:Code)(p:List Nat)(i:Nat)(st:ST):Option (Option Prop×ST) :=
 match(opsOf (sub root p))[i]? with
 | some o=>match o.guard with
   | some (j,want)=>match((opsOf (sub root p))[j]?).bind (·.dst)with
     | some s=>match lookup st.fr s with
       |some (.x (.c (.pd (.bool b))))=>bif b==want then ra P cfg o {st with fr:=yv s want st.fr}else none
       |_=>none
     |none=>none
   |none=>none
 |none=>none
section
variable{P:Program}{cfg:Cfg}{f:Go.Sy.Md}{root:Code}{Γ:Ctx}{Q:Out}{st st':ST}{k:List PI}
theorem Rel.settle{V:Vn}{a:Act}{w:World}(r:Rel Γ st V a w){s:Nat}{want:Bool}(hon:a.tmps.getD s undef = .bool want):Rel Γ {st with fr:=yv s want st.fr} V a w:=by
 refine⟨r.1,r.2,fun t sv h=>?_,r.4,r.5⟩
 obtain⟨⟨t',sv'⟩,h1,h2⟩:=aM.1 h
 have h3:=r.slots t' sv' h1
 cases sv' with
 | grd s' w' v =>
   simp only at h2
   cases hb:(Nat.beq s' s&&(w'==want))
   · rw[hb]at h2
     simp only[cond_false,ae]at h2
     obtain⟨rfl,rfl⟩:=h2;exact h3
   · rw[hb]at h2
     simp only[cond_true,ae]at h2
     obtain⟨rfl,rfl⟩:=h2
     simp only[af,beq_iff_eq]at hb
     have e1:=ak hb.1
     have e2:=hb.2
     subst e1;subst e2
     exact h3.1 hon
 |x v=>simp only[ae]at h2;obtain⟨rfl,rfl⟩:=h2;exact h3
 |tup l=>simp only[ae]at h2;obtain⟨rfl,rfl⟩:=h2;exact h3
theorem J.on(ht:ag P cfg.tab){p:List Nat}{i:Nat}{q:Option Prop}(h:GV P cfg root p i st=some (q,st'))(hq:Holds q)(hk:J P f root Γ Q (.ops p (i+1)::k) st'):J P f root Γ Q (.ops p i::k) st:=by
 unfold GV at h
 split at h
 · rename_i o ho
   split at h
   · rename_i j want hg
     split at h
     · rename_i s hs
       split at h
       · rename_i b hl
         cases hb:(b==want)
         ·rw[hb]at h;cases h
         · rw[hb,cond_true]at h
           have hbw:b=want:=by simpa using hb
           subst hbw
           intro hT V a w r
           have hon:a.tmps.getD s undef = .bool b:=by
            have h2:SX.R V (.c (.pd (.bool b))) (a.tmps.getD s undef):=r.slots s _ (cT hl)
            generalize a.tmps.getD s undef=u at h2 ⊢
            cases h2;rfl
           have hi:i<(opsOf (sub root p)).size:=(Array.getElem?_eq_some_iff.1 ho).1
           have hsz:(opsOf (sub root p)).size - i=((opsOf (sub root p)).size - (i+1))+1:=by omega
           simp only[aq,PI.den]
           rw[hsz,bG]
           exact kH ⟨ht,hT⟩ (r.settle hon) ho (kv hg hs hon) h hq fun V' a' w' r'=>hk hT V' a' w' r'
       ·cases h
     ·cases h
   ·cases h
 ·cases h
def q8(root:Code)(p:List Nat):Nat→Nat→ST→Option ST
 |0,_,st=>some st
 | n + 1,i,st=>match(opsOf (sub root p))[i]? with
   | some o=>match o.guard,o.dst with
     | some (j,want),some d=>match((opsOf (sub root p))[j]?).bind (·.dst)with
       | some s=>match lookup st.fr s with
         |some (.x (.c (.pd (.bool b))))=>bif !(b==want)&&(Nat.blt d st.n && !Nat.beq s d)then q8 root p n (i+1) {st with fr:=bH d (.grd s want (.c (.pd (.bool false)))) st.fr}else none
         |_=>none
       |none=>none
     |_,_=>none
   |none=>none
theorem J.off {p:List Nat}:∀(n i:Nat) {st st':ST},q8 root p n i st=some st'→J P f root Γ Q (.ops p (i+n)::k) st'→J P f root Γ Q (.ops p i::k) st
 | 0,i,st,st',h,hk=>by
   simp only[q8,aa]at h
   subst h;exact hk
 | n + 1, i, st,st',h,hk=>by
   simp only[q8]at h
   split at h
   · rename_i o ho
     split at h
     · rename_i j want d hg hd
       split at h
       · rename_i s hs
         split at h
         · rename_i b hl
           cases hb:(!(b==want)&&(Nat.blt d st.n && !Nat.beq s d))
           ·rw[hb]at h;cases h
           · rw[hb,cond_true]at h
             have ih:=J.off (p:=p) n (i+1) h (by rw[show i+1+n=i+(n+1)by omega];exact hk)
             simp only[af,aK]at hb
             have hdn:d<st.n:=aB hb.2.1
             have hsd:s≠d:=fun e=>by rw[e]at hb;simp at hb
             intro hT V a w r
             have hoff:¬a.tmps.getD s undef = .bool want:=by
              have h2:SX.R V (.c (.pd (.bool b))) (a.tmps.getD s undef):=r.slots s _ (cT hl)
              generalize a.tmps.getD s undef=u at h2 ⊢
              cases h2
              intro e
              simp only[Value.bool.injEq]at e
              rw[e]at hb;simp at hb
             have hi:i<(opsOf (sub root p)).size:=(Array.getElem?_eq_some_iff.1 ho).1
             have hsz:(opsOf (sub root p)).size - i=((opsOf (sub root p)).size - (i+1))+1:=by omega
             simp only[aq,PI.den]
             rw[hsz,bG]
             refine Go.Sy.Fin.op_unwanted ho (mG hg hs hoff) ?_
             rw[hd]
             exact ih hT V _ _ (r.put d (.grd s want (.c (.pd (.bool false)))) _ hdn fun a' ha h2=>⟨fun h3=>absurd (by rw[←ha s hsd];exact h3) hoff,fun _=>h2⟩)
         ·cases h
       ·cases h
     ·cases h
   ·cases h
end
def Tree.walk:Tree→List Prop→List Prop×Tree
 | .ite b t e,a=>match b with
   |true=>t.walk a
   |false=>e.walk a
 |.need p t,a=>t.walk (p::a)
 |.ret v ck,a=>(a,.ret v ck)
 |.stop todo st,a=>(a,.stop todo st)
def CF(P:Program)(cfg:Cfg)(fn:Func)(root:Code):Nat→List PI→ST→List Prop→Option (List Prop×SV×List Chunk)
 |0,_,_,_=>none
 | n+1,todo,st,a=>match(exec P cfg fn root 1000 todo st).walk a with
   |(a',.ret v ck)=>some (a',v,ck)
   |(a',.stop todo' st')=>CF P cfg fn root n todo' st' a'
   |_=>none
def dX:List Prop→Prop
 |[]=>True
 |p::r=>p∧dX r
section
variable{P:Program}{cfg:Cfg}{Γ:Ctx}{Q:Out}{f:FuncId}{fn:Func}{root:Code}
theorem Tree.walk_J:∀{t t':Tree} {a a':List Prop},t.walk a=(a',t')→dX a'→t'.J P f root Γ Q→t.J P f root Γ Q∧dX a
 | .ite b t e,t',a,a',h,hp,hj=>by
   cases b
   · obtain⟨h1,h2⟩:=Tree.walk_J (t:=e) h hp hj
     exact⟨⟨fun h=>(by cases h),fun _=>h1⟩,h2⟩
   · obtain⟨h1,h2⟩:=Tree.walk_J (t:=t) h hp hj
     exact⟨⟨fun _=>h1,fun h=>(by cases h)⟩,h2⟩
 | .need p t,t',a,a',h,hp,hj=>by
   obtain⟨h1,h2⟩:=Tree.walk_J (t:=t) h hp hj
   exact⟨⟨h2.1,h1⟩,h2.2⟩
 | .ret v ck,t',a,a',h,hp,hj=>by
   simp only[Tree.walk,ae]at h
   obtain⟨rfl,rfl⟩:=h;exact⟨hj,hp⟩
 | .stop todo st,t',a,a',h,hp,hj=>by
   simp only[Tree.walk,ae]at h
   obtain⟨rfl,rfl⟩:=h;exact⟨hj,hp⟩
theorem Kq(ht:ag P cfg.tab)(hf:P.funcs[f]?=some fn):∀(n:Nat) {todo:List PI} {st:ST} {a ps:List Prop} {v:SV} {ck:List Chunk},CF P cfg fn root n todo st a=some (ps,v,ck)→dX ps→Q v ck→J P f root Γ Q todo st∧dX a
 |0,_,_,_,_,_,_,h,_,_=>by cases h
 | n + 1,todo,st,a,ps,v,ck,h,hp,hq=>by
   simp only[CF]at h
   split at h
   · rename_i a' v' ck' he
     simp only[aa,ae]at h
     obtain⟨rfl,rfl,rfl⟩:=h
     obtain⟨h1,h2⟩:=Tree.walk_J (Q:=Q) (Γ:=Γ) (P:=P) (f:=f) (root:=root) he hp hq
     exact⟨J.go ht hf 1000 rfl h1,h2⟩
   · rename_i a' todo' st' he
     obtain⟨h3,h4⟩:=Kq ht hf n h hp hq
     obtain⟨h1,h2⟩:=Tree.walk_J (Q:=Q) (Γ:=Γ) (P:=P) (f:=f) (root:=root) he h4 h3
     exact⟨J.go ht hf 1000 rfl h1,h2⟩
   ·cases h
theorem ah.run{args:List SX}{ck:List Chunk}{ret:SV}{ck':List Chunk}(ht:ag P cfg.tab)(hf:P.funcs[f]?=some fn)(hb:fn.body.isSome=true)(hn:Nat.ble args.length fn.ntmps=true)(n:Nat)(ps:List Prop)
 (he:CF P cfg fn (ar fn) n [.code []] (il fn.ntmps args ck) []=some (ps,ret,ck')) (hp:dX ps):ah P f args ck ret ck' :=
 ah.of hf hb hn fun Γ=>(Kq (Q:=Eq2 ret ck') ht hf n he hp ⟨rfl,rfl⟩).1
noncomputable def jl(P:Program)(cfg:Cfg)(fn:Func)(n:Nat)(f:FuncId):Ent:=(f,fun vs ck=>bif Nat.ble vs.length fn.ntmps then
 (match CF P cfg fn (ar fn) n [.code []] (il fn.ntmps vs ck) []with
  |some ([],ret,ck')=>some (none,ret,ck')
  |some (p::ps,ret,ck')=>some (some (dX (p::ps)),ret,ck')
  |none=>none)else none)
theorem gU{n:Nat}(ht:ag P cfg.tab)(hf:P.funcs[f]?=some fn)(hb:fn.body.isSome=true){vs:List SX}{ck:List Chunk}{p:Option Prop}{ret:SV}{ck':List Chunk}(h:(jl P cfg fn n f).2 vs ck=some (p,ret,ck'))(hp:Holds p):ah P f vs ck ret ck':=by
 simp only[jl]at h
 cases hn:Nat.ble vs.length fn.ntmps
 ·rw[hn,cond_false]at h;cases h
 · rw[hn,cond_true]at h
   split at h
   · rename_i he
     simp only[aa,ae]at h
     obtain⟨rfl,rfl,rfl⟩:=h
     exact ah.run ht hf hb hn n _ he trivial
   · rename_i he
     simp only[aa,ae]at h
     obtain⟨rfl,rfl,rfl⟩:=h
     exact ah.run ht hf hb hn n _ he hp
   ·cases h
end
end Go.Ev
