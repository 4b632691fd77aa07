/- An executor for function bodies of the model over data, part VD: a pointer set against nil. Conditions: each rule's own. An executor for function bodies of the model over data, part VE: calls whose truths are all written out, run to their end. Conditions: those that the run tells. Texts cut at a byte: plain. Conditions: none. Contracts: names; prefixes. Conditions: none. -/
import Derived.Test.YtpfidgnkokidoaaGreatDoorVc
import Derived.Test.YtpfidgnkokidoaaGreatDoorDa
import Derived.Lib.SplitLaws
namespace Go.Ev
open Go.RowKit
def EE:SX→Option Bool
 | .c (.loc _ _)=>some true
 | .c (.oat _ _ _ _)=>some true
 | .c (.pd (.ref _ _ _))=>some true
 | .c (.pd (.v (.pointer none)))=>some false
 | _=>none
theorem EU {V:Vn} {x:SX} {b:Bool} (h:EE x=some b) {u:Value} (hu:x.R V u):∃ a:Option Addr,u = .pointer a∧a.isSome=b:=by
 unfold EE at h
 split at h
 · simp only [aa] at h; subst h
   have e:u = .pointer (some _):=hu
   exact ⟨_,e,rfl⟩
 · simp only [aa] at h; subst h
   have e:u = .pointer (some _):=hu
   exact ⟨_,e,rfl⟩
 · simp only [aa] at h; subst h
   have hp:PR V.H (.ref _ _ _) u:=hu
   cases hp
   exact ⟨_,rfl,rfl⟩
 · simp only [aa] at h; subst h
   have hp:PR V.H (.v (.pointer none)) u:=hu
   cases hp
   exact ⟨none,rfl,rfl⟩
 · cases h
def xk (P:Program) (root:Code) (p:List Nat) (i:Nat) (st:ST):Option (Nat×Bool) :=
 match (opsOf (sub root p))[i]? with
 | some o=>match o.guard,o.dst,o.op with
   | none,some d,.binOp op ty (.tmp s) (.const (.pointer none)) _=>match P.underlying ty,lookup st.fr s with
     | some (.pointer _),some (.x v)=>match EE v,op with
       | some b,.neq=>bif Nat.blt d st.n then some (d,b) else none
       | some b,.eql=>bif Nat.blt d st.n then some (d,!b) else none
       | _,_=>none
     | _,_=>none
   | _,_,_=>none
 | none=>none
section
variable {P:Program} {f:FuncId} {root:Code} {Γ:Ctx} {Q:Out} {st:ST} {k:List PI}
theorem nj (w:World) (d:Nat) {t e:TypeId} (ht:P.underlying t=some (.pointer e)) (a:Option Addr):(Op.equalIn (d+1) t (.pointer a) (.pointer none)).run P w = .ok (!a.isSome) w:=by
 cases a <;> simp [Op.equalIn,run_underlying ht]
theorem CI {w:World} {t e:TypeId} (ht:P.underlying t=some (.pointer e)) (a:Option Addr):(binOp .neq t (.pointer a) (.pointer none)).run P w = .ok (.bool a.isSome) w:=by
 simp only [binOp]
 simp [Op.equal,Op.maxDepth,nj w 9999 ht a]
theorem Ct {w:World} {t e:TypeId} (ht:P.underlying t=some (.pointer e)) (a:Option Addr):(binOp .eql t (.pointer a) (.pointer none)).run P w = .ok (.bool (!a.isSome)) w:=by
 simp only [binOp]
 simp [Op.equal,Op.maxDepth,nj w 9999 ht a]
theorem J.ptrNil {p:List Nat} {i d:Nat} {b:Bool} (h:xk P root p i st=some (d,b)) (hk:J P f root Γ Q (.ops p (i+1)::k) { st with fr:=ej d (.x (.b b)) st.fr }):J P f root Γ Q (.ops p i::k) st:=by
 unfold xk at h
 split at h
 · rename_i o ho
   split at h
   · rename_i d' op ty s yt hg hd hop
     have fin:Nat.blt d' st.n=true→(∀ V a w,Rel Γ st V a w→(execOp a.eval o).run P w = .ok (.value (.bool b)) w)→d'=d→J P f root Γ Q (.ops p i::k) st:=by
      rintro hb hr rfl hT V a w r
      have hi:i<(opsOf (sub root p)).size:=(Array.getElem?_eq_some_iff.1 ho).1
      have hsz:(opsOf (sub root p)).size - i=((opsOf (sub root p)).size - (i+1))+1:=by omega
      simp only [aw,PI.den]
      rw [hsz,cw]
      have hw:Region.wanted o (yielded (opsOf (sub root p)) a.tmps)=true:=by simp only [Region.wanted,hg]
      have hput:fZ st (some d') (.x (.b b))=some { st with fr:=ej d' (.x (.b b)) st.fr }:=by simp only [fZ,hb,cond_true]
      refine Go.Sy.Fin.op_value ho hw (hr V a w r) ?_
      rw [hd]
      exact hk hT V _ _ (eM r hput (v:=.bool b) (.bool b))
     split at h
     · rename_i e v hu hl
       have look:∀ V a w,Rel Γ st V a w→∀ c,EE v=some c→∃ ao:Option Addr,a.eval (.tmp s) = .pointer ao∧ao.isSome=c:=fun V a w r c hc=>EU hc (r.slots s _ (dF hl))
       have guard:∀ (q:BinOp) (ao:Option Addr) (w:World),(eqGuard q ty (.tmp s) (.const (.pointer none)) (.pointer ao) (.pointer none)).run P w = .ok () w:=fun q ao w=>by
        rw [iS q ty (.tmp s) (.const (.pointer none)) (a:=.pointer ao) (b:=.pointer none) ⟨fun _ e=>(by cases e),(by intro e; cases e)⟩]
       split at h
       · rename_i c hc
         cases hb:Nat.blt d' st.n
         · rw [hb] at h; cases h
         · rw [hb] at h
           simp only [cond_true,aa,ae] at h
           obtain ⟨e1,rfl⟩:=h
           refine fin hb (fun V a w r=>?_) e1
           obtain ⟨ao,h1,h2⟩:=look V a w r _ hc
           obtain ⟨dst,op,ty',pos,after,guard'⟩:=o
           simp only at hop
           subst hop
           simp only [execOp]
           refine bO ?_
           have e3:a.eval (.const (.pointer none)) = .pointer none:=rfl
           rw [h1,e3]
           simp only [Sem.run_bind,guard,Result.andThen_ok]
           rw [CI hu ao,h2]
       · rename_i c hc
         cases hb:Nat.blt d' st.n
         · rw [hb] at h; cases h
         · rw [hb] at h
           simp only [cond_true,aa,ae] at h
           obtain ⟨e1,rfl⟩:=h
           refine fin hb (fun V a w r=>?_) e1
           obtain ⟨ao,h1,h2⟩:=look V a w r _ hc
           obtain ⟨dst,op,ty',pos,after,guard'⟩:=o
           simp only at hop
           subst hop
           simp only [execOp]
           refine bO ?_
           have e3:a.eval (.const (.pointer none)) = .pointer none:=rfl
           rw [h1,e3]
           simp only [Sem.run_bind,guard,Result.andThen_ok]
           rw [Ct hu ao,h2]
       · cases h
     · cases h
   · cases h
 · cases h
end
/-! ### guards that are literally true, or literally false -/
def xV (s:Nat) (want:Bool) (fr:List (Nat×SV)):List (Nat×SV):=fr.map fun p=>match p.2 with
 | .grd s' w' v=>bif Nat.beq s' s&&(w'==want) then (p.1,.x v) else p
 | _=>p
def LR (P:Program) (cfg:Cfg) (root:Code) (p:List Nat) (i:Nat) (st:ST):Option (Option Prop×ST) :=
 match (opsOf (sub root p))[i]? with
 | some o=>match o.guard with
   | some (j,want)=>match ((opsOf (sub root p))[j]?).bind (·.dst) with
     | some s=>match lookup st.fr s with
       | some (.x (.c (.pd (.bool b))))=>bif b==want then ru P cfg o { st with fr:=xV s want st.fr } else none
       | _=>none
     | none=>none
   | none=>none
 | none=>none
section
variable {P:Program} {cfg:Cfg} {f:FuncId} {root:Code} {Γ:Ctx} {Q:Out} {st st':ST} {k:List PI}
theorem Rel.settle {V:Vn} {a:Act} {w:World} (r:Rel Γ st V a w) {s:Nat} {want:Bool} (hon:a.tmps.getD s undef = .bool want):Rel Γ { st with fr:=xV s want st.fr } V a w:=by
 refine ⟨r.1,r.2,fun t sv h=>?_,r.4,r.5⟩
 obtain ⟨⟨t',sv'⟩,h1,h2⟩:=ba.1 h
 have h3:=r.slots t' sv' h1
 cases sv' with
 | grd s' w' v =>
   simp only at h2
   cases hb:(Nat.beq s' s&&(w'==want))
   · rw [hb] at h2
     simp only [cond_false,ae] at h2
     obtain ⟨rfl,rfl⟩:=h2; exact h3
   · rw [hb] at h2
     simp only [cond_true,ae] at h2
     obtain ⟨rfl,rfl⟩:=h2
     simp only [ab,beq_iff_eq] at hb
     have e1:=aq hb.1
     have e2:=hb.2
     subst e1; subst e2
     exact h3.1 hon
 | x v=>simp only [ae] at h2; obtain ⟨rfl,rfl⟩:=h2; exact h3
 | tup l=>simp only [ae] at h2; obtain ⟨rfl,rfl⟩:=h2; exact h3
theorem J.on (ht:ai P cfg.tab) {p:List Nat} {i:Nat} {q:Option Prop} (h:LR P cfg root p i st=some (q,st')) (hq:Holds q) (hk:J P f root Γ Q (.ops p (i+1)::k) st'):J P f root Γ Q (.ops p i::k) st:=by
 unfold LR at h
 split at h
 · rename_i o ho
   split at h
   · rename_i j want hg
     split at h
     · rename_i s hs
       split at h
       · rename_i b hl
         cases hb:(b==want)
         · rw [hb] at h; cases h
         · rw [hb,cond_true] at h
           have hbw:b=want:=by simpa using hb
           subst hbw
           intro hT V a w r
           have hon:a.tmps.getD s undef = .bool b:=by
            have h2:SX.R V (.c (.pd (.bool b))) (a.tmps.getD s undef):=r.slots s _ (dF hl)
            generalize a.tmps.getD s undef=u at h2 ⊢
            cases h2; rfl
           have hi:i<(opsOf (sub root p)).size:=(Array.getElem?_eq_some_iff.1 ho).1
           have hsz:(opsOf (sub root p)).size - i=((opsOf (sub root p)).size - (i+1))+1:=by omega
           simp only [aw,PI.den]
           rw [hsz,cw]
           exact ki ⟨ht,hT⟩ (r.settle hon) ho (lD hg hs hon) h hq fun V' a' w' r'=>hk hT V' a' w' r'
       · cases h
     · cases h
   · cases h
 · cases h
def uN (root:Code) (p:List Nat):Nat→Nat→ST→Option ST
 | 0,_,st=>some st
 | n + 1,i,st=>match (opsOf (sub root p))[i]? with
   | some o=>match o.guard,o.dst with
     | some (j,want),some d=>match ((opsOf (sub root p))[j]?).bind (·.dst) with
       | some s=>match lookup st.fr s with
         | some (.x (.c (.pd (.bool b))))=>bif !(b==want)&&(Nat.blt d st.n && !Nat.beq s d) then uN root p n (i+1) { st with fr:=ej d (.grd s want (.c (.pd (.bool false)))) st.fr } else none
         | _=>none
       | none=>none
     | _,_=>none
   | none=>none
theorem J.off {p:List Nat}:∀ (n i:Nat) {st st':ST},uN root p n i st=some st'→J P f root Γ Q (.ops p (i+n)::k) st'→J P f root Γ Q (.ops p i::k) st
 | 0,i,st,st',h,hk=>by
   simp only [uN,aa] at h
   subst h; exact hk
 | n + 1, i, st,st',h,hk=>by
   simp only [uN] at h
   split at h
   · rename_i o ho
     split at h
     · rename_i j want d hg hd
       split at h
       · rename_i s hs
         split at h
         · rename_i b hl
           cases hb:(!(b==want)&&(Nat.blt d st.n && !Nat.beq s d))
           · rw [hb] at h; cases h
           · rw [hb,cond_true] at h
             have ih:=J.off (p:=p) n (i+1) h (by rw [show i+1+n=i+(n+1) by omega]; exact hk)
             simp only [ab,aD] at hb
             have hdn:d<st.n:=aB hb.2.1
             have hsd:s≠d:=fun e=>by rw [e] at hb; simp at hb
             intro hT V a w r
             have hoff:¬a.tmps.getD s undef = .bool want:=by
              have h2:SX.R V (.c (.pd (.bool b))) (a.tmps.getD s undef):=r.slots s _ (dF hl)
              generalize a.tmps.getD s undef=u at h2 ⊢
              cases h2
              intro e
              simp only [Value.bool.injEq] at e
              rw [e] at hb; simp at hb
             have hi:i<(opsOf (sub root p)).size:=(Array.getElem?_eq_some_iff.1 ho).1
             have hsz:(opsOf (sub root p)).size - i=((opsOf (sub root p)).size - (i+1))+1:=by omega
             simp only [aw,PI.den]
             rw [hsz,cw]
             refine Go.Sy.Fin.op_unwanted ho (kF hg hs hoff) ?_
             rw [hd]
             exact ih hT V _ _ (r.put d (.grd s want (.c (.pd (.bool false)))) _ hdn fun a' ha h2=>⟨fun h3=>absurd (by rw [← ha s hsd]; exact h3) hoff,fun _=>h2⟩)
         · cases h
       · cases h
     · cases h
   · cases h
end
end Go.Ev
namespace Go.Ev
open Go.RowKit
def Tree.walk:Tree→List Prop→List Prop×Tree
 | .ite b t e,a=>match b with
   | true=>t.walk a
   | false=>e.walk a
 | .need p t,a=>t.walk (p::a)
 | .ret v ck,a=>(a,.ret v ck)
 | .stop todo st,a=>(a,.stop todo st)
def AU (P:Program) (cfg:Cfg) (fn:Func) (root:Code):Nat→List PI→ST→List Prop→Option (List Prop×SV×List Chunk)
 | 0,_,_,_=>none
 | n+1,todo,st,a=>match (exec P cfg fn root 1000 todo st).walk a with
   | (a',.ret v ck)=>some (a',v,ck)
   | (a',.stop todo' st')=>AU P cfg fn root n todo' st' a'
   | _=>none
def jY:List Prop→Prop
 | []=>True
 | p::r=>p∧jY r
section
variable {P:Program} {cfg:Cfg} {Γ:Ctx} {Q:Out} {f:FuncId} {fn:Func} {root:Code}
theorem Tree.walk_J:∀ {t t':Tree} {a a':List Prop},t.walk a=(a',t')→jY a'→t'.J P f root Γ Q→t.J P f root Γ Q∧jY a
 | .ite b t e,t',a,a',h,hp,hj=>by
   cases b
   · obtain ⟨h1,h2⟩:=Tree.walk_J (t:=e) h hp hj
     exact ⟨⟨fun h=>(by cases h),fun _=>h1⟩,h2⟩
   · obtain ⟨h1,h2⟩:=Tree.walk_J (t:=t) h hp hj
     exact ⟨⟨fun _=>h1,fun h=>(by cases h)⟩,h2⟩
 | .need p t,t',a,a',h,hp,hj=>by
   obtain ⟨h1,h2⟩:=Tree.walk_J (t:=t) h hp hj
   exact ⟨⟨h2.1,h1⟩,h2.2⟩
 | .ret v ck,t',a,a',h,hp,hj=>by
   simp only [Tree.walk,ae] at h
   obtain ⟨rfl,rfl⟩:=h; exact ⟨hj,hp⟩
 | .stop todo st,t',a,a',h,hp,hj=>by
   simp only [Tree.walk,ae] at h
   obtain ⟨rfl,rfl⟩:=h; exact ⟨hj,hp⟩
theorem GO (ht:ai P cfg.tab) (hf:P.funcs[f]?=some fn):∀ (n:Nat) {todo:List PI} {st:ST} {a ps:List Prop} {v:SV} {ck:List Chunk},AU P cfg fn root n todo st a=some (ps,v,ck)→jY ps→Q v ck→J P f root Γ Q todo st∧jY a
 | 0,_,_,_,_,_,_,h,_,_=>by cases h
 | n + 1,todo,st,a,ps,v,ck,h,hp,hq=>by
   simp only [AU] at h
   split at h
   · rename_i a' v' ck' he
     simp only [aa,ae] at h
     obtain ⟨rfl,rfl,rfl⟩:=h
     obtain ⟨h1,h2⟩:=Tree.walk_J (Q:=Q) (Γ:=Γ) (P:=P) (f:=f) (root:=root) he hp hq
     exact ⟨J.go ht hf 1000 rfl h1,h2⟩
   · rename_i a' todo' st' he
     obtain ⟨h3,h4⟩:=GO ht hf n h hp hq
     obtain ⟨h1,h2⟩:=Tree.walk_J (Q:=Q) (Γ:=Γ) (P:=P) (f:=f) (root:=root) he h4 h3
     exact ⟨J.go ht hf 1000 rfl h1,h2⟩
   · cases h
theorem ak.run {args:List SX} {ck:List Chunk} {ret:SV} {ck':List Chunk} (ht:ai P cfg.tab) (hf:P.funcs[f]?=some fn) (hb:fn.body.isSome=true) (hn:Nat.ble args.length fn.ntmps=true) (n:Nat) (ps:List Prop)
 (he:AU P cfg fn (aI fn) n [.code []] (cN fn.ntmps args ck) []=some (ps,ret,ck')) (hp:jY ps):ak P f args ck ret ck' :=
 ak.of hf hb hn fun Γ=>(GO (Q:=Eq2 ret ck') ht hf n he hp ⟨rfl,rfl⟩).1
noncomputable def fV (P:Program) (cfg:Cfg) (fn:Func) (n:Nat) (f:FuncId):Ent:=(f,fun vs ck=>bif Nat.ble vs.length fn.ntmps then
 (match AU P cfg fn (aI fn) n [.code []] (cN fn.ntmps vs ck) [] with
  | some ([],ret,ck')=>some (none,ret,ck')
  | some (p::ps,ret,ck')=>some (some (jY (p::ps)),ret,ck')
  | none=>none) else none)
theorem er {n:Nat} (ht:ai P cfg.tab) (hf:P.funcs[f]?=some fn) (hb:fn.body.isSome=true) {vs:List SX} {ck:List Chunk} {p:Option Prop} {ret:SV} {ck':List Chunk} (h:(fV P cfg fn n f).2 vs ck=some (p,ret,ck')) (hp:Holds p):ak P f vs ck ret ck':=by
 simp only [fV] at h
 cases hn:Nat.ble vs.length fn.ntmps
 · rw [hn,cond_false] at h; cases h
 · rw [hn,cond_true] at h
   split at h
   · rename_i he
     simp only [aa,ae] at h
     obtain ⟨rfl,rfl,rfl⟩:=h
     exact ak.run ht hf hb hn n _ he trivial
   · rename_i he
     simp only [aa,ae] at h
     obtain ⟨rfl,rfl,rfl⟩:=h
     exact ak.run ht hf hb hn n _ he hp
   · cases h
end
end Go.Ev
namespace Go.Proofs.YtpfidgnkokidoaaGreatDoor
open Go Go.Ev
def bf:Str→Str→List Str
 | cur,[]=>[cur]
 | cur,c::r=>bif c==59 then cur::bf [] r else bf (cur++[c]) r
variable (s:Str) (b:UInt8)
def dr:Str:=s.takeWhile fun c=>!(c==61)
def b8:Str:=(s.dropWhile fun c=>!(c==61)).drop 1
def eJ:Bool:=s.any fun c=>c==61
theorem wK (j:Nat):Lib.occAt s [b] j=true↔s[j]?=some b:=by
 have h:s[j]?=(s.drop j).head?:=by rw [List.head?_drop]
 rw [h]
 unfold Lib.occAt
 cases hd:s.drop j with
 | nil=>simp [List.isPrefixOf]
 | cons x r=>simp [List.isPrefixOf]; exact eq_comm
theorem l7:(Lib.index s [b] = -1∧b ∉ s)∨∃ a r,s=a++b::r∧b ∉ a∧Lib.index s [b]=(a.length:Int):=by
 rcases Lib.index_spec s [b] with ⟨h1,h2⟩ | ⟨i,h1,h2,h3,h4⟩
 · refine .inl ⟨h1,fun hm=>?_⟩
   obtain ⟨j,hj,e⟩:=List.mem_iff_getElem.1 hm
   have:=h2 j (by omega)
   rw [(wK s b j).2 (by rw [List.getElem?_eq_getElem hj,e])] at this
   cases this
 · have h5:=(wK s b i).1 h3
   obtain ⟨hi,h6⟩:=List.getElem?_eq_some_iff.1 h5
   refine .inr ⟨s.take i,s.drop (i+1),?_,fun hm=>?_,by rw [h1,bw]; omega⟩
   · rw [← h6,← cX hi,dG]
   · obtain ⟨j,hj,e⟩:=List.mem_iff_getElem.1 hm
     rw [bw] at hj
     have h7:=h4 j (by omega)
     rw [(wK s b j).2 (by rw [List.getElem?_eq_getElem (by omega)]; rw [List.getElem_take] at e; rw [e])] at h7
     cases h7
theorem mY:∀ (s cur:Str),(59:UInt8) ∉ s→bf cur s=[cur++s]
 | [],cur,_=>by simp [bf]
 | c::r,cur,h=>by
   simp only [aO,not_or] at h
   have hc:(c==59)=false:=by simpa using fun e=>h.1 e.symm
   rw [bf,hc,cond_false,mY r _ h.2]; simp
theorem nY:∀ (a cur b:Str),(59:UInt8) ∉ a→bf cur (a++59::b)=(cur++a)::bf [] b
 | [],cur,b,_=>by simp [bf]
 | c::r,cur,b,h=>by
   simp only [aO,not_or] at h
   have hc:(c==59)=false:=by simpa using fun e=>h.1 e.symm
   rw [bE,bf,hc,cond_false,nY r _ b h.2]; simp
theorem qL:∀ (k:Nat) (s:Str),Lib.count s [59]=k→Lib.splitK [59] 0 k s=bf [] s
 | 0,s,h=>by
   rw [Lib.count_one] at h
   rw [mY s [] (List.count_eq_zero.1 h)]; rfl
 | k + 1,s,h=>by
   rcases l7 s 59 with ⟨h1,_⟩ | ⟨a,r,rfl,h2,h3⟩
   · rw [Lib.count_miss h1] at h; omega
   · have h4:=Lib.count_hit (by simp) h3
     have e:(a++59::r).drop (a.length+1)=r:=by
      rw [← eX,ew]; rfl
     rw [show ([59]:Str).length=1 from rfl,e] at h4
     rw [Lib.splitK,if_neg (by rw [h3]; simp),h3,bj,show ([59]:Str).length=1 from rfl,e,b6,eY,nY a [] r h2,qL k r (by omega)]; rfl
theorem Cl:(Lib.splitB ⟨#[59]⟩ 0 (Lib.countB (bs s) ⟨#[59]⟩) (bs s)).map (·.data.toList)=bf [] s:=by
 rw [Lib.splitB_data]
 have e:(bs s).data.toList=s:=cF s
 rw [e]
 exact qL _ s (by show Lib.count s [59]=Lib.count (bs s).data.toList _; rw [e])
theorem Ov:Lib.cut s [61]=if eJ s=true then (dr s,b8 s,true) else (s,[],false):=by
 unfold Lib.cut
 rcases l7 s 61 with ⟨h1,h2⟩ | ⟨a,r,rfl,h2,h3⟩
 · have:eJ s=false:=by
    unfold eJ; rw [dt]; intro x hx e; exact h2 (by rw [← beq_iff_eq.1 e]; exact hx)
   rw [if_neg (by omega),this]; rfl
 · have e:(a++61::r).drop (a.length+1)=r:=by
    rw [← eX,ew]; rfl
   have ha:∀ x∈a,(!(x==(61:UInt8)))=true:=fun x hx=>by
    have:x≠61:=fun e=>h2 (e ▸ hx)
    simpa using this
   have:eJ (a++61::r)=true:=by simp [eJ]
   rw [if_pos (by omega),this,if_pos rfl,h3,bj,show ([61]:Str).length=1 from rfl,e,eY]
   have e1:dr (a++61::r)=a:=by
    unfold dr; rw [eg ha]; simp
   have e2:b8 (a++61::r)=r:=by
    unfold b8; rw [ei ha]; simp
   rw [e1,e2]
theorem OT (h:eJ s=false):dr s=s∧b8 s=[]:=by
 have ha:∀ x∈s,(!(x==(61:UInt8)))=true:=fun x hx=>by
  have:=(dt.1 h) x hx
  simpa using this
 constructor
 · unfold dr; have:=eg (l₂:=[]) ha; simpa using this
 · unfold b8; have:=ei (l₂:=[]) ha; simp at this; rw [this]; rfl
theorem GW (h:eJ s=true):s=dr s++61::b8 s∧(61:UInt8) ∉ dr s:=by
 rcases l7 s 61 with ⟨h1,h2⟩ | ⟨a,r,rfl,h2,h3⟩
 · exfalso
   obtain ⟨x,hx,e⟩:=df.1 h
   exact h2 (by rw [← beq_iff_eq.1 e]; exact hx)
 · have ha:∀ x∈a,(!(x==(61:UInt8)))=true:=fun x hx=>by
    have:x≠61:=fun e=>h2 (e ▸ hx)
    simpa using this
   have e1:dr (a++61::r)=a:=by
    unfold dr; rw [eg ha]; simp
   have e2:b8 (a++61::r)=r:=by
    unfold b8; rw [ei ha]; simp
   rw [e1,e2]; exact ⟨rfl,h2⟩
end Go.Proofs.YtpfidgnkokidoaaGreatDoor
namespace Go.Proofs.YtpfidgnkokidoaaGreatDoor
open Go Go.Ev
set_option maxRecDepth 100000
abbrev zNa1:List PI:=[.code [1,1,0,1,0,0],.inLoop [1,1,0,1,0,0],.inBlock 0,.code [1,1,1]]
variable (a b s:Str)
theorem Ho (Γ:Ctx) (h0:vY s=false):∀ (n k:Nat),s.length - k≤n→k≤s.length→(∀ j,j<k→BT (s.getD j 0)=false) →
 J Tryz.prog 20 (aI Tryz.f20) Γ (Eq2 (.x (.b (aP s))) []) zNa1 ({ n:=56,fr:=[(0,.p (.str s)),(2,.p (.bool false)),(23,.i (af s)),(24,.i k)],ck:=[],kn:=[2] }):=by
 have hlen:s.length≤12:=by simp [vY,af] at h0; omega
 intro n
 induction n with
 | zero=>?_
 | succ n ih=>?_
 all_goals
  intro k hn hk hb
  refine jg bG Tryz.func20 (let x1:=(↑((List.getD s k (0:UInt8)).toNat):Int); let x2:Tree:=(.ret (.p (.bool false)) []); .ite (decide ((k:Int)<af s)) (.need ((0:Int)≤(k:Int)∧(k:Int)<af s) (.ite ((decide (x1<97)||decide (x1>122))&&(decide (x1<48)||decide (x1>57))&&x1 != 95) x2 (.stop zNa1 { n:=56,fr:=[(0,.p (.str s)),(2,.p (.bool false)),(23,.i (af s)),(24,.i (IntKind.wrap .i64 ((k:Int)+1)))],ck:=[],kn:=[2] }))) (.ite (s==[116,114,117,101]) x2 (.ite (s==[102,97,108,115,101]) x2 (.ite (s==[105,110]) x2 (.ite (s==[114,101]) x2 (.ite (s==[105,109]) x2 (.ret (.p (.bool true)) []))))))) ?_
  conv=>zeta
  have hend:¬k<s.length→s.any BT=false:=fun h=>AW fun j hj=>hb j (by omega)
  refine ⟨fun hlt=>⟨?_,fun hbad=>⟨?_,rfl⟩,fun hok=>?_⟩,fun hge=>?_⟩
  · have:=of_decide_eq_true hlt; simp only [af] at this ⊢; omega
  · have:=of_decide_eq_true hlt; simp only [af] at this
    have hbad':BT (s.getD k 0)=true:=hbad
    simp only [aP,KZ (by omega) hbad']; simp
  · have:=of_decide_eq_true hlt; simp only [af] at this
    first
    | (exfalso; omega)
    | (rw [ee (by omega)]
       exact ih (k+1) (by omega) (by omega) fun j hj=>if e:j=k then by rw [e]; exact hok else hb j (by omega))
  · have:=of_decide_eq_false hge; simp only [af] at this
    have hany:=hend (by omega)
    refine ⟨fun h1=>⟨?_,rfl⟩,fun h1=>⟨fun h2=>⟨?_,rfl⟩,fun h2=>⟨fun h3=>⟨?_,rfl⟩,fun h3=>⟨fun h4=>⟨?_,rfl⟩,fun h4=>⟨fun h5=>⟨?_,rfl⟩,fun h5=>⟨?_,rfl⟩⟩⟩⟩⟩⟩ <;>
     simp [aP,h0,hany,AP, *]
theorem HJ:ak Tryz.prog 20 [.s s] [] (.x (.b (aP s))) []:=by
 refine dg bG Tryz.func20 (let x1:=(↑((List.getD s 0 (0:UInt8)).toNat):Int); let x2:=(af s>(12:Int)); .need ((s==[]||decide x2)=false→(0:Int)≤0∧(0:Int)<af s) (.need ((s==[]||decide x2||decide (x1<97))=false→(0:Int)≤0∧(0:Int)<af s) (.ite (s==[]||decide x2||decide (x1<97)||decide (x1>122)) (.ret (.p (.bool false)) []) (.stop zNa1 { n:=56,fr:=[(0,.p (.str s)),(2,.p (.bool false)),(23,.i (af s)),(24,.i 0)],ck:=[],kn:=[2] })))) fun Γ=>?_
 conv=>zeta
 have hpos:(s==[]||decide (af s>12))=false→0≤(0:Int)∧0<af s:=by
  intro h
  cases s with
  | nil=>simp at h
  | cons c r=>simp [af]
 refine ⟨hpos,fun h=>hpos ?_,fun h=>⟨?_,rfl⟩,fun h=>?_⟩
 · simp only [aJ] at h ⊢; exact h.1
 · have h':vY s=true:=h
   simp [aP,h']
 · exact Ho s _ h s.length 0 (by omega) (by omega) (fun j hj=>by omega)
def hO:Ent:=(20,fun
 | [.c (.pd (.str s))],[]=>some (none,.x (.c (.pd (.bool (aP s)))),[])
 | _,_=>none)
theorem fK:EntOk Tryz.prog hO:=entOk fun vs ck=>by
 unfold hO; dsimp only; split
 · rename_i s; exact entS fun hp=>HJ s
 · exact entN
theorem wb:ak Tryz.prog 135 [.s a,.s b] [] (.x (.b (decide (af a≥af b)&&a.take (af b).toNat==b))) []:=by
 refine dg bG Tryz.func135 (.need (decide (af a≥af b)=true→(0:Int)≤af b∧af b≤(a.length:Int)) (.ret (.p (.bool (decide (af a≥af b)&&(aC a none (some (af b))).2==b))) [])) fun Γ=>?_
 refine ⟨fun h=>?_,rfl,rfl⟩
 have:=of_decide_eq_true h
 have h1:af b=(b.length:Int):=rfl
 have h2:af a=(a.length:Int):=rfl
 omega
def eHp:Ent:=(135,fun
 | [.c (.pd (.str a)),.c (.pd (.str b))],[]=>some (none,.x (.c (.pd (.bool (decide (af a≥af b)&&a.take (af b).toNat==b)))),[])
 | _,_=>none)
theorem Ie:EntOk Tryz.prog eHp:=entOk fun vs ck=>by
 unfold eHp; dsimp only; split
 · rename_i a b; exact entS fun hp=>wb a b
 · exact entN
def LK:Cfg:=⟨bx,[eHp]⟩
theorem Kf:ai Tryz.prog LK.tab:=(ai.cons Ie ai.nil)
def bo:Bool:=decide (af a≥af b)&&a.take (af b).toNat==b
def bC:Str:=bif bo a b then a.drop (af b).toNat else a
def cA:Bool:=aP (bC s [100,111,110,101,46])
theorem vu:ak Tryz.prog 143 [.s a,.s b] [] (.tup [.s (bC a b),.b (bo a b)]) []:=by
 refine dg Kf Tryz.func143 (.ite (!(decide (af a≥af b)&&List.take ((af b).toNat) a==b)) (.ret (.tup [.p (.str a),.p (.bool false)]) []) (.need ((0:Int)≤af b∧af b≤(a.length:Int)) (.ret (.tup [.p (.str ((aC a (some (af b)) none).2)),.p (.bool true)]) []))) fun Γ=>?_
 refine ⟨fun h=>⟨?_,rfl⟩,fun h=>⟨?_,?_,rfl⟩⟩
 · have h':bo a b=false:=by
    have h2:(!bo a b)=true:=h
    simpa using h2
   simp [bC,h']
 · have h':bo a b=true:=by
    have h2:(!bo a b)=false:=h
    simpa using h2
   simp only [bo,ab,decide_eq_true_eq] at h'
   have h1:af b=(b.length:Int):=rfl
   have h2:af a=(a.length:Int):=rfl
   omega
 · have h':bo a b=true:=by
    have h2:(!bo a b)=false:=h
    simpa using h2
   simp [bC,h',aC]
def yP:Ent:=(143,fun
 | [.c (.pd (.str a)),.c (.pd (.str b))],[]=>some (none,.tup [.c (.pd (.str (bC a b))),.c (.pd (.bool (bo a b)))],[])
 | _,_=>none)
theorem Js:EntOk Tryz.prog yP:=entOk fun vs ck=>by
 unfold yP; dsimp only; split
 · rename_i a b; exact entS fun hp=>vu a b
 · exact entN
def DF:Cfg:=⟨bx,[yP]⟩
theorem Fb:ai Tryz.prog DF.tab:=(ai.cons Js ai.nil)
theorem wJ:ak Tryz.prog 114 [.s a,.s b] [] (.tup [.s (bC a b),.b (bo a b)]) []:=by
 refine dg Fb Tryz.func114 (.ret (.tup [.p (.str (bC a b)),.p (.bool (bo a b))]) []) fun Γ=>?_
 exact ⟨rfl,rfl⟩
def rH:Ent:=(114,fun
 | [.c (.pd (.str a)),.c (.pd (.str b))],[]=>some (none,.tup [.c (.pd (.str (bC a b))),.c (.pd (.bool (bo a b)))],[])
 | _,_=>none)
theorem oh:EntOk Tryz.prog rH:=entOk fun vs ck=>by
 unfold rH; dsimp only; split
 · rename_i a b; exact entS fun hp=>wJ a b
 · exact entN
end Go.Proofs.YtpfidgnkokidoaaGreatDoor
