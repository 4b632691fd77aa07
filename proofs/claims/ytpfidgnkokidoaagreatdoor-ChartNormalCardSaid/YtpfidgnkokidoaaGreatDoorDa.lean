/- An executor for function bodies of the model over data, part VD: a pointer set against nil. Conditions: each rule's own. An executor for function bodies of the model over data, part VE: calls whose truths are all written out, run to their end. Conditions: those that the run tells. Texts cut at a byte: plain. Conditions: none. Plain functions: names, cells, kinds. Conditions: none. -/
import Derived.Test.YtpfidgnkokidoaaGreatDoorVc
import Derived.Test.YtpfidgnkokidoaaGreatDoorPX
import Derived.Lib.SplitLaws
import Derived.Test.YtpfidgnkokidoaaGreatDoorRows
namespace Go.Ev
open Go.RowKit
def FV:SX→Option Bool
 | .c (.loc _ _)=>some true
 | .c (.oat _ _ _ _)=>some true
 | .c (.pd (.ref _ _ _))=>some true
 | .c (.pd (.v (.pointer none)))=>some false
 | _=>none
theorem DT {V:Vn} {x:SX} {b:Bool} (h:FV x=some b) {u:Value} (hu:x.R V u):∃ a:Option Addr,u = .pointer a∧a.isSome=b:=by
 unfold FV at h
 split at h
 · simp only [aa] at h; subst h
   have e:u = .pointer (some _):=hu
   exact ⟨_,e,rfl⟩
 · simp only [aa] at h; subst h
   have e:u = .pointer (some _):=hu
   exact ⟨_,e,rfl⟩
 · simp only [aa] at h; subst h
   have hp:PR V.H (.ref _ _ _) u:=hu
   cases hp
   exact ⟨_,rfl,rfl⟩
 · simp only [aa] at h; subst h
   have hp:PR V.H (.v (.pointer none)) u:=hu
   cases hp
   exact ⟨none,rfl,rfl⟩
 · cases h
def xL (P:Program) (root:Code) (p:List Nat) (i:Nat) (st:ST):Option (Nat×Bool) :=
 match (opsOf (sub root p))[i]? with
 | some o=>match o.guard,o.dst,o.op with
   | none,some d,.binOp op ty (.tmp s) (.const (.pointer none)) _=>match P.underlying ty,lookup st.fr s with
     | some (.pointer _),some (.x v)=>match FV v,op with
       | some b,.neq=>bif Nat.blt d st.n then some (d,b) else none
       | some b,.eql=>bif Nat.blt d st.n then some (d,!b) else none
       | _,_=>none
     | _,_=>none
   | _,_,_=>none
 | none=>none
section
variable {P:Program} {f:FuncId} {root:Code} {Γ:Ctx} {Q:Out} {st:ST} {k:List PI}
theorem mU (w:World) (d:Nat) {t e:TypeId} (ht:P.underlying t=some (.pointer e)) (a:Option Addr):(Op.equalIn (d+1) t (.pointer a) (.pointer none)).run P w = .ok (!a.isSome) w:=by
 cases a <;> simp [Op.equalIn,run_underlying ht]
theorem Ca {w:World} {t e:TypeId} (ht:P.underlying t=some (.pointer e)) (a:Option Addr):(binOp .neq t (.pointer a) (.pointer none)).run P w = .ok (.bool a.isSome) w:=by
 simp only [binOp]
 simp [Op.equal,Op.maxDepth,mU w 9999 ht a]
theorem CF {w:World} {t e:TypeId} (ht:P.underlying t=some (.pointer e)) (a:Option Addr):(binOp .eql t (.pointer a) (.pointer none)).run P w = .ok (.bool (!a.isSome)) w:=by
 simp only [binOp]
 simp [Op.equal,Op.maxDepth,mU w 9999 ht a]
theorem J.ptrNil {p:List Nat} {i d:Nat} {b:Bool} (h:xL P root p i st=some (d,b)) (hk:J P f root Γ Q (.ops p (i+1)::k) { st with fr:=ei d (.x (.b b)) st.fr }):J P f root Γ Q (.ops p i::k) st:=by
 unfold xL at h
 split at h
 · rename_i o ho
   split at h
   · rename_i d' op ty s yt hg hd hop
     have fin:Nat.blt d' st.n=true→(∀ V a w,Rel Γ st V a w→(execOp a.eval o).run P w = .ok (.value (.bool b)) w)→d'=d→J P f root Γ Q (.ops p i::k) st:=by
      rintro hb hr rfl hT V a w r
      have hi:i<(opsOf (sub root p)).size:=(Array.getElem?_eq_some_iff.1 ho).1
      have hsz:(opsOf (sub root p)).size - i=((opsOf (sub root p)).size - (i+1))+1:=by omega
      simp only [ay,PI.den]
      rw [hsz,cv]
      have hw:Region.wanted o (yielded (opsOf (sub root p)) a.tmps)=true:=by simp only [Region.wanted,hg]
      have hput:fW st (some d') (.x (.b b))=some { st with fr:=ei d' (.x (.b b)) st.fr }:=by simp only [fW,hb,cond_true]
      refine Go.Sy.Fin.op_value ho hw (hr V a w r) ?_
      rw [hd]
      exact hk hT V _ _ (eK r hput (v:=.bool b) (.bool b))
     split at h
     · rename_i e v hu hl
       have look:∀ V a w,Rel Γ st V a w→∀ c,FV v=some c→∃ ao:Option Addr,a.eval (.tmp s) = .pointer ao∧ao.isSome=c:=fun V a w r c hc=>DT hc (r.slots s _ (dE hl))
       have guard:∀ (q:BinOp) (ao:Option Addr) (w:World),(eqGuard q ty (.tmp s) (.const (.pointer none)) (.pointer ao) (.pointer none)).run P w = .ok () w:=fun q ao w=>by
        rw [iN q ty (.tmp s) (.const (.pointer none)) (a:=.pointer ao) (b:=.pointer none) ⟨fun _ e=>(by cases e),(by intro e; cases e)⟩]
       split at h
       · rename_i c hc
         cases hb:Nat.blt d' st.n
         · rw [hb] at h; cases h
         · rw [hb] at h
           simp only [cond_true,aa,ae] at h
           obtain ⟨e1,rfl⟩:=h
           refine fin hb (fun V a w r=>?_) e1
           obtain ⟨ao,h1,h2⟩:=look V a w r _ hc
           obtain ⟨dst,op,ty',pos,after,guard'⟩:=o
           simp only at hop
           subst hop
           simp only [execOp]
           refine bM ?_
           have e3:a.eval (.const (.pointer none)) = .pointer none:=rfl
           rw [h1,e3]
           simp only [Sem.run_bind,guard,Result.andThen_ok]
           rw [Ca hu ao,h2]
       · rename_i c hc
         cases hb:Nat.blt d' st.n
         · rw [hb] at h; cases h
         · rw [hb] at h
           simp only [cond_true,aa,ae] at h
           obtain ⟨e1,rfl⟩:=h
           refine fin hb (fun V a w r=>?_) e1
           obtain ⟨ao,h1,h2⟩:=look V a w r _ hc
           obtain ⟨dst,op,ty',pos,after,guard'⟩:=o
           simp only at hop
           subst hop
           simp only [execOp]
           refine bM ?_
           have e3:a.eval (.const (.pointer none)) = .pointer none:=rfl
           rw [h1,e3]
           simp only [Sem.run_bind,guard,Result.andThen_ok]
           rw [CF hu ao,h2]
       · cases h
     · cases h
   · cases h
 · cases h
end
/-! ### guards that are literally true, or literally false -/
def xN (s:Nat) (want:Bool) (fr:List (Nat×SV)):List (Nat×SV):=fr.map fun p=>match p.2 with
 | .grd s' w' v=>bif Nat.beq s' s&&(w'==want) then (p.1,.x v) else p
 | _=>p
def Lc (P:Program) (cfg:Cfg) (root:Code) (p:List Nat) (i:Nat) (st:ST):Option (Option Prop×ST) :=
 match (opsOf (sub root p))[i]? with
 | some o=>match o.guard with
   | some (j,want)=>match ((opsOf (sub root p))[j]?).bind (·.dst) with
     | some s=>match lookup st.fr s with
       | some (.x (.c (.pd (.bool b))))=>bif b==want then qw P cfg o { st with fr:=xN s want st.fr } else none
       | _=>none
     | none=>none
   | none=>none
 | none=>none
section
variable {P:Program} {cfg:Cfg} {f:FuncId} {root:Code} {Γ:Ctx} {Q:Out} {st st':ST} {k:List PI}
theorem Rel.settle {V:Vn} {a:Act} {w:World} (r:Rel Γ st V a w) {s:Nat} {want:Bool} (hon:a.tmps.getD s undef = .bool want):Rel Γ { st with fr:=xN s want st.fr } V a w:=by
 refine ⟨r.1,r.2,fun t sv h=>?_,r.4,r.5⟩
 obtain ⟨⟨t',sv'⟩,h1,h2⟩:=bo.1 h
 have h3:=r.slots t' sv' h1
 cases sv' with
 | grd s' w' v =>
   simp only at h2
   cases hb:(Nat.beq s' s&&(w'==want))
   · rw [hb] at h2
     simp only [cond_false,ae] at h2
     obtain ⟨rfl,rfl⟩:=h2; exact h3
   · rw [hb] at h2
     simp only [cond_true,ae] at h2
     obtain ⟨rfl,rfl⟩:=h2
     simp only [ab,beq_iff_eq] at hb
     have e1:=ar hb.1
     have e2:=hb.2
     subst e1; subst e2
     exact h3.1 hon
 | x v=>simp only [ae] at h2; obtain ⟨rfl,rfl⟩:=h2; exact h3
 | tup l=>simp only [ae] at h2; obtain ⟨rfl,rfl⟩:=h2; exact h3
theorem J.on (ht:ai P cfg.tab) {p:List Nat} {i:Nat} {q:Option Prop} (h:Lc P cfg root p i st=some (q,st')) (hq:Holds q) (hk:J P f root Γ Q (.ops p (i+1)::k) st'):J P f root Γ Q (.ops p i::k) st:=by
 unfold Lc at h
 split at h
 · rename_i o ho
   split at h
   · rename_i j want hg
     split at h
     · rename_i s hs
       split at h
       · rename_i b hl
         cases hb:(b==want)
         · rw [hb] at h; cases h
         · rw [hb,cond_true] at h
           have hbw:b=want:=by simpa using hb
           subst hbw
           intro hT V a w r
           have hon:a.tmps.getD s undef = .bool b:=by
            have h2:SX.R V (.c (.pd (.bool b))) (a.tmps.getD s undef):=r.slots s _ (dE hl)
            generalize a.tmps.getD s undef=u at h2 ⊢
            cases h2; rfl
           have hi:i<(opsOf (sub root p)).size:=(Array.getElem?_eq_some_iff.1 ho).1
           have hsz:(opsOf (sub root p)).size - i=((opsOf (sub root p)).size - (i+1))+1:=by omega
           simp only [ay,PI.den]
           rw [hsz,cv]
           exact ki ⟨ht,hT⟩ (r.settle hon) ho (la hg hs hon) h hq fun V' a' w' r'=>hk hT V' a' w' r'
       · cases h
     · cases h
   · cases h
 · cases h
def vK (root:Code) (p:List Nat):Nat→Nat→ST→Option ST
 | 0,_,st=>some st
 | n + 1,i,st=>match (opsOf (sub root p))[i]? with
   | some o=>match o.guard,o.dst with
     | some (j,want),some d=>match ((opsOf (sub root p))[j]?).bind (·.dst) with
       | some s=>match lookup st.fr s with
         | some (.x (.c (.pd (.bool b))))=>bif !(b==want)&&(Nat.blt d st.n && !Nat.beq s d) then vK root p n (i+1) { st with fr:=ei d (.grd s want (.c (.pd (.bool false)))) st.fr } else none
         | _=>none
       | none=>none
     | _,_=>none
   | none=>none
theorem J.off {p:List Nat}:∀ (n i:Nat) {st st':ST},vK root p n i st=some st'→J P f root Γ Q (.ops p (i+n)::k) st'→J P f root Γ Q (.ops p i::k) st
 | 0,i,st,st',h,hk=>by
   simp only [vK,aa] at h
   subst h; exact hk
 | n + 1, i, st,st',h,hk=>by
   simp only [vK] at h
   split at h
   · rename_i o ho
     split at h
     · rename_i j want d hg hd
       split at h
       · rename_i s hs
         split at h
         · rename_i b hl
           cases hb:(!(b==want)&&(Nat.blt d st.n && !Nat.beq s d))
           · rw [hb] at h; cases h
           · rw [hb,cond_true] at h
             have ih:=J.off (p:=p) n (i+1) h (by rw [show i+1+n=i+(n+1) by omega]; exact hk)
             simp only [ab,aC] at hb
             have hdn:d<st.n:=aA hb.2.1
             have hsd:s≠d:=fun e=>by rw [e] at hb; simp at hb
             intro hT V a w r
             have hoff:¬a.tmps.getD s undef = .bool want:=by
              have h2:SX.R V (.c (.pd (.bool b))) (a.tmps.getD s undef):=r.slots s _ (dE hl)
              generalize a.tmps.getD s undef=u at h2 ⊢
              cases h2
              intro e
              simp only [Value.bool.injEq] at e
              rw [e] at hb; simp at hb
             have hi:i<(opsOf (sub root p)).size:=(Array.getElem?_eq_some_iff.1 ho).1
             have hsz:(opsOf (sub root p)).size - i=((opsOf (sub root p)).size - (i+1))+1:=by omega
             simp only [ay,PI.den]
             rw [hsz,cv]
             refine Go.Sy.Fin.op_unwanted ho (km hg hs hoff) ?_
             rw [hd]
             exact ih hT V _ _ (r.put d (.grd s want (.c (.pd (.bool false)))) _ hdn fun a' ha h2=>⟨fun h3=>absurd (by rw [← ha s hsd]; exact h3) hoff,fun _=>h2⟩)
         · cases h
       · cases h
     · cases h
   · cases h
end
end Go.Ev
namespace Go.Ev
open Go.RowKit
def Tree.walk:Tree→List Prop→List Prop×Tree
 | .ite b t e,a=>match b with
   | true=>t.walk a
   | false=>e.walk a
 | .need p t,a=>t.walk (p::a)
 | .ret v ck,a=>(a,.ret v ck)
 | .stop todo st,a=>(a,.stop todo st)
def Bg (P:Program) (cfg:Cfg) (fn:Func) (root:Code):Nat→List PI→ST→List Prop→Option (List Prop×SV×List Chunk)
 | 0,_,_,_=>none
 | n+1,todo,st,a=>match (exec P cfg fn root 1000 todo st).walk a with
   | (a',.ret v ck)=>some (a',v,ck)
   | (a',.stop todo' st')=>Bg P cfg fn root n todo' st' a'
   | _=>none
def jT:List Prop→Prop
 | []=>True
 | p::r=>p∧jT r
section
variable {P:Program} {cfg:Cfg} {Γ:Ctx} {Q:Out} {f:FuncId} {fn:Func} {root:Code}
theorem Tree.walk_J:∀ {t t':Tree} {a a':List Prop},t.walk a=(a',t')→jT a'→t'.J P f root Γ Q→t.J P f root Γ Q∧jT a
 | .ite b t e,t',a,a',h,hp,hj=>by
   cases b
   · obtain ⟨h1,h2⟩:=Tree.walk_J (t:=e) h hp hj
     exact ⟨⟨fun h=>(by cases h),fun _=>h1⟩,h2⟩
   · obtain ⟨h1,h2⟩:=Tree.walk_J (t:=t) h hp hj
     exact ⟨⟨fun _=>h1,fun h=>(by cases h)⟩,h2⟩
 | .need p t,t',a,a',h,hp,hj=>by
   obtain ⟨h1,h2⟩:=Tree.walk_J (t:=t) h hp hj
   exact ⟨⟨h2.1,h1⟩,h2.2⟩
 | .ret v ck,t',a,a',h,hp,hj=>by
   simp only [Tree.walk,ae] at h
   obtain ⟨rfl,rfl⟩:=h; exact ⟨hj,hp⟩
 | .stop todo st,t',a,a',h,hp,hj=>by
   simp only [Tree.walk,ae] at h
   obtain ⟨rfl,rfl⟩:=h; exact ⟨hj,hp⟩
theorem Hk (ht:ai P cfg.tab) (hf:P.funcs[f]?=some fn):∀ (n:Nat) {todo:List PI} {st:ST} {a ps:List Prop} {v:SV} {ck:List Chunk},Bg P cfg fn root n todo st a=some (ps,v,ck)→jT ps→Q v ck→J P f root Γ Q todo st∧jT a
 | 0,_,_,_,_,_,_,h,_,_=>by cases h
 | n + 1,todo,st,a,ps,v,ck,h,hp,hq=>by
   simp only [Bg] at h
   split at h
   · rename_i a' v' ck' he
     simp only [aa,ae] at h
     obtain ⟨rfl,rfl,rfl⟩:=h
     obtain ⟨h1,h2⟩:=Tree.walk_J (Q:=Q) (Γ:=Γ) (P:=P) (f:=f) (root:=root) he hp hq
     exact ⟨J.go ht hf 1000 rfl h1,h2⟩
   · rename_i a' todo' st' he
     obtain ⟨h3,h4⟩:=Hk ht hf n h hp hq
     obtain ⟨h1,h2⟩:=Tree.walk_J (Q:=Q) (Γ:=Γ) (P:=P) (f:=f) (root:=root) he h4 h3
     exact ⟨J.go ht hf 1000 rfl h1,h2⟩
   · cases h
theorem ak.run {args:List SX} {ck:List Chunk} {ret:SV} {ck':List Chunk} (ht:ai P cfg.tab) (hf:P.funcs[f]?=some fn) (hb:fn.body.isSome=true) (hn:Nat.ble args.length fn.ntmps=true) (n:Nat) (ps:List Prop)
 (he:Bg P cfg fn (aH fn) n [.code []] (cL fn.ntmps args ck) []=some (ps,ret,ck')) (hp:jT ps):ak P f args ck ret ck' :=
 ak.of hf hb hn fun Γ=>(Hk (Q:=Eq2 ret ck') ht hf n he hp ⟨rfl,rfl⟩).1
noncomputable def fV (P:Program) (cfg:Cfg) (fn:Func) (n:Nat) (f:FuncId):Ent:=(f,fun vs ck=>bif Nat.ble vs.length fn.ntmps then
 (match Bg P cfg fn (aH fn) n [.code []] (cL fn.ntmps vs ck) [] with
  | some ([],ret,ck')=>some (none,ret,ck')
  | some (p::ps,ret,ck')=>some (some (jT (p::ps)),ret,ck')
  | none=>none) else none)
theorem eu {n:Nat} (ht:ai P cfg.tab) (hf:P.funcs[f]?=some fn) (hb:fn.body.isSome=true) {vs:List SX} {ck:List Chunk} {p:Option Prop} {ret:SV} {ck':List Chunk} (h:(fV P cfg fn n f).2 vs ck=some (p,ret,ck')) (hp:Holds p):ak P f vs ck ret ck':=by
 simp only [fV] at h
 cases hn:Nat.ble vs.length fn.ntmps
 · rw [hn,cond_false] at h; cases h
 · rw [hn,cond_true] at h
   split at h
   · rename_i he
     simp only [aa,ae] at h
     obtain ⟨rfl,rfl,rfl⟩:=h
     exact ak.run ht hf hb hn n _ he trivial
   · rename_i he
     simp only [aa,ae] at h
     obtain ⟨rfl,rfl,rfl⟩:=h
     exact ak.run ht hf hb hn n _ he hp
   · cases h
end
end Go.Ev
namespace Go.Proofs.YtpfidgnkokidoaaGreatDoor
open Go Go.Ev
def ba:Str→Str→List Str
 | cur,[]=>[cur]
 | cur,c::r=>bif c==59 then cur::ba [] r else ba (cur++[c]) r
variable (s:Str) (b:UInt8)
def dp:Str:=s.takeWhile fun c=>!(c==61)
def b7:Str:=(s.dropWhile fun c=>!(c==61)).drop 1
def eF:Bool:=s.any fun c=>c==61
theorem vZ (j:Nat):Lib.occAt s [b] j=true↔s[j]?=some b:=by
 have h:s[j]?=(s.drop j).head?:=by rw [List.head?_drop]
 rw [h]
 unfold Lib.occAt
 cases hd:s.drop j with
 | nil=>simp [List.isPrefixOf]
 | cons x r=>simp [List.isPrefixOf]; exact eq_comm
theorem lK:(Lib.index s [b] = -1∧b ∉ s)∨∃ a r,s=a++b::r∧b ∉ a∧Lib.index s [b]=(a.length:Int):=by
 rcases Lib.index_spec s [b] with ⟨h1,h2⟩ | ⟨i,h1,h2,h3,h4⟩
 · refine .inl ⟨h1,fun hm=>?_⟩
   obtain ⟨j,hj,e⟩:=List.mem_iff_getElem.1 hm
   have:=h2 j (by omega)
   rw [(vZ s b j).2 (by rw [List.getElem?_eq_getElem hj,e])] at this
   cases this
 · have h5:=(vZ s b i).1 h3
   obtain ⟨hi,h6⟩:=List.getElem?_eq_some_iff.1 h5
   refine .inr ⟨s.take i,s.drop (i+1),?_,fun hm=>?_,by rw [h1,bw]; omega⟩
   · rw [← h6,← cZ hi,dJ]
   · obtain ⟨j,hj,e⟩:=List.mem_iff_getElem.1 hm
     rw [bw] at hj
     have h7:=h4 j (by omega)
     rw [(vZ s b j).2 (by rw [List.getElem?_eq_getElem (by omega)]; rw [List.getElem_take] at e; rw [e])] at h7
     cases h7
theorem mf:∀ (s cur:Str),(59:UInt8) ∉ s→ba cur s=[cur++s]
 | [],cur,_=>by simp [ba]
 | c::r,cur,h=>by
   simp only [aN,not_or] at h
   have hc:(c==59)=false:=by simpa using fun e=>h.1 e.symm
   rw [ba,hc,cond_false,mf r _ h.2]; simp
theorem nE:∀ (a cur b:Str),(59:UInt8) ∉ a→ba cur (a++59::b)=(cur++a)::ba [] b
 | [],cur,b,_=>by simp [ba]
 | c::r,cur,b,h=>by
   simp only [aN,not_or] at h
   have hc:(c==59)=false:=by simpa using fun e=>h.1 e.symm
   rw [bC,ba,hc,cond_false,nE r _ b h.2]; simp
theorem qB:∀ (k:Nat) (s:Str),Lib.count s [59]=k→Lib.splitK [59] 0 k s=ba [] s
 | 0,s,h=>by
   rw [Lib.count_one] at h
   rw [mf s [] (List.count_eq_zero.1 h)]; rfl
 | k + 1,s,h=>by
   rcases lK s 59 with ⟨h1,_⟩ | ⟨a,r,rfl,h2,h3⟩
   · rw [Lib.count_miss h1] at h; omega
   · have h4:=Lib.count_hit (by simp) h3
     have e:(a++59::r).drop (a.length+1)=r:=by
      rw [← eX,er]; rfl
     rw [show ([59]:Str).length=1 from rfl,e] at h4
     rw [Lib.splitK,if_neg (by rw [h3]; simp),h3,bf,show ([59]:Str).length=1 from rfl,e,b5,eY,nE a [] r h2,qB k r (by omega)]; rfl
theorem Cx:(Lib.splitB ⟨#[59]⟩ 0 (Lib.countB (bs s) ⟨#[59]⟩) (bs s)).map (·.data.toList)=ba [] s:=by
 rw [Lib.splitB_data]
 have e:(bs s).data.toList=s:=cE s
 rw [e]
 exact qB _ s (by show Lib.count s [59]=Lib.count (bs s).data.toList _; rw [e])
theorem Ot:Lib.cut s [61]=if eF s=true then (dp s,b7 s,true) else (s,[],false):=by
 unfold Lib.cut
 rcases lK s 61 with ⟨h1,h2⟩ | ⟨a,r,rfl,h2,h3⟩
 · have:eF s=false:=by
    unfold eF; rw [dt]; intro x hx e; exact h2 (by rw [← beq_iff_eq.1 e]; exact hx)
   rw [if_neg (by omega),this]; rfl
 · have e:(a++61::r).drop (a.length+1)=r:=by
    rw [← eX,er]; rfl
   have ha:∀ x∈a,(!(x==(61:UInt8)))=true:=fun x hx=>by
    have:x≠61:=fun e=>h2 (e ▸ hx)
    simpa using this
   have:eF (a++61::r)=true:=by simp [eF]
   rw [if_pos (by omega),this,if_pos rfl,h3,bf,show ([61]:Str).length=1 from rfl,e,eY]
   have e1:dp (a++61::r)=a:=by
    unfold dp; rw [dZ ha]; simp
   have e2:b7 (a++61::r)=r:=by
    unfold b7; rw [ee ha]; simp
   rw [e1,e2]
theorem NF (h:eF s=false):dp s=s∧b7 s=[]:=by
 have ha:∀ x∈s,(!(x==(61:UInt8)))=true:=fun x hx=>by
  have:=(dt.1 h) x hx
  simpa using this
 constructor
 · unfold dp; have:=dZ (l₂:=[]) ha; simpa using this
 · unfold b7; have:=ee (l₂:=[]) ha; simp at this; rw [this]; rfl
theorem Hg (h:eF s=true):s=dp s++61::b7 s∧(61:UInt8) ∉ dp s:=by
 rcases lK s 61 with ⟨h1,h2⟩ | ⟨a,r,rfl,h2,h3⟩
 · exfalso
   obtain ⟨x,hx,e⟩:=da.1 h
   exact h2 (by rw [← beq_iff_eq.1 e]; exact hx)
 · have ha:∀ x∈a,(!(x==(61:UInt8)))=true:=fun x hx=>by
    have:x≠61:=fun e=>h2 (e ▸ hx)
    simpa using this
   have e1:dp (a++61::r)=a:=by
    unfold dp; rw [dZ ha]; simp
   have e2:b7 (a++61::r)=r:=by
    unfold b7; rw [ee ha]; simp
   rw [e1,e2]; exact ⟨rfl,h2⟩
end Go.Proofs.YtpfidgnkokidoaaGreatDoor
namespace Go.Proofs.YtpfidgnkokidoaaGreatDoor
open Go Go.Ev
def bu:Tys:=[(2,.int),(3,.int),(4,.bool),(5,.byte),(9,.str),(22,.strs),(23,.vars),(24,.stats),(25,.trans),(27,.chart),(59,.val),(61,.var),(62,.deeds),(64,.stat),(66,.cells),(68,.tran),(90,.deed),(92,.cell),(158,.piece),(238,.wait)]
def cF:Cfg:=⟨bu,[]⟩
theorem bH:ai Tryz.prog cF.tab:=ai.nil
def Ar (c:UInt8):Bool :=
 (decide ((c.toNat:Int)<97)||decide ((c.toNat:Int)>122))&&(decide ((c.toNat:Int)<48)||decide ((c.toNat:Int)>57))&&((c.toNat:Int) != 95)
variable (s:Str)
def vp:Bool:=s==[]||decide (af s>12)||decide (((s.getD 0 0).toNat:Int)<97)||decide (((s.getD 0 0).toNat:Int)>122)
def BJ:Bool:=s==[116,114,117,101]||s==[102,97,108,115,101]||s==[105,110]||s==[114,101]||s==[105,109]
def aO:Bool:=!(vp s) && !(s.any Ar) && !(BJ s)
def fC (op a:Int) (s:Str):Int :=
 bif op==1 then (bif decide (a<0)||decide (a>1099511627776) || !s==[] then -1 else 0)
 else bif op==2 then (bif decide (a<0)||decide (a>1048576) || !s==[] then -1 else 0)
 else bif op==5 then (bif a != 0 || !aO s then -1 else 0)
 else bif op==6 then (bif a != 0 || !aO s then -1 else 0)
 else bif decide (op<3)||decide (op>23)||a != 0 || !s==[] then -1
 else bif decide (op≤4) then 0 else bif decide (op≤10) then 1 else 2
abbrev bx (c:Cell):Int:=fC c.op c.a c.name
def eM:List Cell→Int→Bool
 | [],n=>n==1
 | c::r,n=>bif decide (bx c<0)||decide (bx c>n) then false else eM r (n+(1 - bx c))
def cS (l:List Cell):Bool:=!decide ((l.length:Int)>32)&&eM l 0
def ix {α:Type} (p:α→Bool):List α→Int→Int
 | [],_=>-1
 | x::r,i=>bif p x then i else ix p r (i+1)
def wM (p:Int×Int):SV:=.tup [.i p.1,.i p.2]
theorem JN {p:UInt8→Bool} {s:List UInt8} {k:Nat} (hk:k<s.length) (h:p (s.getD k 0)=true):s.any p=true:=by
 rw [da]
 refine ⟨s.getD k 0,?_,h⟩
 rw [List.getD_eq_getElem?_getD,List.getElem?_eq_getElem hk]
 exact ew hk
theorem AF {p:UInt8→Bool} {s:List UInt8} (h:∀ j,j<s.length→p (s.getD j 0)=false):s.any p=false:=by
 rw [dt]
 intro x hx
 obtain ⟨j,hj,rfl⟩:=List.getElem_of_mem hx
 have:=h j hj
 rw [List.getD_eq_getElem?_getD,List.getElem?_eq_getElem hj] at this
 simpa using this
theorem bY {t:ETy} {l:List t.den} {k:Nat} (h:k<l.length):l.drop k=t.get l k::l.drop (k+1):=by
 rw [cZ h,ETy.get_eq (List.getElem?_eq_getElem h)]
theorem b9 {α:Type} {l:List α} {k:Nat} (h:¬k<l.length):l.drop k=[]:=List.drop_eq_nil_of_le (by omega)
/-! ### pieces of texts -/
def seg (f k:Nat):Str:=(s.take k).drop f
theorem iH (k:Nat):seg s k k=[]:=by
 unfold seg; rw [eT,bw]; omega
theorem eo {s:Str} {k:Nat} (h:k<s.length):s.drop k=s.getD k 0::s.drop (k+1):=by
 rw [cZ h,List.getD_eq_getElem?_getD,List.getElem?_eq_getElem h]; rfl
theorem jW {s:Str} {f k:Nat} (h:k<s.length) (hf:f≤k):seg s f (k+1)=seg s f k++[s.getD k 0]:=by
 unfold seg
 rw [eO h,List.drop_append_of_le_length (by rw [bw]; omega),List.getD_eq_getElem?_getD,List.getElem?_eq_getElem h]; rfl
theorem OE {s:Str} {f k:Nat} (h:f<k) (hk:k≤s.length):seg s f k≠[]:=by
 unfold seg
 intro e
 have:=congrArg List.length e
 rw [bF,bw] at this
 simp at this; omega
end Go.Proofs.YtpfidgnkokidoaaGreatDoor
