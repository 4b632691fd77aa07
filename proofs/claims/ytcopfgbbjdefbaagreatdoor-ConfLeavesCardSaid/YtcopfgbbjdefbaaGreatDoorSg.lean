/- An executor for function bodies of the model over data, part VJ: calls whose truths are all written out, run to their end, with functions looked up in maps and guards that are literal. Conditions: those that the run tells. No text twice: the program's word and the document's are alike (plain). Conditions: none. Events of transitions: the program's word and the document's are alike (plain). Conditions: states' names differ. A valid chart: its questions one by one; without one of its transitions; its names are found (plain). Conditions: none. -/
import Derived.Test.YtcopfgbbjdefbaaGreatDoorVe
import Derived.Test.YtcopfgbbjdefbaaGreatDoorTm
import Derived.Test.YtcopfgbbjdefbaaGreatDoorTj
import Derived.Test.YtcopfgbbjdefbaaGreatDoorTq
namespace Go.Ev
open Go.RowKit
def Ao (tys:Tys) (fz:Nat) (st:ST):Option ST :=
 match lookup st.fr fz with
 | some (.x (.c (.own n)))=>s9 tys st [n]
 | _=>some st
def pr (P:Program) (cfg:Cfg) (root:Code) (fz:Nat) (p:List Nat) (i:Nat) (st:ST):Option (Option Prop×ST) :=
 match (o8 P root p i st).isSome with
 | true=>match Ao cfg.tys fz st with
   | some st1=>match o8 P root p i st1 with
     | some (d,m,kx,_)=>match lookup st1.fr m,bE st1 none kx with
       | some (.x (.c (.pd (.tbl l)))),some (.c (.pd (.str s)))=>match fY l s with
         | some g=>some (none,{ st1 with fr:=bK d (.x (.c (.fn (.func g) [] []))) st1.fr })
         | none=>none
       | _,_=>none
     | none=>none
   | none=>none
 | false => match p8 P root p i st with
   | some (d,b)=>some (none,{ st with fr:=bK d (.x (.b b)) st.fr })
   | none=>match nG P root p i st with
     | some (d,b)=>some (none,{ st with fr:=bK d (.x (.b b)) st.fr })
     | none=>match Ct P cfg root p i st with
       | some r=>some r
       | none=>match oj root p 1 i st with
         | some st'=>some (none,st')
         | none=>none
def runD (P:Program) (cfg:Cfg) (fn:Func) (root:Code) (fz:Nat):Nat→List PI→ST→List Prop→Option (List Prop×SV×List Chunk)
 | 0,_,_,_=>none
 | n + 1,todo,st,a=>match (exec P cfg fn root 1000 todo st).walk a with
   | (a',.ret v ck)=>some (a',v,ck)
   | (a',.stop (.ops p i::k) st')=>match pr P cfg root fz p i st' with
     | some (none,st2)=>runD P cfg fn root fz n (.ops p (i+1)::k) st2 a'
     | some (some q,st2)=>runD P cfg fn root fz n (.ops p (i+1)::k) st2 (q::a')
     | none=>runD P cfg fn root fz n (.ops p i::k) st' a'
   | (a',.stop todo' st')=>runD P cfg fn root fz n todo' st' a'
   | _=>none
section
variable {P:Program} {cfg:Cfg} {Γ:Ctx} {Q:Out} {f:FuncId} {fn:Func} {root:Code}
theorem lr (ht:ag P cfg.tab) {fz:Nat} {p:List Nat} {i:Nat} {k:List PI} {st st':ST} {q:Option Prop} (h:pr P cfg root fz p i st=some (q,st')) (hq:Holds q) (hk:J P f root Γ Q (.ops p (i+1)::k) st'):J P f root Γ Q (.ops p i::k) st:=by
 unfold pr at h
 split at h
 · split at h
   · rename_i st1 hz
     have hj:J P f root Γ Q (.ops p i::k) st1:=by
      split at h
      · rename_i d m kx et hl
        split at h
        · rename_i l s hm hs
          split at h
          · rename_i g hg
            simp only [aa,ae] at h
            obtain ⟨rfl,rfl⟩:=h
            refine J.lookup (zv:=.nilFunc) (z:=.v .nilFunc) hl hm hs rfl (fun hn=>by rw [hg] at hn; cases hn) ?_
            rw [hg]; exact hk
          · cases h
        · cases h
      · cases h
     unfold Ao at hz
     split at hz
     · exact J.freeze cfg.tys _ hz hj
     · simp only [aa] at hz
       subst hz; exact hj
   · cases h
 · split at h
   · rename_i d b hf
     simp only [aa,ae] at h
     obtain ⟨rfl,rfl⟩:=h
     exact J.fnNil hf hk
   · split at h
     · rename_i d b hf
       simp only [aa,ae] at h
       obtain ⟨rfl,rfl⟩:=h
       exact J.ptrNil hf hk
     · split at h
       · rename_i r hr
         simp only [aa] at h
         subst h
         exact J.on ht hr hq hk
       · split at h
         · rename_i st2 ho
           simp only [aa,ae] at h
           obtain ⟨rfl,rfl⟩:=h
           exact J.off 1 i ho hk
         · cases h
theorem kM (ht:ag P cfg.tab) (hf:P.funcs[f]?=some fn) {fz:Nat}:∀ (n:Nat) {todo:List PI} {st:ST} {a ps:List Prop} {v:SV} {ck:List Chunk},runD P cfg fn root fz n todo st a=some (ps,v,ck)→eO ps→Q v ck→J P f root Γ Q todo st∧eO a
 | 0,_,_,_,_,_,_,h,_,_=>by cases h
 | n + 1,todo,st,a,ps,v,ck,h,hp,hq=>by
   simp only [runD] at h
   have back:∀ {a':List Prop} {todo':List PI} {st':ST},(exec P cfg fn root 1000 todo st).walk a=(a',.stop todo' st')→J P f root Γ Q todo' st'∧eO a'→J P f root Γ Q todo st∧eO a:=fun he hj=>by
    obtain ⟨h1,h2⟩:=Tree.walk_J (Q:=Q) (Γ:=Γ) (P:=P) (f:=f) (root:=root) he hj.2 hj.1
    exact ⟨J.go ht hf 1000 rfl h1,h2⟩
   split at h
   · rename_i a' v' ck' he
     simp only [aa,ae] at h
     obtain ⟨rfl,rfl,rfl⟩:=h
     obtain ⟨h1,h2⟩:=Tree.walk_J (Q:=Q) (Γ:=Γ) (P:=P) (f:=f) (root:=root) he hp hq
     exact ⟨J.go ht hf 1000 rfl h1,h2⟩
   · rename_i a' p i k st' he
     refine back he ?_
     split at h
     · rename_i st2 hs
       have h3:=kM ht hf n h hp hq
       exact ⟨lr ht hs trivial h3.1,h3.2⟩
     · rename_i q st2 hs
       have h3:=kM ht hf n h hp hq
       exact ⟨lr ht hs h3.2.1 h3.1,h3.2.2⟩
     · exact kM ht hf n h hp hq
   · rename_i a' todo' st' _ he
     exact back he (kM ht hf n h hp hq)
   · cases h
def runE (P:Program) (cfg:Cfg) (fn:Func) (root:Code) (fz:Nat):Nat→List PI→ST→List Prop→Option (List Prop×List PI×ST)
 | 0,todo,st,a=>some (a,todo,st)
 | n + 1,todo,st,a=>match (exec P cfg fn root 1000 todo st).walk a with
   | (a',.stop (.ops p i::k) st')=>match pr P cfg root fz p i st' with
     | some (none,st2)=>runE P cfg fn root fz n (.ops p (i+1)::k) st2 a'
     | some (some q,st2)=>runE P cfg fn root fz n (.ops p (i+1)::k) st2 (q::a')
     | none=>none
   | (a',.stop todo' st')=>runE P cfg fn root fz n todo' st' a'
   | _=>none
theorem mM (ht:ag P cfg.tab) (hf:P.funcs[f]?=some fn) {fz:Nat}:∀ (n:Nat) {todo todo':List PI} {st st':ST} {a ps:List Prop},runE P cfg fn root fz n todo st a=some (ps,todo',st')→eO ps→J P f root Γ Q todo' st'→J P f root Γ Q todo st∧eO a
 | 0,_,_,_,_,_,_,h,hp,hj=>by
   simp only [runE,aa,ae] at h
   obtain ⟨rfl,rfl,rfl⟩:=h; exact ⟨hj,hp⟩
 | n + 1,todo,_,st,_,a,ps,h,hp,hj=>by
   simp only [runE] at h
   have back:∀ {a':List Prop} {todo':List PI} {st':ST},(exec P cfg fn root 1000 todo st).walk a=(a',.stop todo' st')→J P f root Γ Q todo' st'∧eO a'→J P f root Γ Q todo st∧eO a:=fun he hj=>by
    obtain ⟨h1,h2⟩:=Tree.walk_J (Q:=Q) (Γ:=Γ) (P:=P) (f:=f) (root:=root) he hj.2 hj.1
    exact ⟨J.go ht hf 1000 rfl h1,h2⟩
   split at h
   · rename_i a' p i k st' he
     refine back he ?_
     split at h
     · rename_i st2 hs
       have h3:=mM ht hf n h hp hj
       exact ⟨lr ht hs trivial h3.1,h3.2⟩
     · rename_i q st2 hs
       have h3:=mM ht hf n h hp hj
       exact ⟨lr ht hs h3.2.1 h3.1,h3.2.2⟩
     · cases h
   · rename_i a' todo' st' _ he
     exact back he (mM ht hf n h hp hj)
   · cases h
theorem J.runE (ht:ag P cfg.tab) (hf:P.funcs[f]?=some fn) (fz n:Nat) {todo todo':List PI} {st st':ST} (ps:List Prop) (h:runE P cfg fn root fz n todo st []=some (ps,todo',st')) (hp:eO ps) (hj:J P f root Γ Q todo' st'):J P f root Γ Q todo st:=(mM ht hf n h hp hj).1
theorem ah.runD {args:List SX} {ck:List Chunk} {ret:SV} {ck':List Chunk} (ht:ag P cfg.tab) (hf:P.funcs[f]?=some fn) (hb:fn.body.isSome=true) (hn:Nat.ble args.length fn.ntmps=true) (fz n:Nat) (ps:List Prop)
 (he:runD P cfg fn (aw fn) fz n [.code []] (ft fn.ntmps args ck) []=some (ps,ret,ck')) (hp:eO ps):ah P f args ck ret ck' :=
 ah.of hf hb hn fun Γ=>(kM (Q:=Eq2 ret ck') ht hf n he hp ⟨rfl,rfl⟩).1
noncomputable def s7 (P:Program) (cfg:Cfg) (fn:Func) (fz n:Nat) (f:FuncId):Ent:=(f,fun vs ck=>bif Nat.ble vs.length fn.ntmps then
 (match runD P cfg fn (aw fn) fz n [.code []] (ft fn.ntmps vs ck) [] with
  | some ([],ret,ck')=>some (none,ret,ck')
  | some (p::ps,ret,ck')=>some (some (eO (p::ps)),ret,ck')
  | none=>none) else none)
theorem Bu {fz n:Nat} (ht:ag P cfg.tab) (hf:P.funcs[f]?=some fn) (hb:fn.body.isSome=true) {vs:List SX} {ck:List Chunk} {p:Option Prop} {ret:SV} {ck':List Chunk} (h:(s7 P cfg fn fz n f).2 vs ck=some (p,ret,ck')) (hp:Holds p):ah P f vs ck ret ck':=by
 simp only [s7] at h
 cases hn:Nat.ble vs.length fn.ntmps
 · rw [hn,cond_false] at h; cases h
 · rw [hn,cond_true] at h
   split at h
   · rename_i he
     simp only [aa,ae] at h
     obtain ⟨rfl,rfl,rfl⟩:=h
     exact ah.runD ht hf hb hn fz n _ he trivial
   · rename_i he
     simp only [aa,ae] at h
     obtain ⟨rfl,rfl,rfl⟩:=h
     exact ah.runD ht hf hb hn fz n _ he hp
   · cases h
end
end Go.Ev
namespace Go.Proofs.YtcopfgbbjdefbaaGreatDoor
open Go Go.Ev
set_option maxRecDepth 100000
variable (l:List Str)
def tw1 (i:Nat):Bool:=(l.take i).any fun y=>ETy.get .str l i==y
def oo (l:List Str):Nat→Nat→Bool
 | 0,_=>false
 | n+1,i=>tw1 l i||oo l n (i+1)
def dB:Bool:=oo l l.length 0
theorem Jb (l:List Str):∀ (n i:Nat),l.length - i=n→(oo l n i=true↔∃ k,i≤k∧k<l.length∧tw1 l k=true)
 | 0,i,h=>by rw [oo]; exact ⟨fun h=>(by cases h),fun ⟨k,h1,h2,_⟩=>by omega⟩
 | n + 1,i,h=>by
   rw [oo,aM,Jb l n (i+1) (by omega)]
   constructor
   · rintro (h1 | ⟨k,h1,h2,h3⟩)
     · exact ⟨i,ar _,by omega,h1⟩
     · exact ⟨k,by omega,h2,h3⟩
   · rintro ⟨k,h1,h2,h3⟩
     by_cases hk:k=i
     · subst hk; exact .inl h3
     · exact .inr ⟨k,by omega,h2,h3⟩
theorem uh:dB l=false↔l.Nodup:=by
 unfold dB
 rw [← b4,Jb l l.length 0 (by omega),dS,cq]
 constructor
 · intro h i j hi hj hij e
   refine h ⟨j,aT _,hj,?_⟩
   unfold tw1
   rw [bw]
   refine ⟨l[i],?_,?_⟩
   · rw [dZ]; exact ⟨i,by omega,rfl⟩
   · rw [ETy.get_eq (t:=.str) (List.getElem?_eq_getElem hj),e]; exact beq_self_eq_true _
 · rintro h ⟨k,_,h2,h3⟩
   unfold tw1 at h3
   rw [bw] at h3
   obtain ⟨y,hy,he⟩:=h3
   obtain ⟨i,hi,rfl⟩:=dZ.1 hy
   rw [ETy.get_eq (t:=.str) (List.getElem?_eq_getElem h2)] at he
   exact h i k (by omega) h2 (by omega) (eq_of_beq he).symm
theorem Gj:(fc l).Pairwise fun x y=>x≤y:=by
 have h:=List.pairwise_mergeSort (le:=fun x y:Str=>decide (x≤y)) (fun a b c h1 h2=>decide_eq_true (List.le_trans (of_decide_eq_true h1) (of_decide_eq_true h2))) (fun a b=>by
  rcases List.le_total a b with h | h
  · rw [decide_eq_true h]; rfl
  · rw [decide_eq_true h,Bool.or_true]) l
 exact h.imp fun h=>of_decide_eq_true h
theorem Gq (s:List Str):(de s).length=s.length↔∀ j,j<s.length→Lib.keeps s.toArray j=true:=by
 unfold de Lib.compact Lib.compactUpTo
 rw [aN]
 constructor
 · intro h j hj
   have h2:((List.range s.length).filter (Lib.keeps s.toArray)).length=(List.range s.length).length:=by rw [h,dO]
   exact (List.length_filter_eq_length_iff.1 h2) j (bq.2 hj)
 · intro h
   rw [eu.2 fun j hj=>h j (bq.1 hj),dO]
theorem FY {s:List Str} (hs:s.Pairwise fun x y=>x≤y):(∀ j,j<s.length→Lib.keeps s.toArray j=true)↔s.Nodup:=by
 rw [dS,cq]
 rw [cq] at hs
 constructor
 · intro h i j hi hj hij e
   have h1:=h j hj
   unfold Lib.keeps at h1
   have h2:=of_decide_eq_true h1
   rcases h2 with h2 | h2
   · omega
   · refine h2 ?_
     rw [getElem!_pos s.toArray j (by simpa using hj),getElem!_pos s.toArray (j - 1) (by simp; omega)]
     simp only [List.getElem_toArray]
     have h3:s[j - 1]≤s[j]:=hs (j - 1) j (by omega) hj (by omega)
     have h4:s[i]≤s[j - 1]:=by
      by_cases h5:i=j - 1
      · subst h5; exact List.le_refl _
      · exact hs i (j - 1) hi (by omega) (by omega)
     exact List.le_antisymm (e ▸ h4) h3
 · intro h j hj
   unfold Lib.keeps
   refine decide_eq_true ?_
   by_cases h0:j=0
   · exact .inl h0
   · refine .inr ?_
     rw [getElem!_pos s.toArray j (by simpa using hj),getElem!_pos s.toArray (j - 1) (by simp; omega)]
     simp only [List.getElem_toArray]
     exact fun e=>h (j - 1) j (by omega) hj (by omega) e.symm
theorem mZ:gm l=true↔l.Nodup:=by
 unfold gm
 have h:(((de (fc l)).length:Int)==((fc l).length:Int))=true↔(de (fc l)).length=(fc l).length:=by rw [beq_iff_eq]; omega
 rw [h,Gq,FY (Gj l)]
 exact (List.mergeSort_perm l _).nodup_iff
theorem sM:gm l = !dB l:=by
 rw [bu,mZ,← uh]; simp
end Go.Proofs.YtcopfgbbjdefbaaGreatDoor
namespace Go.Proofs.YtcopfgbbjdefbaaGreatDoor
open Go Go.Ev
set_option maxRecDepth 100000
variable (l:List Ev.Stat) (s n:Str)
theorem xO:(s==eV++n)=true↔dH s eV=true∧dE s eV=n:=by
 have e5:aA eV=5:=rfl
 have el:aA s=(s.length:Int):=rfl
 rw [beq_iff_eq]
 constructor
 · rintro rfl
   have h:dH (eV++n) eV=true:=by
    unfold dH
    rw [af]
    refine ⟨decide_eq_true ?_,?_⟩
    · rw [el,e5,aq]; show _≥(5:Int); have:eV.length=5:=rfl
      omega
    · rw [e5]; exact beq_iff_eq.2 (List.take_left' rfl)
   refine ⟨h,?_⟩
   unfold dE
   rw [h,cond_true,e5]; exact List.drop_left' rfl
 · rintro ⟨h,hn⟩
   unfold dE at hn
   rw [h,cond_true,e5] at hn
   unfold dH at h
   rw [af,e5] at h
   have h2:s.take 5=eV:=eq_of_beq h.2
   rw [← hn]
   calc s=s.take 5++s.drop 5:=(cN 5 s).symm
    _=_:=by rw [h2]; rfl
def gL:Bool:=l.any fun x:Ev.Stat=>(x.kind==2||x.kind==3)&&s==eV++x.name
def lJ (c:Chart) (s:Str):Bool:=s==[]||s==nT||c.events.any fun x=>s==x
theorem mW:(aP l n = -1∧∀ x∈l,x.name≠n)∨∃ k:Nat,aP l n=(k:Int)∧k<l.length∧(ETy.get .stat l k).name=n:=by
 unfold aP
 rcases iL (fun s:Ev.Stat=>s.name==n) l 0 with ⟨h1,h2⟩ | ⟨k,x,h1,h2,h3⟩
 · refine .inl ⟨h1,fun x hx e=>?_⟩
   have:=List.find?_eq_none.1 h2 x hx
   simp [e] at this
 · refine .inr ⟨k,by rw [a7] at h1; exact h1,(List.getElem?_eq_some_iff.1 h2).1,?_⟩
   rw [ETy.get_eq (t:=.stat) h2]
   have:=List.find?_some h3
   exact eq_of_beq this
theorem xS {l:List Ev.Stat} (hn:(l.map fun s:Ev.Stat=>s.name).Nodup) {i j:Nat} (hi:i<l.length) (hj:j<l.length) (h:(ETy.get .stat l i).name=(ETy.get .stat l j).name):i=j:=by
 rw [ETy.get_eq (t:=.stat) (List.getElem?_eq_getElem hi),ETy.get_eq (t:=.stat) (List.getElem?_eq_getElem hj)] at h
 rw [dS,cq] at hn
 rcases Nat.lt_trichotomy i j with h1 | h1 | h1
 · exact absurd (by rw [List.getElem_map,List.getElem_map]; exact h) (hn i j (by simpa using hi) (by simpa using hj) h1)
 · exact h1
 · exact absurd (by rw [List.getElem_map,List.getElem_map]; exact h.symm) (hn j i (by simpa using hj) (by simpa using hi) h1)
theorem GC {c:Chart} (hn:(c.states.map fun s:Ev.Stat=>s.name).Nodup) (s:Str):iF c s=(lJ c s||gL c.states s):=by
 unfold iF
 show (if lJ c s=true then true else _)=_
 cases lJ c s
 · rw [if_neg (by decide),a6]
   unfold gL
   rw [bu,bw]
   constructor
   · intro h
     simp only [af,decide_eq_true_eq] at h
     obtain ⟨⟨h1,h2⟩,h3⟩:=h
     rcases mW c.states (dE s eV) with ⟨e,_⟩ | ⟨k,e,hk,hx⟩
     · rw [e] at h2; exact absurd h2 (by decide)
     · rw [e,ai] at h3
       refine ⟨ETy.get .stat c.states k,?_,?_⟩
       · rw [ETy.get_eq (t:=.stat) (List.getElem?_eq_getElem hk)]; exact bf hk
       · rw [af]
         exact ⟨h3,(xO s _).2 ⟨h1,hx.symm⟩⟩
   · rintro ⟨x,hx,h⟩
     rw [af] at h
     obtain ⟨h1,h2⟩:=(xO s _).1 h.2
     obtain ⟨j,hj,rfl⟩:=dU.1 hx
     rcases mW c.states (dE s eV) with ⟨e,hno⟩ | ⟨k,e,hk,hy⟩
     · exact absurd h2.symm (hno _ (bf hj))
     · have ej:ETy.get .stat c.states j=c.states[j]:=ETy.get_eq (t:=.stat) (List.getElem?_eq_getElem hj)
       have:k=j:=xS hn hk hj (by rw [hy,ej]; exact h2)
       subst this
       rw [e,ai,h1,decide_eq_true (show (k:Int)≥0 by omega),ej]
       exact h.1
 · rfl
end Go.Proofs.YtcopfgbbjdefbaaGreatDoor
namespace Go.Proofs.YtcopfgbbjdefbaaGreatDoor
open Go Go.Ev
set_option maxRecDepth 100000
theorem jL {b:Bool} {e:Int} (he:e≠0):bW b e=0↔b=true:=by
 unfold bW
 cases b
 · rw [if_neg (by decide)]; exact ⟨fun h=>absurd h he,fun h=>(by cases h)⟩
 · rw [if_pos rfl]; exact ⟨fun _=>rfl,fun _=>rfl⟩
theorem and_zero {e r:Int}:fS e r=0↔e=0∧r=0:=by
 unfold fS
 by_cases h:e=0
 · subst h
   rw [if_neg (by decide)]; exact ⟨fun h=>⟨rfl,h⟩,fun h=>h.2⟩
 · rw [if_pos (by simpa using h)]; exact ⟨fun h2=>absurd h2 h,fun h2=>absurd h2.1 h⟩
theorem qB (f:Nat→Int):∀ (m k:Nat),bU f k m=0↔∀ j,k≤j→j<k+m→f j=0
 | 0,k=>by rw [bU]; exact ⟨fun _ j h1 h2=>by omega,fun _=>rfl⟩
 | m + 1,k=>by
   rw [bU]
   by_cases h:f k=0
   · rw [h,if_neg (by decide),qB f m (k+1)]
     refine ⟨fun h2 j h3 h4=>?_,fun h2 j h3 h4=>h2 j (by omega) (by omega)⟩
     by_cases hj:j=k
     · subst hj; exact h
     · exact h2 j (by omega) (by omega)
   · rw [if_pos (by simpa using h)]
     exact ⟨fun h2=>absurd h2 h,fun h2=>absurd (h2 k (ar _) (by omega)) h⟩
structure Valid (c:Chart):Prop where
 few:gM c=true
 names:∀ s∈c.name::c.events++(c.vars.map fun v:Var=>v.name)++c.states.map fun s:Ev.Stat=>s.name,ba s=true
 events:c.events.Nodup
 vars:(c.vars.map fun v:Var=>v.name).Nodup
 states:(c.states.map fun s:Ev.Stat=>s.name).Nodup
 tree:bZ c.states=true
 inits:∀ k,k<c.states.length→dp c.states k=0
 kinds:∀ k,k<c.vars.length→dX (ETy.get .var c.vars k)=0
 blocks:∀ k,k<c.states.length→cR c (ETy.get .stat c.states k)=0
 trans:∀ k,k<c.trans.length→cX c k (df c.states) (ETy.get .tran c.trans k)=0
theorem c8 (c:Chart):bj c=0↔Valid c:=by
 unfold bj q0E q1E q2E q3E q4E q5E q6E q7E
 simp only [and_zero,jL (show (4:Int)≠0 by decide),jL (show (2:Int)≠0 by decide),jL (show (3:Int)≠0 by decide),jL (show (9:Int)≠0 by decide),qB]
 have hn:(!(fF c (c.vars.map fun v:Var=>v.name) (c.states.map fun s:Ev.Stat=>s.name)).any fun s:Str=>!ba s)=true↔∀ s∈c.name::c.events++(c.vars.map fun v:Var=>v.name)++c.states.map fun s:Ev.Stat=>s.name,ba s=true:=by
  unfold fF
  rw [na,aF,← b4,bw]
  simp only [List.flatten_cons,List.flatten_nil,aO,List.singleton_append,bz,bS]
  constructor
  · intro h s hs
    cases hb:ba s
    · exact absurd ⟨s,hs,by rw [hb]; rfl⟩ h
    · rfl
  · rintro h ⟨s,hs,hb⟩
    rw [h s hs] at hb; cases hb
 have ht:iO c (c.vars.map fun v:Var=>v.name) (c.states.map fun s:Ev.Stat=>s.name)=true↔c.events.Nodup∧(c.vars.map fun v:Var=>v.name).Nodup∧(c.states.map fun s:Ev.Stat=>s.name).Nodup:=by
  unfold iO
  rw [af,af,mZ,mZ,mZ,and_assoc]
 rw [hn,ht]
 constructor
 · rintro ⟨h0,h1,⟨h2,h3,h4⟩,h5,h6,h7,h8,h9,_⟩
   exact ⟨h0,h1,h2,h3,h4,h5,fun k hk=>h6 k (by omega) (by omega),fun k hk=>h7 k (by omega) (by omega),fun k hk=>h8 k (by omega) (by omega),fun k hk=>h9 k (by omega) (by omega)⟩
 · intro v
   exact ⟨v.few,v.names,⟨v.events,v.vars,v.states⟩,v.tree,fun k _ hk=>v.inits k (by omega),fun k _ hk=>v.kinds k (by omega),fun k _ hk=>v.blocks k (by omega),fun k _ hk=>v.trans k (by omega),trivial⟩
/-! ### without one of its transitions -/
theorem jc (c:Chart):gM c=true↔c.events.length≤12∧c.vars.length≤8∧c.states.length≤40∧c.trans.length≤48:=by
 unfold gM
 simp only [af,decide_eq_true_eq]
 omega
/-! ### its names are found -/
end Go.Proofs.YtcopfgbbjdefbaaGreatDoor
