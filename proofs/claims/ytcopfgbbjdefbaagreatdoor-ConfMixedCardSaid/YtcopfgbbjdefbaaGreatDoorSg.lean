/- An executor for function bodies of the model over data, part VJ: calls whose truths are all written out, run to their end, with functions looked up in maps and guards that are literal. Conditions: those that the run tells. No text twice: the program's word and the document's are alike (plain). Conditions: none. Events of transitions: the program's word and the document's are alike (plain). Conditions: states' names differ. A valid chart: its questions one by one; without one of its transitions; its names are found (plain). Conditions: none. -/
import Derived.Test.YtcopfgbbjdefbaaGreatDoorVe
import Derived.Test.YtcopfgbbjdefbaaGreatDoorTm
import Derived.Test.YtcopfgbbjdefbaaGreatDoorTj
import Derived.Test.YtcopfgbbjdefbaaGreatDoorTq
namespace Go.Ev
open Go.RowKit
def xv (tys:Tys) (fz:Nat) (st:ST):Option ST :=
 match lookup st.fr fz with
 | some (.x (.c (.own n)))=>rj tys st [n]
 | _=>some st
def nR (P:Program) (cfg:Cfg) (root:Code) (fz:Nat) (p:List Nat) (i:Nat) (st:ST):Option (Option Prop×ST) :=
 match (nM P root p i st).isSome with
 | true=>match xv cfg.tys fz st with
   | some st1=>match nM P root p i st1 with
     | some (d,m,kx,_)=>match lookup st1.fr m,bw st1 none kx with
       | some (.x (.c (.pd (.tbl l)))),some (.c (.pd (.str s)))=>match fI l s with
         | some g=>some (none,{ st1 with fr:=bD d (.x (.c (.fn (.func g) [] []))) st1.fr })
         | none=>none
       | _,_=>none
     | none=>none
   | none=>none
 | false => match oW P root p i st with
   | some (d,b)=>some (none,{ st with fr:=bD d (.x (.b b)) st.fr })
   | none=>match nh P root p i st with
     | some (d,b)=>some (none,{ st with fr:=bD d (.x (.b b)) st.fr })
     | none=>match Ay P cfg root p i st with
       | some r=>some r
       | none=>match mM root p 1 i st with
         | some st'=>some (none,st')
         | none=>none
def runD (P:Program) (cfg:Cfg) (fn:Func) (root:Code) (fz:Nat):Nat→List PI→ST→List Prop→Option (List Prop×SV×List Chunk)
 | 0,_,_,_=>none
 | n + 1,todo,st,a=>match (exec P cfg fn root 1000 todo st).walk a with
   | (a',.ret v ck)=>some (a',v,ck)
   | (a',.stop (.ops p i::k) st')=>match nR P cfg root fz p i st' with
     | some (none,st2)=>runD P cfg fn root fz n (.ops p (i+1)::k) st2 a'
     | some (some q,st2)=>runD P cfg fn root fz n (.ops p (i+1)::k) st2 (q::a')
     | none=>runD P cfg fn root fz n (.ops p i::k) st' a'
   | (a',.stop todo' st')=>runD P cfg fn root fz n todo' st' a'
   | _=>none
section
variable {P:Program} {cfg:Cfg} {Γ:Ctx} {Q:Out} {f:FuncId} {fn:Func} {root:Code}
theorem kp (ht:ah P cfg.tab) {fz:Nat} {p:List Nat} {i:Nat} {k:List PI} {st st':ST} {q:Option Prop} (h:nR P cfg root fz p i st=some (q,st')) (hq:Holds q) (hk:J P f root Γ Q (.ops p (i+1)::k) st'):J P f root Γ Q (.ops p i::k) st:=by
 unfold nR at h
 split at h
 · split at h
   · rename_i st1 hz
     have hj:J P f root Γ Q (.ops p i::k) st1:=by
      split at h
      · rename_i d m kx et hl
        split at h
        · rename_i l s hm hs
          split at h
          · rename_i g hg
            simp only [aa,ae] at h
            obtain ⟨rfl,rfl⟩:=h
            refine J.lookup (zv:=.nilFunc) (z:=.v .nilFunc) hl hm hs rfl (fun hn=>by rw [hg] at hn; cases hn) ?_
            rw [hg]; exact hk
          · cases h
        · cases h
      · cases h
     unfold xv at hz
     split at hz
     · exact J.freeze cfg.tys _ hz hj
     · simp only [aa] at hz
       subst hz; exact hj
   · cases h
 · split at h
   · rename_i d b hf
     simp only [aa,ae] at h
     obtain ⟨rfl,rfl⟩:=h
     exact J.fnNil hf hk
   · split at h
     · rename_i d b hf
       simp only [aa,ae] at h
       obtain ⟨rfl,rfl⟩:=h
       exact J.ptrNil hf hk
     · split at h
       · rename_i r hr
         simp only [aa] at h
         subst h
         exact J.on ht hr hq hk
       · split at h
         · rename_i st2 ho
           simp only [aa,ae] at h
           obtain ⟨rfl,rfl⟩:=h
           exact J.off 1 i ho hk
         · cases h
theorem jP (ht:ah P cfg.tab) (hf:P.funcs[f]?=some fn) {fz:Nat}:∀ (n:Nat) {todo:List PI} {st:ST} {a ps:List Prop} {v:SV} {ck:List Chunk},runD P cfg fn root fz n todo st a=some (ps,v,ck)→eu ps→Q v ck→J P f root Γ Q todo st∧eu a
 | 0,_,_,_,_,_,_,h,_,_=>by cases h
 | n + 1,todo,st,a,ps,v,ck,h,hp,hq=>by
   simp only [runD] at h
   have back:∀ {a':List Prop} {todo':List PI} {st':ST},(exec P cfg fn root 1000 todo st).walk a=(a',.stop todo' st')→J P f root Γ Q todo' st'∧eu a'→J P f root Γ Q todo st∧eu a:=fun he hj=>by
    obtain ⟨h1,h2⟩:=Tree.walk_J (Q:=Q) (Γ:=Γ) (P:=P) (f:=f) (root:=root) he hj.2 hj.1
    exact ⟨J.go ht hf 1000 rfl h1,h2⟩
   split at h
   · rename_i a' v' ck' he
     simp only [aa,ae] at h
     obtain ⟨rfl,rfl,rfl⟩:=h
     obtain ⟨h1,h2⟩:=Tree.walk_J (Q:=Q) (Γ:=Γ) (P:=P) (f:=f) (root:=root) he hp hq
     exact ⟨J.go ht hf 1000 rfl h1,h2⟩
   · rename_i a' p i k st' he
     refine back he ?_
     split at h
     · rename_i st2 hs
       have h3:=jP ht hf n h hp hq
       exact ⟨kp ht hs trivial h3.1,h3.2⟩
     · rename_i q st2 hs
       have h3:=jP ht hf n h hp hq
       exact ⟨kp ht hs h3.2.1 h3.1,h3.2.2⟩
     · exact jP ht hf n h hp hq
   · rename_i a' todo' st' _ he
     exact back he (jP ht hf n h hp hq)
   · cases h
def runE (P:Program) (cfg:Cfg) (fn:Func) (root:Code) (fz:Nat):Nat→List PI→ST→List Prop→Option (List Prop×List PI×ST)
 | 0,todo,st,a=>some (a,todo,st)
 | n + 1,todo,st,a=>match (exec P cfg fn root 1000 todo st).walk a with
   | (a',.stop (.ops p i::k) st')=>match nR P cfg root fz p i st' with
     | some (none,st2)=>runE P cfg fn root fz n (.ops p (i+1)::k) st2 a'
     | some (some q,st2)=>runE P cfg fn root fz n (.ops p (i+1)::k) st2 (q::a')
     | none=>none
   | (a',.stop todo' st')=>runE P cfg fn root fz n todo' st' a'
   | _=>none
theorem lL (ht:ah P cfg.tab) (hf:P.funcs[f]?=some fn) {fz:Nat}:∀ (n:Nat) {todo todo':List PI} {st st':ST} {a ps:List Prop},runE P cfg fn root fz n todo st a=some (ps,todo',st')→eu ps→J P f root Γ Q todo' st'→J P f root Γ Q todo st∧eu a
 | 0,_,_,_,_,_,_,h,hp,hj=>by
   simp only [runE,aa,ae] at h
   obtain ⟨rfl,rfl,rfl⟩:=h; exact ⟨hj,hp⟩
 | n + 1,todo,_,st,_,a,ps,h,hp,hj=>by
   simp only [runE] at h
   have back:∀ {a':List Prop} {todo':List PI} {st':ST},(exec P cfg fn root 1000 todo st).walk a=(a',.stop todo' st')→J P f root Γ Q todo' st'∧eu a'→J P f root Γ Q todo st∧eu a:=fun he hj=>by
    obtain ⟨h1,h2⟩:=Tree.walk_J (Q:=Q) (Γ:=Γ) (P:=P) (f:=f) (root:=root) he hj.2 hj.1
    exact ⟨J.go ht hf 1000 rfl h1,h2⟩
   split at h
   · rename_i a' p i k st' he
     refine back he ?_
     split at h
     · rename_i st2 hs
       have h3:=lL ht hf n h hp hj
       exact ⟨kp ht hs trivial h3.1,h3.2⟩
     · rename_i q st2 hs
       have h3:=lL ht hf n h hp hj
       exact ⟨kp ht hs h3.2.1 h3.1,h3.2.2⟩
     · cases h
   · rename_i a' todo' st' _ he
     exact back he (lL ht hf n h hp hj)
   · cases h
theorem J.runE (ht:ah P cfg.tab) (hf:P.funcs[f]?=some fn) (fz n:Nat) {todo todo':List PI} {st st':ST} (ps:List Prop) (h:runE P cfg fn root fz n todo st []=some (ps,todo',st')) (hp:eu ps) (hj:J P f root Γ Q todo' st'):J P f root Γ Q todo st:=(lL ht hf n h hp hj).1
theorem ag.runD {args:List SX} {ck:List Chunk} {ret:SV} {ck':List Chunk} (ht:ah P cfg.tab) (hf:P.funcs[f]?=some fn) (hb:fn.body.isSome=true) (hn:Nat.ble args.length fn.ntmps=true) (fz n:Nat) (ps:List Prop)
 (he:runD P cfg fn (aw fn) fz n [.code []] (eX fn.ntmps args ck) []=some (ps,ret,ck')) (hp:eu ps):ag P f args ck ret ck' :=
 ag.of hf hb hn fun Γ=>(jP (Q:=Eq2 ret ck') ht hf n he hp ⟨rfl,rfl⟩).1
noncomputable def rv (P:Program) (cfg:Cfg) (fn:Func) (fz n:Nat) (f:FuncId):Ent:=(f,fun vs ck=>bif Nat.ble vs.length fn.ntmps then
 (match runD P cfg fn (aw fn) fz n [.code []] (eX fn.ntmps vs ck) [] with
  | some ([],ret,ck')=>some (none,ret,ck')
  | some (p::ps,ret,ck')=>some (some (eu (p::ps)),ret,ck')
  | none=>none) else none)
theorem Ai {fz n:Nat} (ht:ah P cfg.tab) (hf:P.funcs[f]?=some fn) (hb:fn.body.isSome=true) {vs:List SX} {ck:List Chunk} {p:Option Prop} {ret:SV} {ck':List Chunk} (h:(rv P cfg fn fz n f).2 vs ck=some (p,ret,ck')) (hp:Holds p):ag P f vs ck ret ck':=by
 simp only [rv] at h
 cases hn:Nat.ble vs.length fn.ntmps
 · rw [hn,cond_false] at h; cases h
 · rw [hn,cond_true] at h
   split at h
   · rename_i he
     simp only [aa,ae] at h
     obtain ⟨rfl,rfl,rfl⟩:=h
     exact ag.runD ht hf hb hn fz n _ he trivial
   · rename_i he
     simp only [aa,ae] at h
     obtain ⟨rfl,rfl,rfl⟩:=h
     exact ag.runD ht hf hb hn fz n _ he hp
   · cases h
end
end Go.Ev
namespace Go.Proofs.YtcopfgbbjdefbaaGreatDoor
open Go Go.Ev
set_option maxRecDepth 100000
variable (l:List Str)
def tw1 (i:Nat):Bool:=(l.take i).any fun y=>ETy.get .str l i==y
def nB (l:List Str):Nat→Nat→Bool
 | 0,_=>false
 | n+1,i=>tw1 l i||nB l n (i+1)
def du:Bool:=nB l l.length 0
theorem Ge (l:List Str):∀ (n i:Nat),l.length - i=n→(nB l n i=true↔∃ k,i≤k∧k<l.length∧tw1 l k=true)
 | 0,i,h=>by rw [nB]; exact ⟨fun h=>(by cases h),fun ⟨k,h1,h2,_⟩=>by omega⟩
 | n + 1,i,h=>by
   rw [nB,aO,Ge l n (i+1) (by omega)]
   constructor
   · rintro (h1 | ⟨k,h1,h2,h3⟩)
     · exact ⟨i,ar _,by omega,h1⟩
     · exact ⟨k,by omega,h2,h3⟩
   · rintro ⟨k,h1,h2,h3⟩
     by_cases hk:k=i
     · subst hk; exact .inl h3
     · exact .inr ⟨k,by omega,h2,h3⟩
theorem sj:du l=false↔l.Nodup:=by
 unfold du
 rw [← b8,Ge l l.length 0 (by omega),dI,c8]
 constructor
 · intro h i j hi hj hij e
   refine h ⟨j,aP _,hj,?_⟩
   unfold tw1
   rw [bB]
   refine ⟨l[i],?_,?_⟩
   · rw [dP]; exact ⟨i,by omega,rfl⟩
   · rw [ETy.get_eq (t:=.str) (List.getElem?_eq_getElem hj),e]; exact beq_self_eq_true _
 · rintro h ⟨k,_,h2,h3⟩
   unfold tw1 at h3
   rw [bB] at h3
   obtain ⟨y,hy,he⟩:=h3
   obtain ⟨i,hi,rfl⟩:=dP.1 hy
   rw [ETy.get_eq (t:=.str) (List.getElem?_eq_getElem h2)] at he
   exact h i k (by omega) h2 (by omega) (eq_of_beq he).symm
theorem E9:(eO l).Pairwise fun x y=>x≤y:=by
 have h:=List.pairwise_mergeSort (le:=fun x y:Str=>decide (x≤y)) (fun a b c h1 h2=>decide_eq_true (List.le_trans (of_decide_eq_true h1) (of_decide_eq_true h2))) (fun a b=>by
  rcases List.le_total a b with h | h
  · rw [decide_eq_true h]; rfl
  · rw [decide_eq_true h,Bool.or_true]) l
 exact h.imp fun h=>of_decide_eq_true h
theorem Fq (s:List Str):(cS s).length=s.length↔∀ j,j<s.length→Lib.keeps s.toArray j=true:=by
 unfold cS Lib.compact Lib.compactUpTo
 rw [aL]
 constructor
 · intro h j hj
   have h2:((List.range s.length).filter (Lib.keeps s.toArray)).length=(List.range s.length).length:=by rw [h,dA]
   exact (List.length_filter_eq_length_iff.1 h2) j (ba.2 hj)
 · intro h
   rw [dQ.2 fun j hj=>h j (ba.1 hj),dA]
theorem C0 {s:List Str} (hs:s.Pairwise fun x y=>x≤y):(∀ j,j<s.length→Lib.keeps s.toArray j=true)↔s.Nodup:=by
 rw [dI,c8]
 rw [c8] at hs
 constructor
 · intro h i j hi hj hij e
   have h1:=h j hj
   unfold Lib.keeps at h1
   have h2:=of_decide_eq_true h1
   rcases h2 with h2 | h2
   · omega
   · refine h2 ?_
     rw [getElem!_pos s.toArray j (by simpa using hj),getElem!_pos s.toArray (j - 1) (by simp; omega)]
     simp only [List.getElem_toArray]
     have h3:s[j - 1]≤s[j]:=hs (j - 1) j (by omega) hj (by omega)
     have h4:s[i]≤s[j - 1]:=by
      by_cases h5:i=j - 1
      · subst h5; exact List.le_refl _
      · exact hs i (j - 1) hi (by omega) (by omega)
     exact List.le_antisymm (e ▸ h4) h3
 · intro h j hj
   unfold Lib.keeps
   refine decide_eq_true ?_
   by_cases h0:j=0
   · exact .inl h0
   · refine .inr ?_
     rw [getElem!_pos s.toArray j (by simpa using hj),getElem!_pos s.toArray (j - 1) (by simp; omega)]
     simp only [List.getElem_toArray]
     exact fun e=>h (j - 1) j (by omega) hj (by omega) e.symm
theorem l4:fT l=true↔l.Nodup:=by
 unfold fT
 have h:(((cS (eO l)).length:Int)==((eO l).length:Int))=true↔(cS (eO l)).length=(eO l).length:=by rw [beq_iff_eq]; omega
 rw [h,Fq,C0 (E9 l)]
 exact (List.mergeSort_perm l _).nodup_iff
theorem q9:fT l = !du l:=by
 rw [bt,l4,← sj]; simp
end Go.Proofs.YtcopfgbbjdefbaaGreatDoor
namespace Go.Proofs.YtcopfgbbjdefbaaGreatDoor
open Go Go.Ev
set_option maxRecDepth 100000
variable (l:List Ev.Stat) (s n:Str)
theorem tN:(s==eI++n)=true↔dB s eI=true∧dv s eI=n:=by
 have e5:ax eI=5:=rfl
 have el:ax s=(s.length:Int):=rfl
 rw [beq_iff_eq]
 constructor
 · rintro rfl
   have h:dB (eI++n) eI=true:=by
    unfold dB
    rw [af]
    refine ⟨decide_eq_true ?_,?_⟩
    · rw [el,e5,an]; show _≥(5:Int); have:eI.length=5:=rfl
      omega
    · rw [e5]; exact beq_iff_eq.2 (List.take_left' rfl)
   refine ⟨h,?_⟩
   unfold dv
   rw [h,cond_true,e5]; exact List.drop_left' rfl
 · rintro ⟨h,hn⟩
   unfold dv at hn
   rw [h,cond_true,e5] at hn
   unfold dB at h
   rw [af,e5] at h
   have h2:s.take 5=eI:=eq_of_beq h.2
   rw [← hn]
   calc s=s.take 5++s.drop 5:=(cB 5 s).symm
    _=_:=by rw [h2]; rfl
def gx:Bool:=l.any fun x:Ev.Stat=>(x.kind==2||x.kind==3)&&s==eI++x.name
def kI (c:Chart) (s:Str):Bool:=s==[]||s==mI||c.events.any fun x=>s==x
theorem lU:(aK l n = -1∧∀ x∈l,x.name≠n)∨∃ k:Nat,aK l n=(k:Int)∧k<l.length∧(ETy.get .stat l k).name=n:=by
 unfold aK
 rcases iv (fun s:Ev.Stat=>s.name==n) l 0 with ⟨h1,h2⟩ | ⟨k,x,h1,h2,h3⟩
 · refine .inl ⟨h1,fun x hx e=>?_⟩
   have:=List.find?_eq_none.1 h2 x hx
   simp [e] at this
 · refine .inr ⟨k,by rw [aS] at h1; exact h1,(List.getElem?_eq_some_iff.1 h2).1,?_⟩
   rw [ETy.get_eq (t:=.stat) h2]
   have:=List.find?_some h3
   exact eq_of_beq this
theorem vW {l:List Ev.Stat} (hn:(l.map fun s:Ev.Stat=>s.name).Nodup) {i j:Nat} (hi:i<l.length) (hj:j<l.length) (h:(ETy.get .stat l i).name=(ETy.get .stat l j).name):i=j:=by
 rw [ETy.get_eq (t:=.stat) (List.getElem?_eq_getElem hi),ETy.get_eq (t:=.stat) (List.getElem?_eq_getElem hj)] at h
 rw [dI,c8] at hn
 rcases Nat.lt_trichotomy i j with h1 | h1 | h1
 · exact absurd (by rw [List.getElem_map,List.getElem_map]; exact h) (hn i j (by simpa using hi) (by simpa using hj) h1)
 · exact h1
 · exact absurd (by rw [List.getElem_map,List.getElem_map]; exact h.symm) (hn j i (by simpa using hj) (by simpa using hi) h1)
theorem EI {c:Chart} (hn:(c.states.map fun s:Ev.Stat=>s.name).Nodup) (s:Str):iu c s=(kI c s||gx c.states s):=by
 unfold iu
 show (if kI c s=true then true else _)=_
 cases kI c s
 · rw [if_neg (by decide),aX]
   unfold gx
   rw [bt,bB]
   constructor
   · intro h
     simp only [af,decide_eq_true_eq] at h
     obtain ⟨⟨h1,h2⟩,h3⟩:=h
     rcases lU c.states (dv s eI) with ⟨e,_⟩ | ⟨k,e,hk,hx⟩
     · rw [e] at h2; exact absurd h2 (by decide)
     · rw [e,aj] at h3
       refine ⟨ETy.get .stat c.states k,?_,?_⟩
       · rw [ETy.get_eq (t:=.stat) (List.getElem?_eq_getElem hk)]; exact bE hk
       · rw [af]
         exact ⟨h3,(tN s _).2 ⟨h1,hx.symm⟩⟩
   · rintro ⟨x,hx,h⟩
     rw [af] at h
     obtain ⟨h1,h2⟩:=(tN s _).1 h.2
     obtain ⟨j,hj,rfl⟩:=List.mem_iff_getElem.1 hx
     rcases lU c.states (dv s eI) with ⟨e,hno⟩ | ⟨k,e,hk,hy⟩
     · exact absurd h2.symm (hno _ (bE hj))
     · have ej:ETy.get .stat c.states j=c.states[j]:=ETy.get_eq (t:=.stat) (List.getElem?_eq_getElem hj)
       have:k=j:=vW hn hk hj (by rw [hy,ej]; exact h2)
       subst this
       rw [e,aj,h1,decide_eq_true (show (k:Int)≥0 by omega),ej]
       exact h.1
 · rfl
end Go.Proofs.YtcopfgbbjdefbaaGreatDoor
namespace Go.Proofs.YtcopfgbbjdefbaaGreatDoor
open Go Go.Ev
set_option maxRecDepth 100000
theorem jk {b:Bool} {e:Int} (he:e≠0):bM b e=0↔b=true:=by
 unfold bM
 cases b
 · rw [if_neg (by decide)]; exact ⟨fun h=>absurd h he,fun h=>(by cases h)⟩
 · rw [if_pos rfl]; exact ⟨fun _=>rfl,fun _=>rfl⟩
theorem and_zero {e r:Int}:fF e r=0↔e=0∧r=0:=by
 unfold fF
 by_cases h:e=0
 · subst h
   rw [if_neg (by decide)]; exact ⟨fun h=>⟨rfl,h⟩,fun h=>h.2⟩
 · rw [if_pos (by simpa using h)]; exact ⟨fun h2=>absurd h2 h,fun h2=>absurd h2.1 h⟩
theorem p9 (f:Nat→Int):∀ (m k:Nat),bK f k m=0↔∀ j,k≤j→j<k+m→f j=0
 | 0,k=>by rw [bK]; exact ⟨fun _ j h1 h2=>by omega,fun _=>rfl⟩
 | m + 1,k=>by
   rw [bK]
   by_cases h:f k=0
   · rw [h,if_neg (by decide),p9 f m (k+1)]
     refine ⟨fun h2 j h3 h4=>?_,fun h2 j h3 h4=>h2 j (by omega) (by omega)⟩
     by_cases hj:j=k
     · subst hj; exact h
     · exact h2 j (by omega) (by omega)
   · rw [if_pos (by simpa using h)]
     exact ⟨fun h2=>absurd h2 h,fun h2=>absurd (h2 k (ar _) (by omega)) h⟩
structure Valid (c:Chart):Prop where
 few:gz c=true
 names:∀ s∈c.name::c.events++(c.vars.map fun v:Var=>v.name)++c.states.map fun s:Ev.Stat=>s.name,aU s=true
 events:c.events.Nodup
 vars:(c.vars.map fun v:Var=>v.name).Nodup
 states:(c.states.map fun s:Ev.Stat=>s.name).Nodup
 tree:bT c.states=true
 inits:∀ k,k<c.states.length→c6 c.states k=0
 kinds:∀ k,k<c.vars.length→dL (ETy.get .var c.vars k)=0
 blocks:∀ k,k<c.states.length→cG c (ETy.get .stat c.states k)=0
 trans:∀ k,k<c.trans.length→cK c k (cT c.states) (ETy.get .tran c.trans k)=0
theorem hX (c:Chart):cv c=0↔Valid c:=by
 unfold cv q0E q1E q2E q3E q4E q5E q6E q7E
 simp only [and_zero,jk (show (4:Int)≠0 by decide),jk (show (2:Int)≠0 by decide),jk (show (3:Int)≠0 by decide),jk (show (9:Int)≠0 by decide),p9]
 have hn:(!(fv c (c.vars.map fun v:Var=>v.name) (c.states.map fun s:Ev.Stat=>s.name)).any fun s:Str=>!aU s)=true↔∀ s∈c.name::c.events++(c.vars.map fun v:Var=>v.name)++c.states.map fun s:Ev.Stat=>s.name,aU s=true:=by
  unfold fv
  rw [l7,aD,← b8,bB]
  simp only [List.flatten_cons,List.flatten_nil,aN,List.singleton_append,bp,bJ]
  constructor
  · intro h s hs
    cases hb:aU s
    · exact absurd ⟨s,hs,by rw [hb]; rfl⟩ h
    · rfl
  · rintro h ⟨s,hs,hb⟩
    rw [h s hs] at hb; cases hb
 have ht:iq c (c.vars.map fun v:Var=>v.name) (c.states.map fun s:Ev.Stat=>s.name)=true↔c.events.Nodup∧(c.vars.map fun v:Var=>v.name).Nodup∧(c.states.map fun s:Ev.Stat=>s.name).Nodup:=by
  unfold iq
  rw [af,af,l4,l4,l4,and_assoc]
 rw [hn,ht]
 constructor
 · rintro ⟨h0,h1,⟨h2,h3,h4⟩,h5,h6,h7,h8,h9,_⟩
   exact ⟨h0,h1,h2,h3,h4,h5,fun k hk=>h6 k (by omega) (by omega),fun k hk=>h7 k (by omega) (by omega),fun k hk=>h8 k (by omega) (by omega),fun k hk=>h9 k (by omega) (by omega)⟩
 · intro v
   exact ⟨v.few,v.names,⟨v.events,v.vars,v.states⟩,v.tree,fun k _ hk=>v.inits k (by omega),fun k _ hk=>v.kinds k (by omega),fun k _ hk=>v.blocks k (by omega),fun k _ hk=>v.trans k (by omega),trivial⟩
/-! ### without one of its transitions -/
theorem iK (c:Chart):gz c=true↔c.events.length≤12∧c.vars.length≤8∧c.states.length≤40∧c.trans.length≤48:=by
 unfold gz
 simp only [af,decide_eq_true_eq]
 omega
/-! ### its names are found -/
end Go.Proofs.YtcopfgbbjdefbaaGreatDoor
