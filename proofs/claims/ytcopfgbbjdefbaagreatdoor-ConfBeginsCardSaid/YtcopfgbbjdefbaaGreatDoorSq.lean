/- Contracts: lines parted into words. Conditions: texts of at most 2^21 bytes. Contracts: words.Line. Conditions: sizes. Contracts: the kinds of lines, a map. Conditions: none. Contracts: chart.Parse on the layer's example. Conditions: none. Contracts: chart.Parse on layer 10's example. Conditions: none. Contracts: arguments that read as others; a mark. Conditions: none. -/
import Derived.Test.YtcopfgbbjdefbaaGreatDoorTa
import Derived.Lib.AppendIntMem
import Derived.Test.YtcopfgbbjdefbaaGreatDoorVe
import Derived.Test.YtcopfgbbjdefbaaGreatDoorSz
import Derived.Test.YtcopfgbbjdefbaaGreatDoorJz
import Derived.Test.YtcopfgbbjdefbaaGreatDoorTq
import Derived.Test.YtcopfgbbjdefbaaGreatDoorSg
import Derived.Test.YtcopfgbbjdefbaaGreatDoorVk
namespace Go.Proofs.YtcopfgbbjdefbaaGreatDoor
open Go Go.Ev
set_option maxRecDepth 100000
/-! ### plain -/
variable (s:Str) (Γ:Ctx) (Q:Out) (W:List Str) (c:UInt8) (d:Int)
def cl:Bool:=decide ((c.toNat:Int)>32)&&decide ((c.toNat:Int)<127)
def eD (w:Str):Bool:=!(w==[])&&w.all cl
def dE:Str→List UInt8→List Str
 | cur,[]=>[cur]
 | cur,c::r=>bif (c.toNat:Int)==32 then cur::dE [] r else dE (cur++[c]) r
def cN:List UInt8→Nat
 | []=>0
 | c::r=>bif (c.toNat:Int)==32 then cN r+1 else 0
def iB:List Str:=dE [] (s.drop (cN s))
def B1:Bool:=(iB s).all eD
theorem mT:∀ (rest:List UInt8) (cur:Str),cur.all cl=false→(dE cur rest).all eD=false
 | [],cur,h=>by simp [dE,eD,h]
 | c :: r,cur,h=>by
   unfold dE
   cases ((c.toNat:Int)==32)
   · simp only [cond_false]
     exact mT r (cur++[c]) (by rw [bt,h]; rfl)
   · simp only [cond_true,dt,eD,h,cr,aK]
theorem mM (rest:List UInt8) (h:cl c=false):(dE [] (c::rest)).all eD=false:=by
 unfold dE
 cases ((c.toNat:Int)==32)
 · simp only [cond_false]
   exact mT rest ([]++[c]) (by simp [h])
 · simp [eD]
theorem jT {c:UInt8} (h:cl c=true):((c.toNat:Int)==32)=false:=by
 simp only [cl,ae,decide_eq_true_eq] at h
 simp; omega
/-! ### the program's line -/
def gF (W:List Str):Out:=fun v ck=>(W.all eD=true→v = .tup [.i d,.c (.own 0),.i 0]∧ck=[.own 9 .str W])∧(W.all eD=false→v = .tup [.i 0,.c (.pd (.v (.slice none 0 0))),.i 1]∧ck=[])
theorem gF.ok {d:Int} {W:List Str} (h:W.all eD=true):gF d W (.tup [.i d,.c (.own 0),.i 0]) [.own 9 .str W]:=⟨fun _=>⟨rfl,rfl⟩,fun h'=>by rw [h] at h'; cases h'⟩
theorem gF.bad {d:Int} {W:List Str} (h:W.all eD=false):gF d W (.tup [.i 0,.c (.pd (.v (.slice none 0 0))),.i 1]) []:=⟨fun h'=>(by rw [h] at h'; cases h'),fun _=>⟨rfl,rfl⟩⟩
theorem EG {n:Nat} (h:n≤3000000):room n 16:=by unfold room maxLen; omega
abbrev zKb1:List PI:=[.code [1,0,3],.inScope [1,0]]
theorem sk (hs:s.length≤2097152):∀ (n k f:Nat) (out:List Str),s.length - k≤n→k≤s.length→f≤k→out.length≤f→out.all eD=true→(seg s f k).all cl=true→out++dE (seg s f k) (s.drop k)=W →
 J Tryz.prog 45 (aA Tryz.f45) Γ (gF d W) zKb1 ({ n:=64,fr:=[(0,.p (.str s)),(2,.i 0),(3,.p (.v (Value.slice none 0 0))),(4,.i 0),(5,.i ((k:Int))),(8,.x (.c (.own 0))),(6,.i d),(7,.i ((f:Int)))],ck:=[.own 9 .str out] }):=by
 intro n
 induction n with
 | zero=>?_
 | succ n ih=>?_
 all_goals
  intro k f out hn hk hf hlen hout hseg hW
  refine jg aT Tryz.func45 (let x1:=(↑((List.getD s k (0:UInt8)).toNat):Int); let x2:=(out++[(dO s (some (f:Int)) (some (k:Int))).2]); let x3:=(IntKind.wrap .i64 ((k:Int)+1)); let x4:=(Value.slice none 0 0); let x5:=((k:Int)<av s); let x6:Tree:=(.ret (.tup [.i 0,.p (.v x4),.i 1]) []); .need (decide x5=true→(0:Int)≤(k:Int)∧(k:Int)<av s) (.need ((decide x5&&decide (x1>32))=true→(0:Int)≤(k:Int)∧(k:Int)<av s) (.ite (decide x5&&decide (x1>32)&&decide (x1<127)) (.stop zKb1 { n:=64,fr:=[(0,.p (.str s)),(2,.i 0),(3,.p (.v x4)),(4,.i 0),(5,.i x3),(8,.x (.c (.own 0))),(6,.i d),(7,.i f)],ck:=[.own 9 .str out] }) (.ite ((k:Int)==(f:Int)) x6 (.need ((0:Int)≤(f:Int)∧(f:Int)≤(k:Int)∧(k:Int)≤(s.length:Int)) (.need (room (x2.length) 16) (.ite ((k:Int)==av s) (.ret (.tup [.i d,.c (.own 0),.i 0]) [.own 9 .str x2]) (.need ((0:Int)≤(k:Int)∧(k:Int)<av s) (.ite (x1 != 32) x6 (.stop zKb1 { n:=64,fr:=[(0,.p (.str s)),(2,.i 0),(3,.p (.v x4)),(4,.i 0),(5,.i x3),(8,.x (.c (.own 0))),(6,.i d),(7,.i x3)],ck:=[.own 9 .str x2] })))))))))) ?_
  conv=>zeta
  have hL:av s=(s.length:Int):=rfl
  have hcut:(dO s (some (f:Int)) (some (k:Int))).2=seg s f k:=rfl
  rw [hcut]
  refine ⟨fun h=>by have:=of_decide_eq_true h; omega,fun h=>by simp only [ae,decide_eq_true_eq] at h; omega,fun h=>?_,fun h=>?_⟩
  · have h':k<s.length∧cl (s.getD k 0)=true:=by
     simp only [ae,decide_eq_true_eq] at h
     refine ⟨by omega,?_⟩
     simp only [cl,ae,decide_eq_true_eq]; exact ⟨h.1.2,h.2⟩
    rw [a6 (by omega)]
    first
    | (exfalso; omega)
    | refine ih (k+1) f out (by omega) (by omega) (by omega) hlen hout ?_ ?_
      · rw [iI h'.1 hf,bt,hseg]; simpa using h'.2
      · rw [← hW,drop_byte h'.1,iI h'.1 hf]
        simp only [dE,jT h'.2,cond_false]
  · have hbad:k<s.length→cl (s.getD k 0)=false:=by
     intro hlt
     cases hg:cl (s.getD k 0)
     · rfl
     · simp only [cl,ae,decide_eq_true_eq] at hg
       have e1:decide ((k:Int)<av s)=true:=decide_eq_true (by omega)
       rw [e1,decide_eq_true hg.1,decide_eq_true hg.2] at h
       simp at h
    refine ⟨fun hkf=>?_,fun hkf=>?_⟩
    · have hkf':k=f:=by
       have:(k:Int)=(f:Int):=by simpa using hkf
       omega
      refine gF.bad ?_
      rw [← hW,bt,hkf',gN]
      have:(dE [] (s.drop f)).all eD=false:=by
       by_cases hlt:f<s.length
       · rw [drop_byte hlt]; exact mM _ _ (by rw [← hkf'] at hlt ⊢; exact hbad hlt)
       · rw [dh.2 (by omega)]; rfl
      rw [this,cr]
    · have hkf':f<k:=by
       have:(k:Int)≠(f:Int):=by simpa using hkf
       omega
      have hv:eD (seg s f k)=true:=by
       simp only [eD,hseg,cZ,aB,beq_eq_false_iff_ne]
       exact IZ hkf' hk
      have hout2:(out++[seg s f k]).all eD=true:=by rw [bt,hout]; simp [hv]
      refine ⟨⟨by omega,by omega,by omega⟩,EG (by rw [ar]; simp; omega),fun he=>?_,fun he=>⟨?_,fun hb=>?_,fun hb=>?_⟩⟩
      · have he':k=s.length:=by
         have:(k:Int)=av s:=by simpa using he
         omega
        have eW:W=out++[seg s f k]:=by rw [← hW,dh.2 (by omega)]; rfl
        rw [eW]
        exact gF.ok hout2
      · have:(k:Int)≠av s:=by simpa using he
        omega
      · have hlt:k<s.length:=by
         have:(k:Int)≠av s:=by simpa using he
         omega
        refine gF.bad ?_
        have hb':(((s.getD k 0).toNat:Int)==32)=false:=by simpa using hb
        rw [← hW,bt,drop_byte hlt]
        have:(dE (seg s f k) (s.getD k 0::s.drop (k+1))).all eD=false:=by
         simp only [dE,hb',cond_false]
         exact mT _ _ (by rw [bt,hseg]; simpa using hbad hlt)
        rw [this,cr]
      · have hlt:k<s.length:=by
         have:(k:Int)≠av s:=by simpa using he
         omega
        have hb':(((s.getD k 0).toNat:Int)==32)=true:=by simpa using hb
        rw [a6 (by omega)]
        first
        | (exfalso; omega)
        | refine ih (k+1) (k+1) (out++[seg s f k]) (by omega) (by omega) (by omega) (by rw [ar]; simp; omega) hout2 (by rw [gN]; rfl) ?_
          rw [← hW,drop_byte hlt,gN]
          simp only [dE,hb',cond_true,bn,bG,bE]
theorem J.frame {P:Program} {f:FuncId} {root:Code} {Γ:Ctx} {Q:Out} {todo:List PI} {st:ST} {fr':List (Nat×SV)} (h:∀ p∈fr',p∈st.fr) (hk:J P f root Γ Q todo { st with fr:=fr' }):J P f root Γ Q todo st :=
 fun hT V a w r=>hk hT V a w (r.weaken h)
theorem yB (hQ:∀ v ck,gF (cN s:Nat) (iB s) v ck→Q v ck) (hs:s.length≤2097152):∀ (n k:Nat),s.length - k≤n→k≤s.length→cN s=k+cN (s.drop k) →
 J Tryz.prog 45 (aA Tryz.f45) Γ Q [.code [1,0,2],.inScope [1,0]] ({ n:=64,fr:=[(0,.p (.str s)),(2,.i 0),(3,.p (.v (Value.slice none 0 0))),(4,.i 0),(5,.i ((k:Int))),(8,.p (.v (Value.slice none 0 0)))],ck:=[] }):=by
 intro n
 induction n with
 | zero=>?_
 | succ n ih=>?_
 all_goals
  intro k hn hk hlead
  refine jg aT Tryz.func45 (let x1:=(↑((List.getD s k (0:UInt8)).toNat):Int); let x2:=(Value.slice none 0 0); let x3:=(IntKind.wrap .i64 ((k:Int)+1)); let x4:=[(dO s (some (k:Int)) (some (k:Int))).2]; let x6:=((k:Int)<av s); let x5:=(decide x6=true→(0:Int)≤(k:Int)∧(k:Int)<av s); let x7:Tree:=(.ret (.tup [.i 0,.p (.v x2),.i 1]) []); .need x5 (.ite (decide x6&&x1==32) (.stop [.code [1,0,2],.inScope [1,0]] { n:=64,fr:=[(0,.p (.str s)),(2,.i 0),(3,.p (.v x2)),(4,.i 0),(5,.i x3),(8,.p (.v x2))],ck:=[] }) (.need x5 (.need ((decide x6&&decide (x1>32))=true→(0:Int)≤(k:Int)∧(k:Int)<av s) (.ite (decide x6&&decide (x1>32)&&decide (x1<127)) (.stop zKb1 { n:=64,fr:=[(0,.p (.str s)),(2,.i 0),(3,.p (.v x2)),(4,.i 0),(5,.i x3),(8,.p (.v x2)),(6,.i k),(7,.i k)],ck:=[] }) (.ite ((k:Int)==(k:Int)) x7 (.need ((0:Int)≤(k:Int)∧(k:Int)≤(k:Int)∧(k:Int)≤(s.length:Int)) (.need (room (List.length x4) 16) (.ite ((k:Int)==av s) (.ret (.tup [.i k,.c (.own 0),.i 0]) [.own 9 .str x4]) (.need ((0:Int)≤(k:Int)∧(k:Int)<av s) (.ite (x1 != 32) x7 (.stop zKb1 { n:=64,fr:=[(0,.p (.str s)),(2,.i 0),(3,.p (.v x2)),(4,.i 0),(5,.i x3),(8,.x (.c (.own 0))),(6,.i k),(7,.i x3)],ck:=[.own 9 .str x4] })))))))))))) ?_
  conv=>zeta
  have hL:av s=(s.length:Int):=rfl
  refine ⟨fun h=>by have:=of_decide_eq_true h; omega,fun h=>?_,fun h=>⟨fun h=>by have:=of_decide_eq_true h; omega,fun h=>by simp only [ae,decide_eq_true_eq] at h; omega,fun hg=>?_,fun hg=>⟨fun _=>?_,fun hne=>by simp at hne⟩⟩⟩
  · have h':k<s.length∧(((s.getD k 0).toNat:Int)==32)=true:=by
     simp only [ae,decide_eq_true_eq] at h
     exact ⟨by omega,h.2⟩
    have e:cN s=k+1+cN (s.drop (k+1)):=by
     rw [hlead,drop_byte h'.1,cN,h'.2,cond_true]; try omega
    rw [a6 (by omega)]
    first
    | (exfalso; omega)
    | exact ih (k+1) (by omega) (by omega) e
  · have h':k<s.length∧cl (s.getD k 0)=true:=by
     simp only [ae,decide_eq_true_eq] at hg
     refine ⟨by omega,?_⟩
     simp only [cl,ae,decide_eq_true_eq]; exact ⟨hg.1.2,hg.2⟩
    have e:cN s=k:=by
     rw [hlead,drop_byte h'.1,cN,jT h'.2,cond_false]; try omega
    refine J.mono hQ (J.nilOwn 8 9 .str rfl rfl ?_)
    have e2:IntKind.i64.wrap ((k:Int)+1)=((k+1:Nat):Int):=by rw [ct (by omega) (by omega)]; omega
    rw [e2]
    have hd:((cN s:Nat):Int)=(k:Int):=by omega
    rw [hd]
    refine sk s Γ _ (k:Int) hs s.length (k+1) k [] (by omega) (by omega) (by omega) (by simp) rfl ?_ ?_
    · rw [iI h'.1 (aq _),gN]; simpa using h'.2
    · rw [iB,e,drop_byte (k:=k) h'.1,iI h'.1 (aq _),gN]
      simp only [dE,jT h'.2,cond_false,bE]
  · refine hQ _ _ (gF.bad ?_)
    have hnb:k<s.length→(((s.getD k 0).toNat:Int)==32)=false:=by
     intro hlt
     cases hb:(((s.getD k 0).toNat:Int)==32)
     · rfl
     · have e1:decide ((k:Int)<av s)=true:=decide_eq_true (by omega)
       rw [e1,hb] at h; cases h
    have hng:k<s.length→cl (s.getD k 0)=false:=by
     intro hlt
     cases hg':cl (s.getD k 0)
     · rfl
     · simp only [cl,ae,decide_eq_true_eq] at hg'
       have e1:decide ((k:Int)<av s)=true:=decide_eq_true (by omega)
       rw [e1,decide_eq_true hg'.1,decide_eq_true hg'.2] at hg
       simp at hg
    by_cases hlt:k<s.length
    · have e:cN s=k:=by
       rw [hlead,drop_byte hlt,cN,hnb hlt,cond_false]; try omega
      rw [iB,e,drop_byte hlt]
      exact mM _ _ (hng hlt)
    · have e:cN s=s.length:=by
       rw [hlead,dh.2 (by omega)]; simp [cN]; omega
      rw [iB,e,List.drop_length]; rfl
theorem Ag (hQ:∀ v ck,gF (cN s:Nat) (iB s) v ck→Q v ck) (hs:s.length≤2097152):J Tryz.prog 45 (aA Tryz.f45) Γ Q [.code []] (eU Tryz.f45.ntmps [.s s] []):=by
 refine jg aT Tryz.func45 (let x1:=(↑((List.getD s 0 (0:UInt8)).toNat):Int); let x2:=(Value.slice none 0 0); let x3:=(IntKind.wrap .i64 ((0:Int)+1)); let x4:=[(dO s (some (0:Int)) (some (0:Int))).2]; let x5:=((0:Int)<av s); let x6:=(decide x5=true→(0:Int)≤0∧(0:Int)<av s); let x7:Tree:=(.ret (.tup [.i 0,.p (.v x2),.i 1]) []); .need x6 (.ite (decide x5&&x1==32) (.stop [.code [1,0,2],.inScope [1,0]] { n:=64,fr:=[(0,.p (.str s)),(2,.i 0),(3,.p (.v x2)),(4,.i 0),(5,.i x3),(8,.p (.v x2))],ck:=[] }) (.need x6 (.need ((decide x5&&decide (x1>32))=true→(0:Int)≤0∧(0:Int)<av s) (.ite (decide x5&&decide (x1>32)&&decide (x1<127)) (.stop zKb1 { n:=64,fr:=[(0,.p (.str s)),(2,.i 0),(3,.p (.v x2)),(4,.i 0),(5,.i x3),(6,.i 0),(7,.i 0),(8,.p (.v x2))],ck:=[] }) (.ite true x7 (.need ((0:Int)≤0∧(0:Int)≤0∧(0:Int)≤(s.length:Int)) (.need (room (List.length x4) 16) (.ite ((0:Int)==av s) (.ret (.tup [.i 0,.c (.own 0),.i 0]) [.own 9 .str x4]) (.need ((0:Int)≤0∧(0:Int)<av s) (.ite (x1 != 32) x7 (.stop zKb1 { n:=64,fr:=[(0,.p (.str s)),(2,.i 0),(3,.p (.v x2)),(4,.i 0),(5,.i x3),(6,.i 0),(7,.i x3),(8,.x (.c (.own 0)))],ck:=[.own 9 .str x4] })))))))))))) ?_
 conv=>zeta
 have hlead:cN s=0+cN (s.drop 0):=by simp
 have hL:av s=(s.length:Int):=rfl
 refine ⟨fun h=>by have:=of_decide_eq_true h; omega,fun h=>?_,fun h=>⟨fun h=>by have:=of_decide_eq_true h; omega,fun h=>by simp only [ae,decide_eq_true_eq] at h; omega,fun hg=>?_,fun hg=>⟨fun _=>?_,fun hne=>by simp at hne⟩⟩⟩
 · have h':0<s.length∧(((s.getD 0 0).toNat:Int)==32)=true:=by
    simp only [ae,decide_eq_true_eq] at h
    exact ⟨by omega,h.2⟩
   have e:cN s=0+1+cN (s.drop (0+1)):=by
    rw [hlead,drop_byte h'.1,cN,h'.2,cond_true]; try omega
   exact yB s Γ Q hQ hs s.length 1 (by omega) (by omega) e
 · have h':0<s.length∧cl (s.getD 0 0)=true:=by
    simp only [ae,decide_eq_true_eq] at hg
    refine ⟨by omega,?_⟩
    simp only [cl,ae,decide_eq_true_eq]; exact ⟨hg.1.2,hg.2⟩
   have e:cN s=0:=by
    rw [hlead,drop_byte h'.1,cN,jT h'.2,cond_false]; try omega
   refine J.mono hQ (J.nilOwn 8 9 .str rfl rfl ?_)
   have e2:IntKind.i64.wrap ((0:Int)+1)=((0+1:Nat):Int):=by rw [ct (by omega) (by omega)]; omega
   rw [e2]
   have hd:((cN s:Nat):Int)=(0:Int):=by omega
   rw [hd]
   refine J.frame (fun p hp=>?_) (sk s Γ _ (0:Int) hs s.length (0+1) 0 [] (by omega) (by omega) (by omega) (by simp) rfl ?_ ?_)
   · simp only [aF,List.not_mem_nil,or_false] at hp
     rcases hp with rfl | rfl | rfl | rfl | rfl | rfl | rfl | rfl <;> repeat (first | exact List.Mem.head _ | apply List.Mem.tail)
   · rw [iI h'.1 (aq _),gN]; simpa using h'.2
   · rw [iB,e,drop_byte (k:=0) h'.1,iI h'.1 (aq _),gN]
     simp only [dE,jT h'.2,cond_false,bE]
 · refine hQ _ _ (gF.bad ?_)
   have hnb:0<s.length→(((s.getD 0 0).toNat:Int)==32)=false:=by
    intro hlt
    cases hb:(((s.getD 0 0).toNat:Int)==32)
    · rfl
    · have e1:decide ((0:Int)<av s)=true:=decide_eq_true (by omega)
      rw [e1,hb] at h; cases h
   have hng:0<s.length→cl (s.getD 0 0)=false:=by
    intro hlt
    cases hg':cl (s.getD 0 0)
    · rfl
    · simp only [cl,ae,decide_eq_true_eq] at hg'
      have e1:decide ((0:Int)<av s)=true:=decide_eq_true (by omega)
      rw [e1,decide_eq_true hg'.1,decide_eq_true hg'.2] at hg
      simp at hg
   by_cases hlt:0<s.length
   · have e:cN s=0:=by
      rw [hlead,drop_byte hlt,cN,hnb hlt,cond_false]; try omega
     rw [iB,e,drop_byte hlt]
     exact mM _ _ (hng hlt)
   · have e:cN s=s.length:=by
      rw [hlead,dh.2 (by omega)]; simp [cN]; omega
     rw [iB,e,List.drop_length]; rfl
theorem HI (hs:s.length≤2097152) (h:B1 s=true):ag Tryz.prog 45 [.s s] [] (.tup [.i (cN s:Nat),.c (.own 0),.i 0]) [.own 9 .str (iB s)] :=
 ag.of Tryz.func45 (by kernel_rfl) (by kernel_rfl) fun Γ=>Ag s Γ _ (fun v ck q=>q.1 h) hs
end Go.Proofs.YtcopfgbbjdefbaaGreatDoor
namespace Go.Proofs.YtcopfgbbjdefbaaGreatDoor
open Go Go.Ev
set_option maxRecDepth 100000
def Ay:Ent:=(45,fun
 | [.c (.pd (.str s))],[]=>some (some (s.length≤2097152∧B1 s=true),.tup [.c (.pd (.int .i64 ((cN s:Nat):Int))),.c (.own 0),.c (.pd (.int .i64 0))],[.own 9 .str (iB s)])
 | _,_=>none)
theorem HR:EntOk Tryz.prog Ay:=entOk fun vs ck=>by
 unfold Ay; dsimp only; split
 · rename_i s; exact entS fun hp=>HI s hp.1 hp.2
 · exact entN
end Go.Proofs.YtcopfgbbjdefbaaGreatDoor
namespace Go.Proofs.YtcopfgbbjdefbaaGreatDoor
open Go Go.Ev
set_option maxRecDepth 100000
def lq:List (Str×Nat):=[([101,118,101,110,116],66),([105,110,116],67),([98,111,111,108],68),([112,111,105,110,116],69),([98,97,115,105,99],70),([98,111,116,104],71),([102,105,110,97,108],72),([111,110,101],73),([115,104,97,108,108,111,119],74),([100,101,101,112],75),([101,110,116,114,121],76),([101,120,105,116],77),([111,110],78)]
theorem yS:ag Tryz.prog 42 [] [] (.x (.p (.tbl lq))) []:=by
 refine dg aT Tryz.func42 (.stop [.ops [1,0] 0,.code [1,1]] { n:=3,fr:=[(0,.p (.v (Value.map none)))],ck:=[] }) fun Γ=>?_
 refine J.makeTbl (d:=1) (n:=13) (l:=lq.map fun p=>(bs p.1,p.2)) (by kernel_rfl) ?_
 have e:keyed (lq.map fun p=>(bs p.1,p.2))=lq:=by decide
 rw [e]
 refine jg aT Tryz.func42 (.ret (.p (PD.tbl [([(101:UInt8),118,101,110,116],66),([(105:UInt8),110,116],67),([(98:UInt8),111,111,108],68),([(112:UInt8),111,105,110,116],69),([(98:UInt8),97,115,105,99],70),([(98:UInt8),111,116,104],71),([(102:UInt8),105,110,97,108],72),([(111:UInt8),110,101],73),([(115:UInt8),104,97,108,108,111,119],74),([(100:UInt8),101,101,112],75),([(101:UInt8),110,116,114,121],76),([(101:UInt8),120,105,116],77),([(111:UInt8),110],78)])) []) ?_
 exact ⟨rfl,rfl⟩
def p9:Ent:=(42,fun
 | [],[]=>some (none,.x (.c (.pd (.tbl lq))),[])
 | _,_=>none)
theorem CE:EntOk Tryz.prog p9:=entOk fun vs ck=>by
 unfold p9; dsimp only; split
 · exact entS fun hp=>yS
 · exact entN
end Go.Proofs.YtcopfgbbjdefbaaGreatDoor
namespace Go.Proofs.YtcopfgbbjdefbaaGreatDoor
open Go Go.Ev
set_option maxRecDepth 100000
noncomputable section
def rHs : Nat × (List SX → List Chunk → Option (Option Prop × SV × List Chunk)) := fU Tryz.prog bH Tryz.f135 30 135
theorem I7 (vs : List SX) (ck : List Chunk) (p : Option Prop) (ret : SV) (ck' : List Chunk) (h : rHs.2 vs ck = some (p, ret, ck')) (hp : Holds p) : ag Tryz.prog rHs.1 vs ck ret ck' := eV aT Tryz.func135 (by kernel_rfl) h hp
def GK : Cfg := ⟨bb, [rHs]⟩
theorem El : af Tryz.prog GK.tab := (af.cons I7 af.nil)
def EB : Nat × (List SX → List Chunk → Option (Option Prop × SV × List Chunk)) := fU Tryz.prog GK Tryz.f80 30 80
theorem Hi (vs : List SX) (ck : List Chunk) (p : Option Prop) (ret : SV) (ck' : List Chunk) (h : EB.2 vs ck = some (p, ret, ck')) (hp : Holds p) : ag Tryz.prog EB.1 vs ck ret ck' := eV El Tryz.func80 (by kernel_rfl) h hp
def Gm : Cfg := ⟨bb, [EB]⟩
theorem Fx : af Tryz.prog Gm.tab := (af.cons Hi af.nil)
def rTs : Nat × (List SX → List Chunk → Option (Option Prop × SV × List Chunk)) := fU Tryz.prog Gm Tryz.f44 30 44
theorem Jg (vs : List SX) (ck : List Chunk) (p : Option Prop) (ret : SV) (ck' : List Chunk) (h : rTs.2 vs ck = some (p, ret, ck')) (hp : Holds p) : ag Tryz.prog rTs.1 vs ck ret ck' := eV Fx Tryz.func44 (by kernel_rfl) h hp
def tW : Cfg := ⟨bb, [iQ]⟩
theorem sq : af Tryz.prog tW.tab := (af.cons gM af.nil)
def rHd : Nat × (List SX → List Chunk → Option (Option Prop × SV × List Chunk)) := fU Tryz.prog tW Tryz.f121 30 121
theorem I3 (vs : List SX) (ck : List Chunk) (p : Option Prop) (ret : SV) (ck' : List Chunk) (h : rHd.2 vs ck = some (p, ret, ck')) (hp : Holds p) : ag Tryz.prog rHd.1 vs ck ret ck' := eV sq Tryz.func121 (by kernel_rfl) h hp
def Dt : Cfg := ⟨bb, [rHd]⟩
theorem De : af Tryz.prog Dt.tab := (af.cons I3 af.nil)
def D1 : Nat × (List SX → List Chunk → Option (Option Prop × SV × List Chunk)) := fU Tryz.prog Dt Tryz.f66 30 66
theorem GR (vs : List SX) (ck : List Chunk) (p : Option Prop) (ret : SV) (ck' : List Chunk) (h : D1.2 vs ck = some (p, ret, ck')) (hp : Holds p) : ag Tryz.prog D1.1 vs ck ret ck' := eV De Tryz.func66 (by kernel_rfl) h hp
def Ff : Nat × (List SX → List Chunk → Option (Option Prop × SV × List Chunk)) := fU Tryz.prog tW Tryz.f126 30 126
theorem HE (vs : List SX) (ck : List Chunk) (p : Option Prop) (ret : SV) (ck' : List Chunk) (h : Ff.2 vs ck = some (p, ret, ck')) (hp : Holds p) : ag Tryz.prog Ff.1 vs ck ret ck' := eV sq Tryz.func126 (by kernel_rfl) h hp
def vD : Cfg := ⟨bb, [Ff]⟩
theorem rU : af Tryz.prog vD.tab := (af.cons HE af.nil)
def F3 : Nat × (List SX → List Chunk → Option (Option Prop × SV × List Chunk)) := fU Tryz.prog vD Tryz.f73 30 73
theorem HP (vs : List SX) (ck : List Chunk) (p : Option Prop) (ret : SV) (ck' : List Chunk) (h : F3.2 vs ck = some (p, ret, ck')) (hp : Holds p) : ag Tryz.prog F3.1 vs ck ret ck' := eV rU Tryz.func73 (by kernel_rfl) h hp
def Fa : Nat × (List SX → List Chunk → Option (Option Prop × SV × List Chunk)) := fU Tryz.prog vD Tryz.f70 30 70
theorem Hv (vs : List SX) (ck : List Chunk) (p : Option Prop) (ret : SV) (ck' : List Chunk) (h : Fa.2 vs ck = some (p, ret, ck')) (hp : Holds p) : ag Tryz.prog Fa.1 vs ck ret ck' := eV rU Tryz.func70 (by kernel_rfl) h hp
def Fh : Nat × (List SX → List Chunk → Option (Option Prop × SV × List Chunk)) := fU Tryz.prog bH Tryz.f127 30 127
theorem HX (vs : List SX) (ck : List Chunk) (p : Option Prop) (ret : SV) (ck' : List Chunk) (h : Fh.2 vs ck = some (p, ret, ck')) (hp : Holds p) : ag Tryz.prog Fh.1 vs ck ret ck' := eV aT Tryz.func127 (by kernel_rfl) h hp
def BY : Cfg := ⟨bb, [Fh, mE, iQ]⟩
theorem Bu : af Tryz.prog BY.tab := (af.cons HX (af.cons r4 (af.cons gM af.nil)))
def rOn : Nat × (List SX → List Chunk → Option (Option Prop × SV × List Chunk)) := qY Tryz.prog BY Tryz.f78 999 30 78
theorem IH (vs : List SX) (ck : List Chunk) (p : Option Prop) (ret : SV) (ck' : List Chunk) (h : rOn.2 vs ck = some (p, ret, ck')) (hp : Holds p) : ag Tryz.prog rOn.1 vs ck ret ck' := AQ Bu Tryz.func78 (by kernel_rfl) h hp
def Jj : Cfg := ⟨bb, [p9, rTs, n9, Ay, iQ, D1, F3, Fa, rOn]⟩
theorem ky : af Tryz.prog Jj.tab := (af.cons CE (af.cons Jg (af.cons yD (af.cons HR (af.cons gM (af.cons GR (af.cons HP (af.cons Hv (af.cons IH af.nil)))))))))
end
abbrev wkN : SC := .pd (.v (.slice none 0 0))
def ckW (a b c d : SC) (n : Int) (r : List Chunk) : List Chunk := .cells [.pd (.str []), wkN, wkN, wkN, wkN] 27 :: .cells [.pd (.str [99]), a, b, c, d, .pd (.i n)] 65 :: .own 9 .str [[99, 104, 97, 114, 116, 32, 99], [101, 118, 101, 110, 116, 32, 103, 111], [111, 110, 101, 32, 114, 32, 97], [32, 98, 97, 115, 105, 99, 32, 97], [32, 32, 111, 110, 32, 103, 111, 32, 45, 32, 97, 32, 45]] :: r
def sR : Ev.Stat := ⟨[114], 2, 0, [97], [], []⟩
def sA : Ev.Stat := ⟨[97], 1, 1, [], [], []⟩
def ck1 : List Chunk := ckW wkN wkN wkN wkN 0 []
def ck2 : List Chunk := ckW (.own 3) wkN wkN wkN 0 [.own 9 .str [[103, 111]]]
abbrev wkI (i : Int) (n : Nat) : Prop := 0 ≤ i ∧ i < n
abbrev wkJ (i : Int) (n : Nat) : Prop := 0 ≤ i ∧ i ≤ n
abbrev wkB (n m : Nat) : Prop := n < m
abbrev wkL (n : Nat) : Prop := n ≤ 2097152 ∧ true = true
def tdW : List PI := [PI.code [1, 1, 1, 1, 0, 1, 0, 0], PI.inLoop [1, 1, 1, 1, 0, 1, 0, 0], PI.inBlock 0, PI.code [1, 1, 1, 1, 1]]
end Go.Proofs.YtcopfgbbjdefbaaGreatDoor
namespace Go.Proofs.YtcopfgbbjdefbaaGreatDoor
open Go Go.Ev
set_option maxRecDepth 100000
abbrev zJ30Cw:=J Tryz.prog 30 (aA Tryz.f30)
def exV:Str:=[99,104,97,114,116,32,99,10,111,110,101,32,114,32,97,10,32,98,97,115,105,99,32,97,10]
variable {Γ:Ctx} {Q:Out} (i:Int)
def frV:List (Nat×SV):=[(2,.x (.c (.loc 0 0))),(3,.i 0),(4,.i 0),(5,.x (.c (.loc 1 0))),(6,.p (.tbl lq)),(23,.x (.c (.own 2))),(24,.i 3),(25,.i i)]
def ckV (c:SC) (n:Int) (r:List Chunk):List Chunk:=.cells [.pd (.str []),wkN,wkN,wkN,wkN] 27 :: .cells [.pd (.str [99]),wkN,wkN,c,wkN,.pd (.i n)] 65 :: .own 9 .str [[99,104,97,114,116,32,99],[111,110,101,32,114,32,97],[32,98,97,115,105,99,32,97]]::r
def stV (ck:List Chunk):ST:={ n:=101,fr:=frV i,ck:=ck }
def cv1:List Chunk:=ckV wkN 0 []
def cv2:List Chunk:=ckV (.own 3) 0 [.own 42 .stat [sR]]
def cv3:List Chunk:=ckV (.own 3) 1 [.own 42 .stat [sR,sA]]
theorem vl0 (h:zJ30Cw Γ Q tdW (stV 1 cv1)):zJ30Cw Γ Q [.code []] (eU (Tryz.f30).ntmps [.s exV] []):=by
 refine J.runE (fn:=Tryz.f30) ky Tryz.func30 10 2 [wkB 1 2,wkI 1 2,true=true→wkB 1 2,true=true→wkI 1 2,true=true→wkB 0 2,true=true→wkI 0 2,wkL 7,wkB 0 3,wkI 0 3,wkB 24 4294967281,eA [eA [wkJ 24 25,eA [true=true→wkJ 24 25]]]] (by kernel_rfl) ?_ h
 repeat' first | exact trivial | decide | constructor | intro _
theorem vl1 (h:zJ30Cw Γ Q tdW (stV 2 cv2)):zJ30Cw Γ Q tdW (stV 1 cv1):=by
 refine J.runE (fn:=Tryz.f30) ky Tryz.func30 10 4 [eA [eA [room 1 96,wkI 1 2,wkI 0 2,false=false→wkI 1 2,false=false→wkI 0 2]],true=true→wkJ 1 3,wkB 0 3,wkI 0 3,wkL 7,wkB 1 3,wkI 1 3] (by kernel_rfl) ?_ h
 repeat' first | exact trivial | decide | constructor | intro _
theorem vl2 (h:zJ30Cw Γ Q tdW (stV 3 cv3)):zJ30Cw Γ Q tdW (stV 2 cv2):=by
 refine J.runE (fn:=Tryz.f30) ky Tryz.func30 10 4 [eA [eA [room 2 96,wkI 0 1,false=false→wkI 0 1,false=false→wkI 0 1,wkB 0 1,wkI 0 1]],true=true→wkJ 1 2,wkB 0 2,wkI 0 2,wkL 8,wkB 2 3,wkI 2 3] (by kernel_rfl) ?_ h
 repeat' first | exact trivial | decide | constructor | intro _
theorem Jm:ag Tryz.prog 30 [.s exV] [] (.tup [.agg [.pd (.str [99]),wkN,wkN,.own 0,wkN],.i 0,.i 0]) [.own 42 .stat [sR,sA]]:=by
 refine ag.of Tryz.func30 (by kernel_rfl) (by kernel_rfl) fun Γ=>vl0 (vl1 (vl2 ?_))
 exact (jZ (a:=[]) (fn:=Tryz.f30) (fz:=10) ky Tryz.func30 4 (ps:=[]) (by kernel_rfl) trivial ⟨rfl,rfl⟩).1
def AL:Ent:=(30,fun
 | [.c (.pd (.str s))],[]=>some (some (s=exV),.tup [.agg [.pd (.str [99]),.pd (.v (.slice none 0 0)),.pd (.v (.slice none 0 0)),.own 0,.pd (.v (.slice none 0 0))],.c (.pd (.int .i64 0)),.c (.pd (.int .i64 0))],[.own 42 .stat [⟨[114],2,0,[97],[],[]⟩,⟨[97],1,1,[],[],[]⟩]])
 | _,_=>none)
theorem HA:EntOk Tryz.prog AL:=entOk fun vs ck=>by
 unfold AL; dsimp only; split
 · rename_i s; exact entS fun hp=>by subst hp; exact Jm
 · exact entN
end Go.Proofs.YtcopfgbbjdefbaaGreatDoor
namespace Go.Proofs.YtcopfgbbjdefbaaGreatDoor
open Go Go.Ev
set_option maxRecDepth 100000
theorem ag.sub {P:Program} {f:FuncId} {args args':List SX} {ck ck':List Chunk} {ret:SV} (h:∀ (V:Vn) (vs:List Value),All2 (SX.R V) args vs→All2 (SX.R V) args' vs) (d:ag P f args' ck ret ck'):ag P f args ck ret ck' :=
 fun w V vs hw hT hv=>d w V vs hw hT (h V vs hv)
theorem mR {H:Mem} {t:ETy} {u:Value} (h:PR H (.v (.slice none 0 0)) u):PR H (.lst t []) u:=by
 cases h; exact .emp t none 0 (fun _=>rfl)
/-! ### a mark: guards that are literal count as none -/
def ye:Ent:=(1000000007,fun _ _=>none)
theorem xr (vs:List SX) (ck:List Chunk) (p:Option Prop) (ret:SV) (ck':List Chunk) (h:ye.2 vs ck=some (p,ret,ck')) (_:Holds p):ag Tryz.prog ye.1 vs ck ret ck':=by cases h
end Go.Proofs.YtcopfgbbjdefbaaGreatDoor
