/- Contracts: lines parted into words. Conditions: texts of at most 2^21 bytes. Contracts: the document's lines. Conditions: texts of at most 2^21 bytes. Contracts: lines parted into words. Conditions: sizes. Plain: lines put together out of words. Conditions: none. -/
import Derived.Test.YtpfidgnkokidoaaGreatDoorShelff
import Derived.Test.YtpfidgnkokidoaaGreatDoorNr
namespace Go.Proofs.YtpfidgnkokidoaaGreatDoor
open Go Go.Ev
set_option maxRecDepth 100000
/-! ### plain -/
variable (s:Str) (Γ:Ctx) (Q:Out) (W:List Str) (c:UInt8) (d:Int)
def dS:Bool:=decide ((c.toNat:Int)>32)&&decide ((c.toNat:Int)<127)
def db (w:Str):Bool:=!(w==[])&&w.all dS
def cz:Str→List UInt8→List Str
 | cur,[]=>[cur]
 | cur,c::r=>bif (c.toNat:Int)==32 then cur::cz [] r else cz (cur++[c]) r
def aM:List UInt8→Nat
 | []=>0
 | c::r=>bif (c.toNat:Int)==32 then aM r+1 else 0
def au:List Str:=cz [] (s.drop (aM s))
def eR:Bool:=(au s).all db
theorem yV:∀ s:List UInt8,aM s≤s.length
 | []=>aD _
 | c::r=>by
   have:=yV r
   unfold aM
   cases ((c.toNat:Int)==32) <;> simp <;> omega
theorem oX:∀ (rest:List UInt8) (cur:Str),cur.all dS=false→(cz cur rest).all db=false
 | [],cur,h=>by simp [cz,db,h]
 | c :: r,cur,h=>by
   unfold cz
   cases ((c.toNat:Int)==32)
   · simp only [cond_false]
     exact oX r (cur++[c]) (by rw [cN,h]; rfl)
   · simp only [cond_true,bA,db,h,bu,cJ]
theorem pO (rest:List UInt8) (h:dS c=false):(cz [] (c::rest)).all db=false:=by
 unfold cz
 cases ((c.toNat:Int)==32)
 · simp only [cond_false]
   exact oX rest ([]++[c]) (by simp [h])
 · simp [db]
theorem jh {c:UInt8} (h:dS c=true):((c.toNat:Int)==32)=false:=by
 simp only [dS,af,decide_eq_true_eq] at h
 simp; omega
/-! ### the program's line -/
def fT (W:List Str):Out:=fun v ck=>(W.all db=true→v = .tup [.i d,.c (.own 0),.i 0]∧ck=[.own 9 .str W])∧(W.all db=false→v = .tup [.i 0,.c (.pd (.v (.slice none 0 0))),.i 1]∧ck=[])
theorem fT.ok {d:Int} {W:List Str} (h:W.all db=true):fT d W (.tup [.i d,.c (.own 0),.i 0]) [.own 9 .str W]:=⟨fun _=>⟨rfl,rfl⟩,fun h'=>by rw [h] at h'; cases h'⟩
theorem fT.bad {d:Int} {W:List Str} (h:W.all db=false):fT d W (.tup [.i 0,.c (.pd (.v (.slice none 0 0))),.i 1]) []:=⟨fun h'=>(by rw [h] at h'; cases h'),fun _=>⟨rfl,rfl⟩⟩
theorem nR {n:Nat} (h:n≤3000000):room n 16:=by unfold room maxLen; omega
abbrev zKb1:List PI:=[.code [1,0,3],.inScope [1,0]]
theorem v7 (hs:s.length≤2097152):∀ (n k f:Nat) (out:List Str),s.length - k≤n→k≤s.length→f≤k→out.length≤f→out.all db=true→(seg s f k).all dS=true→out++cz (seg s f k) (s.drop k)=W →
 J Tryz.prog 19 (az Tryz.f19) Γ (fT d W) zKb1 ({ n:=64,fr:=[(0,.p (.str s)),(2,.i 0),(3,.p (.v (Value.slice none 0 0))),(4,.i 0),(5,.i ((k:Int))),(8,.x (.c (.own 0))),(6,.i d),(7,.i ((f:Int)))],ck:=[.own 9 .str out] }):=by
 intro n
 induction n with
 | zero=>?_
 | succ n ih=>?_
 all_goals
  intro k f out hn hk hf hlen hout hseg hW
  refine jg aV Tryz.func19 (let x1:=(↑((List.getD s k (0:UInt8)).toNat):Int); let x2:=(out++[(aw s (some (f:Int)) (some (k:Int))).2]); let x3:=(IntKind.wrap .i64 ((k:Int)+1)); let x4:=(Value.slice none 0 0); let x5:=((k:Int)<ab s); let x6:Tree:=(.ret (.tup [.i 0,.p (.v x4),.i 1]) []); .need (decide x5=true→(0:Int)≤(k:Int)∧(k:Int)<ab s) (.need ((decide x5&&decide (x1>32))=true→(0:Int)≤(k:Int)∧(k:Int)<ab s) (.ite (decide x5&&decide (x1>32)&&decide (x1<127)) (.stop zKb1 { n:=64,fr:=[(0,.p (.str s)),(2,.i 0),(3,.p (.v x4)),(4,.i 0),(5,.i x3),(8,.x (.c (.own 0))),(6,.i d),(7,.i f)],ck:=[.own 9 .str out] }) (.ite ((k:Int)==(f:Int)) x6 (.need ((0:Int)≤(f:Int)∧(f:Int)≤(k:Int)∧(k:Int)≤(s.length:Int)) (.need (room (x2.length) 16) (.ite ((k:Int)==ab s) (.ret (.tup [.i d,.c (.own 0),.i 0]) [.own 9 .str x2]) (.need ((0:Int)≤(k:Int)∧(k:Int)<ab s) (.ite (x1 != 32) x6 (.stop zKb1 { n:=64,fr:=[(0,.p (.str s)),(2,.i 0),(3,.p (.v x4)),(4,.i 0),(5,.i x3),(8,.x (.c (.own 0))),(6,.i d),(7,.i x3)],ck:=[.own 9 .str x2] })))))))))) ?_
  conv=>zeta
  have hL:ab s=(s.length:Int):=rfl
  have hcut:(aw s (some (f:Int)) (some (k:Int))).2=seg s f k:=rfl
  rw [hcut]
  refine ⟨fun h=>by have:=of_decide_eq_true h; omega,fun h=>by simp only [af,decide_eq_true_eq] at h; omega,fun h=>?_,fun h=>?_⟩
  · have h':k<s.length∧dS (s.getD k 0)=true:=by
     simp only [af,decide_eq_true_eq] at h
     refine ⟨by omega,?_⟩
     simp only [dS,af,decide_eq_true_eq]; exact ⟨h.1.2,h.2⟩
    rw [cU (by omega)]
    first
    | (exfalso; omega)
    | refine ih (k+1) f out (by omega) (by omega) (by omega) hlen hout ?_ ?_
      · rw [gK h'.1 hf,cN,hseg]; simpa using h'.2
      · rw [← hW,cH h'.1,gK h'.1 hf]
        simp only [cz,jh h'.2,cond_false]
  · have hbad:k<s.length→dS (s.getD k 0)=false:=by
     intro hlt
     cases hg:dS (s.getD k 0)
     · rfl
     · simp only [dS,af,decide_eq_true_eq] at hg
       have e1:decide ((k:Int)<ab s)=true:=decide_eq_true (by omega)
       rw [e1,decide_eq_true hg.1,decide_eq_true hg.2] at h
       simp at h
    refine ⟨fun hkf=>?_,fun hkf=>?_⟩
    · have hkf':k=f:=by
       have:(k:Int)=(f:Int):=by simpa using hkf
       omega
      refine fT.bad ?_
      rw [← hW,cN,hkf',eV]
      have:(cz [] (s.drop f)).all db=false:=by
       by_cases hlt:f<s.length
       · rw [cH hlt]; exact pO _ _ (by rw [← hkf'] at hlt ⊢; exact hbad hlt)
       · rw [cG.2 (by omega)]; rfl
      rw [this,bu]
    · have hkf':f<k:=by
       have:(k:Int)≠(f:Int):=by simpa using hkf
       omega
      have hv:db (seg s f k)=true:=by
       simp only [db,hseg,cT,aE,beq_eq_false_iff_ne]
       exact MZ hkf' hk
      have hout2:(out++[seg s f k]).all db=true:=by rw [cN,hout]; simp [hv]
      refine ⟨⟨by omega,by omega,by omega⟩,nR (by rw [aj]; simp; omega),fun he=>?_,fun he=>⟨?_,fun hb=>?_,fun hb=>?_⟩⟩
      · have he':k=s.length:=by
         have:(k:Int)=ab s:=by simpa using he
         omega
        have eW:W=out++[seg s f k]:=by rw [← hW,cG.2 (by omega)]; rfl
        rw [eW]
        exact fT.ok hout2
      · have:(k:Int)≠ab s:=by simpa using he
        omega
      · have hlt:k<s.length:=by
         have:(k:Int)≠ab s:=by simpa using he
         omega
        refine fT.bad ?_
        have hb':(((s.getD k 0).toNat:Int)==32)=false:=by simpa using hb
        rw [← hW,cN,cH hlt]
        have:(cz (seg s f k) (s.getD k 0::s.drop (k+1))).all db=false:=by
         simp only [cz,hb',cond_false]
         exact oX _ _ (by rw [cN,hseg]; simpa using hbad hlt)
        rw [this,bu]
      · have hlt:k<s.length:=by
         have:(k:Int)≠ab s:=by simpa using he
         omega
        have hb':(((s.getD k 0).toNat:Int)==32)=true:=by simpa using hb
        rw [cU (by omega)]
        first
        | (exfalso; omega)
        | refine ih (k+1) (k+1) (out++[seg s f k]) (by omega) (by omega) (by omega) (by rw [aj]; simp; omega) hout2 (by rw [eV]; rfl) ?_
          rw [← hW,cH hlt,eV]
          simp only [cz,hb',cond_true,b7,bt,cn]
theorem J.frame {P:Program} {f:FuncId} {root:Code} {Γ:Ctx} {Q:Out} {todo:List PI} {st:ST} {fr':List (Nat×SV)} (h:∀ p∈fr',p∈st.fr) (hk:J P f root Γ Q todo { st with fr:=fr' }):J P f root Γ Q todo st :=
 fun hT V a w r=>hk hT V a w (r.weaken h)
theorem DX (hQ:∀ v ck,fT (aM s:Nat) (au s) v ck→Q v ck) (hs:s.length≤2097152):∀ (n k:Nat),s.length - k≤n→k≤s.length→aM s=k+aM (s.drop k) →
 J Tryz.prog 19 (az Tryz.f19) Γ Q [.code [1,0,2],.inScope [1,0]] ({ n:=64,fr:=[(0,.p (.str s)),(2,.i 0),(3,.p (.v (Value.slice none 0 0))),(4,.i 0),(5,.i ((k:Int))),(8,.p (.v (Value.slice none 0 0)))],ck:=[] }):=by
 intro n
 induction n with
 | zero=>?_
 | succ n ih=>?_
 all_goals
  intro k hn hk hlead
  refine jg aV Tryz.func19 (let x1:=(↑((List.getD s k (0:UInt8)).toNat):Int); let x2:=(Value.slice none 0 0); let x3:=(IntKind.wrap .i64 ((k:Int)+1)); let x4:=[(aw s (some (k:Int)) (some (k:Int))).2]; let x6:=((k:Int)<ab s); let x5:=(decide x6=true→(0:Int)≤(k:Int)∧(k:Int)<ab s); let x7:Tree:=(.ret (.tup [.i 0,.p (.v x2),.i 1]) []); .need x5 (.ite (decide x6&&x1==32) (.stop [.code [1,0,2],.inScope [1,0]] { n:=64,fr:=[(0,.p (.str s)),(2,.i 0),(3,.p (.v x2)),(4,.i 0),(5,.i x3),(8,.p (.v x2))],ck:=[] }) (.need x5 (.need ((decide x6&&decide (x1>32))=true→(0:Int)≤(k:Int)∧(k:Int)<ab s) (.ite (decide x6&&decide (x1>32)&&decide (x1<127)) (.stop zKb1 { n:=64,fr:=[(0,.p (.str s)),(2,.i 0),(3,.p (.v x2)),(4,.i 0),(5,.i x3),(8,.p (.v x2)),(6,.i k),(7,.i k)],ck:=[] }) (.ite ((k:Int)==(k:Int)) x7 (.need ((0:Int)≤(k:Int)∧(k:Int)≤(k:Int)∧(k:Int)≤(s.length:Int)) (.need (room (List.length x4) 16) (.ite ((k:Int)==ab s) (.ret (.tup [.i k,.c (.own 0),.i 0]) [.own 9 .str x4]) (.need ((0:Int)≤(k:Int)∧(k:Int)<ab s) (.ite (x1 != 32) x7 (.stop zKb1 { n:=64,fr:=[(0,.p (.str s)),(2,.i 0),(3,.p (.v x2)),(4,.i 0),(5,.i x3),(8,.x (.c (.own 0))),(6,.i k),(7,.i x3)],ck:=[.own 9 .str x4] })))))))))))) ?_
  conv=>zeta
  have hL:ab s=(s.length:Int):=rfl
  refine ⟨fun h=>by have:=of_decide_eq_true h; omega,fun h=>?_,fun h=>⟨fun h=>by have:=of_decide_eq_true h; omega,fun h=>by simp only [af,decide_eq_true_eq] at h; omega,fun hg=>?_,fun hg=>⟨fun _=>?_,fun hne=>by simp at hne⟩⟩⟩
  · have h':k<s.length∧(((s.getD k 0).toNat:Int)==32)=true:=by
     simp only [af,decide_eq_true_eq] at h
     exact ⟨by omega,h.2⟩
    have e:aM s=k+1+aM (s.drop (k+1)):=by
     rw [hlead,cH h'.1,aM,h'.2,cond_true]; try omega
    rw [cU (by omega)]
    first
    | (exfalso; omega)
    | exact ih (k+1) (by omega) (by omega) e
  · have h':k<s.length∧dS (s.getD k 0)=true:=by
     simp only [af,decide_eq_true_eq] at hg
     refine ⟨by omega,?_⟩
     simp only [dS,af,decide_eq_true_eq]; exact ⟨hg.1.2,hg.2⟩
    have e:aM s=k:=by
     rw [hlead,cH h'.1,aM,jh h'.2,cond_false]; try omega
    refine J.mono hQ (J.nilOwn 8 9 .str rfl rfl ?_)
    have e2:IntKind.i64.wrap ((k:Int)+1)=((k+1:Nat):Int):=by rw [bG (by omega) (by omega)]; omega
    rw [e2]
    have hd:((aM s:Nat):Int)=(k:Int):=by omega
    rw [hd]
    refine v7 s Γ _ (k:Int) hs s.length (k+1) k [] (by omega) (by omega) (by omega) (by simp) rfl ?_ ?_
    · rw [gK h'.1 (aD _),eV]; simpa using h'.2
    · rw [au,e,cH (k:=k) h'.1,gK h'.1 (aD _),eV]
      simp only [cz,jh h'.2,cond_false,cn]
  · refine hQ _ _ (fT.bad ?_)
    have hnb:k<s.length→(((s.getD k 0).toNat:Int)==32)=false:=by
     intro hlt
     cases hb:(((s.getD k 0).toNat:Int)==32)
     · rfl
     · have e1:decide ((k:Int)<ab s)=true:=decide_eq_true (by omega)
       rw [e1,hb] at h; cases h
    have hng:k<s.length→dS (s.getD k 0)=false:=by
     intro hlt
     cases hg':dS (s.getD k 0)
     · rfl
     · simp only [dS,af,decide_eq_true_eq] at hg'
       have e1:decide ((k:Int)<ab s)=true:=decide_eq_true (by omega)
       rw [e1,decide_eq_true hg'.1,decide_eq_true hg'.2] at hg
       simp at hg
    by_cases hlt:k<s.length
    · have e:aM s=k:=by
       rw [hlead,cH hlt,aM,hnb hlt,cond_false]; try omega
      rw [au,e,cH hlt]
      exact pO _ _ (hng hlt)
    · have e:aM s=s.length:=by
       rw [hlead,cG.2 (by omega)]; simp [aM]; omega
      rw [au,e,fJ]; rfl
theorem tI (hQ:∀ v ck,fT (aM s:Nat) (au s) v ck→Q v ck) (hs:s.length≤2097152):J Tryz.prog 19 (az Tryz.f19) Γ Q [.code []] (bX Tryz.f19.ntmps [.s s] []):=by
 refine jg aV Tryz.func19 (let x1:=(↑((List.getD s 0 (0:UInt8)).toNat):Int); let x2:=(Value.slice none 0 0); let x3:=(IntKind.wrap .i64 ((0:Int)+1)); let x4:=[(aw s (some (0:Int)) (some (0:Int))).2]; let x5:=((0:Int)<ab s); let x6:=(decide x5=true→(0:Int)≤0∧(0:Int)<ab s); let x7:Tree:=(.ret (.tup [.i 0,.p (.v x2),.i 1]) []); .need x6 (.ite (decide x5&&x1==32) (.stop [.code [1,0,2],.inScope [1,0]] { n:=64,fr:=[(0,.p (.str s)),(2,.i 0),(3,.p (.v x2)),(4,.i 0),(5,.i x3),(8,.p (.v x2))],ck:=[] }) (.need x6 (.need ((decide x5&&decide (x1>32))=true→(0:Int)≤0∧(0:Int)<ab s) (.ite (decide x5&&decide (x1>32)&&decide (x1<127)) (.stop zKb1 { n:=64,fr:=[(0,.p (.str s)),(2,.i 0),(3,.p (.v x2)),(4,.i 0),(5,.i x3),(6,.i 0),(7,.i 0),(8,.p (.v x2))],ck:=[] }) (.ite true x7 (.need ((0:Int)≤0∧(0:Int)≤0∧(0:Int)≤(s.length:Int)) (.need (room (List.length x4) 16) (.ite ((0:Int)==ab s) (.ret (.tup [.i 0,.c (.own 0),.i 0]) [.own 9 .str x4]) (.need ((0:Int)≤0∧(0:Int)<ab s) (.ite (x1 != 32) x7 (.stop zKb1 { n:=64,fr:=[(0,.p (.str s)),(2,.i 0),(3,.p (.v x2)),(4,.i 0),(5,.i x3),(6,.i 0),(7,.i x3),(8,.x (.c (.own 0)))],ck:=[.own 9 .str x4] })))))))))))) ?_
 conv=>zeta
 have hlead:aM s=0+aM (s.drop 0):=by simp
 have hL:ab s=(s.length:Int):=rfl
 refine ⟨fun h=>by have:=of_decide_eq_true h; omega,fun h=>?_,fun h=>⟨fun h=>by have:=of_decide_eq_true h; omega,fun h=>by simp only [af,decide_eq_true_eq] at h; omega,fun hg=>?_,fun hg=>⟨fun _=>?_,fun hne=>by simp at hne⟩⟩⟩
 · have h':0<s.length∧(((s.getD 0 0).toNat:Int)==32)=true:=by
    simp only [af,decide_eq_true_eq] at h
    exact ⟨by omega,h.2⟩
   have e:aM s=0+1+aM (s.drop (0+1)):=by
    rw [hlead,cH h'.1,aM,h'.2,cond_true]; try omega
   exact DX s Γ Q hQ hs s.length 1 (by omega) (by omega) e
 · have h':0<s.length∧dS (s.getD 0 0)=true:=by
    simp only [af,decide_eq_true_eq] at hg
    refine ⟨by omega,?_⟩
    simp only [dS,af,decide_eq_true_eq]; exact ⟨hg.1.2,hg.2⟩
   have e:aM s=0:=by
    rw [hlead,cH h'.1,aM,jh h'.2,cond_false]; try omega
   refine J.mono hQ (J.nilOwn 8 9 .str rfl rfl ?_)
   have e2:IntKind.i64.wrap ((0:Int)+1)=((0+1:Nat):Int):=by rw [bG (by omega) (by omega)]; omega
   rw [e2]
   have hd:((aM s:Nat):Int)=(0:Int):=by omega
   rw [hd]
   refine J.frame (fun p hp=>?_) (v7 s Γ _ (0:Int) hs s.length (0+1) 0 [] (by omega) (by omega) (by omega) (by simp) rfl ?_ ?_)
   · simp only [bg,List.not_mem_nil,or_false] at hp
     rcases hp with rfl | rfl | rfl | rfl | rfl | rfl | rfl | rfl <;> repeat (first | exact List.Mem.head _ | apply List.Mem.tail)
   · rw [gK h'.1 (aD _),eV]; simpa using h'.2
   · rw [au,e,cH (k:=0) h'.1,gK h'.1 (aD _),eV]
     simp only [cz,jh h'.2,cond_false,cn]
 · refine hQ _ _ (fT.bad ?_)
   have hnb:0<s.length→(((s.getD 0 0).toNat:Int)==32)=false:=by
    intro hlt
    cases hb:(((s.getD 0 0).toNat:Int)==32)
    · rfl
    · have e1:decide ((0:Int)<ab s)=true:=decide_eq_true (by omega)
      rw [e1,hb] at h; cases h
   have hng:0<s.length→dS (s.getD 0 0)=false:=by
    intro hlt
    cases hg':dS (s.getD 0 0)
    · rfl
    · simp only [dS,af,decide_eq_true_eq] at hg'
      have e1:decide ((0:Int)<ab s)=true:=decide_eq_true (by omega)
      rw [e1,decide_eq_true hg'.1,decide_eq_true hg'.2] at hg
      simp at hg
   by_cases hlt:0<s.length
   · have e:aM s=0:=by
      rw [hlead,cH hlt,aM,hnb hlt,cond_false]; try omega
     rw [au,e,cH hlt]
     exact pO _ _ (hng hlt)
   · have e:aM s=s.length:=by
      rw [hlead,cG.2 (by omega)]; simp [aM]; omega
     rw [au,e,fJ]; rfl
theorem LN (hs:s.length≤2097152) (h:eR s=true):ak Tryz.prog 19 [.s s] [] (.tup [.i (aM s:Nat),.c (.own 0),.i 0]) [.own 9 .str (au s)] :=
 ak.of Tryz.func19 (by kernel_rfl) (by kernel_rfl) fun Γ=>tI s Γ _ (fun v ck q=>q.1 h) hs
theorem Jd (hs:s.length≤2097152) (h:eR s=false):ak Tryz.prog 19 [.s s] [] (.tup [.i 0,.c (.pd (.v (.slice none 0 0))),.i 1]) [] :=
 ak.of Tryz.func19 (by kernel_rfl) (by kernel_rfl) fun Γ=>tI s Γ _ (fun v ck q=>q.2 h) hs
end Go.Proofs.YtpfidgnkokidoaaGreatDoor
namespace Go.Proofs.YtpfidgnkokidoaaGreatDoor
open Go Go.Ev
set_option maxRecDepth 100000
abbrev zJ49Kc:=J Tryz.prog 49 (az Tryz.f49)
theorem kS:∀ (rest:List UInt8) (cur:Str),∀ w∈cz cur rest,w.length≤cur.length+rest.length
 | [],cur,w,h=>by simp [cz] at h; subst h; simp
 | c :: r,cur,w,h=>by
   unfold cz at h
   cases hc:((c.toNat:Int)==32)
   · rw [hc,cond_false] at h
     have:=kS r (cur++[c]) w h
     simp only [aj,ai,al] at this ⊢; omega
   · rw [hc,cond_true] at h
     rcases bg.1 h with rfl | h
     · simp
     · have:=kS r [] w h
       simp only [ai,al] at this ⊢; omega
theorem If (c:UInt8):(decide ((c.toNat:Int)<33)||decide ((c.toNat:Int)>126)) = !dS c:=by
 unfold dS
 rw [bV]
 simp only [aA,decide_eq_true_eq,aE,c8,decide_eq_false_iff_not]
 omega
theorem oI {α:Type} {p:α→Bool} {l:List α} {k:Nat} (h:k<l.length) (h1:(l.take k).all p=true) (h2:p l[k]=true):(l.take (k+1)).all p=true:=by
 rw [dB h,cN,h1]; simpa using h2
theorem uj {α:Type} {p:α→Bool} {l:List α} {k:Nat} (h:k<l.length) (h2:p l[k]=false):l.all p=false:=by
 rw [List.all_eq_false]; exact ⟨l[k],dY h,by rw [h2]; simp⟩
abbrev zKc1:List PI:=[.code [1,1,1,1,1,1,0,1,0,0,1,0,0,1,1,0,0],.inLoop [1,1,1,1,1,1,0,1,0,0,1,0,0,1,1,0,0],.inBlock 6,.inBlock 5,.code [1,1,1,1,1,1,0,1,0,0,1,1],.inLoop [1,1,1,1,1,1,0,1,0,0],.inBlock 4,.code [1,1,1,1,1,1,1]]
abbrev zKc2:List PI:=[.code [1,1,1,1,1,1,0,1,0,0],.inLoop [1,1,1,1,1,1,0,1,0,0],.inBlock 4,.code [1,1,1,1,1,1,1]]
variable (s:Str) (Γ:Ctx) (d:Int) (out:List Str)
theorem wF (k:Nat) (hk:k<out.length) (hlen:∀ w∈out,w.length≤3000000) (hml:out.length≤maxLen)
 (hnext:db out[k]=true→zJ49Kc Γ (fT d out) zKc2 ({ n:=89,fr:=[(2,.i 0),(3,.p (.v (Value.slice none 0 0))),(4,.i 0),(5,.i d),(6,.x (.c (.own 0))),(9,.i (((k+1:Nat):Int)))],ck:=[.own 9 .str out] })) (hne:out[k]≠[]):∀ (n j:Nat),out[k].length - j≤n→j≤out[k].length→(out[k].take j).all dS=true →
 zJ49Kc Γ (fT d out) zKc1 ({ n:=89,fr:=[(2,.i 0),(3,.p (.v (Value.slice none 0 0))),(4,.i 0),(5,.i d),(6,.x (.c (.own 0))),(9,.i k),(10,.i ((j:Int)))],ck:=[.own 9 .str out] }):=by
 have hw:=hlen _ (dY hk)
 intro n
 induction n with
 | zero=>?_
 | succ n ih=>?_
 all_goals
  intro j hn hj hall
  refine jg aV Tryz.func49 (let x1:=(↑((List.getD (ETy.get .str out k) j (0:UInt8)).toNat):Int); let x2:List Nat:=[1,1,1,1,1,1,0,1,0,0]; let x3:=(Value.slice none 0 0); let x4:List Nat:=[1,1,1,1,1,1,0,1,0,0,1,0,0,1,1,0,0]; .need (inRg k out.length) (.need (k<out.length) (.ite (decide ((j:Int)<ab (ETy.get .str out k))) (.need (inRg k out.length) (.need (k<out.length) (.need ((0:Int)≤(j:Int)∧(j:Int)<ab (ETy.get .str out k)) (.need (decide (x1<33)=false→(0:Int)≤(k:Int)∧(k:Int)<(out.length:Int)) (.need (decide (x1<33)=false→k<out.length) (.need (decide (x1<33)=false→(0:Int)≤(j:Int)∧(j:Int)<ab (ETy.get .str out k)) (.ite (decide (x1<33)||decide (x1>126)) (.ret (.tup [.i 0,.p (.v x3),.i 1]) []) (.stop [.code x4,.inLoop x4,.inBlock 6,.inBlock 5,.code [1,1,1,1,1,1,0,1,0,0,1,1],.inLoop x2,.inBlock 4,.code [1,1,1,1,1,1,1]] { n:=89,fr:=[(2,.i 0),(3,.p (.v x3)),(4,.i 0),(5,.i d),(6,.x (.c (.own 0))),(9,.i k),(10,.i (IntKind.wrap .i64 ((j:Int)+1)))],ck:=[.own 9 .str out] })))))))) (.stop [.code x2,.inLoop x2,.inBlock 4,.code [1,1,1,1,1,1,1]] { n:=89,fr:=[(2,.i 0),(3,.p (.v x3)),(4,.i 0),(5,.i d),(6,.x (.c (.own 0))),(9,.i (IntKind.wrap .i64 ((k:Int)+1)))],ck:=[.own 9 .str out] })))) ?_
  conv=>zeta
  have hg:ETy.get .str out k=out[k]:=ETy.get_eq (t:=.str) (List.getElem?_eq_getElem hk)
  rw [hg]
  have hL:ab out[k]=(out[k].length:Int):=rfl
  refine ⟨by omega,hk,fun h=>?_,fun h=>?_⟩
  · have hlt:j<out[k].length:=by have:=of_decide_eq_true h; omega
    have hgd:out[k].getD j 0=out[k][j]:=by rw [List.getD_eq_getElem?_getD,List.getElem?_eq_getElem hlt]; rfl
    rw [hgd,If]
    refine ⟨by omega,hk,by omega,fun _=>by omega,fun _=>hk,fun _=>by omega,fun hb=>?_,fun hb=>?_⟩
    · have hb':dS out[k][j]=false:=by simpa using hb
      refine fT.bad (uj hk ?_)
      simp only [db,uj hlt hb',bu]
    · have hb':dS out[k][j]=true:=by simpa using hb
      rw [cU (by omega)]
      first
      | (exfalso; omega)
      | exact ih (j+1) (by omega) (by omega) (oI hlt hall hb')
  · have hje:j=out[k].length:=by have:=of_decide_eq_false h; omega
    rw [hje,eM] at hall
    rw [cU (ju hk hml)]
    exact hnext (by simp [db,hall,hne])
theorem wN (hlen:∀ w∈out,w.length≤3000000):∀ (n k:Nat),out.length - k≤n→k≤out.length→(out.take k).all db=true →
 zJ49Kc Γ (fT d out) zKc2 ({ n:=89,fr:=[(2,.i 0),(3,.p (.v (Value.slice none 0 0))),(4,.i 0),(5,.i d),(6,.x (.c (.own 0))),(9,.i ((k:Int)))],ck:=[.own 9 .str out] }):=by
 intro n
 induction n with
 | zero=>?_
 | succ n ih=>?_
 all_goals
  intro k hn hk hall
  refine J.lenOwn 0 rfl fun hml=>?_
  refine jg aV Tryz.func49 (.ite (decide ((k:Int)<(out.length:Int))) (.need (inRg k out.length) (.need (k<out.length) (.ite (ab (ETy.get .str out k)==(0:Int)) (.ret (.tup [.i 0,.p (.v (Value.slice none 0 0)),.i 1]) []) (.stop zKc1 { n:=89,fr:=[(2,.i 0),(3,.p (.v (Value.slice none 0 0))),(4,.i 0),(5,.i d),(6,.x (.c (.own 0))),(9,.i k),(10,.i 0)],ck:=[.own 9 .str out] })))) (.ret (.tup [.i d,.c (.own 0),.i 0]) [.own 9 .str out])) ?_
  refine ⟨fun hlt=>?_,fun hge=>?_⟩
  · have hk':k<out.length:=by have:=of_decide_eq_true hlt; omega
    have hg:ETy.get .str out k=out[k]:=ETy.get_eq (t:=.str) (List.getElem?_eq_getElem hk')
    rw [hg]
    have hL:ab out[k]=(out[k].length:Int):=rfl
    refine ⟨by omega,hk',fun h0=>?_,fun h0=>?_⟩
    · have h0':out[k]=[]:=by
       have:ab out[k]=0:=by simpa using h0
       exact bj.1 (by omega)
      exact fT.bad (uj hk' (by rw [h0']; rfl))
    · have h0':out[k]≠[]:=by
       intro e
       have:ab out[k]≠0:=by simpa using h0
       exact this (by rw [e]; rfl)
      first
      | (exfalso; omega)
      | exact wF Γ d out k hk' hlen hml (fun hv=>ih (k+1) (by omega) (by omega) (oI hk' hall hv)) h0' out[k].length 0 (by omega) (by omega) (by simp)
  · have hk':k=out.length:=by have:=of_decide_eq_false hge; omega
    rw [hk',eM] at hall
    exact fT.ok hall
abbrev zKc3:List PI:=[.code [1,1,1,1,1,0,1,0,0],.inLoop [1,1,1,1,1,0,1,0,0],.inBlock 2,.code [1,1,1,1,1,1]]
theorem uu (W:List Str) (hs:s.length≤2097152) (hlen:∀ w∈W,w.length≤3000000):∀ (n k f:Nat) (out:List Str),s.length+1 - k≤n→k≤s.length+1→f≤k→out.length≤f→(k≤s.length→out++cz (seg s f k) (s.drop k)=W)→(k=s.length+1→out=W) →
 zJ49Kc Γ (fT d W) zKc3 ({ n:=89,fr:=[(0,.p (.str s)),(2,.i 0),(3,.p (.v (Value.slice none 0 0))),(4,.i 0),(5,.i d),(6,.x (.c (.own 0))),(7,.i ((f:Int))),(8,.i ((k:Int)))],ck:=[.own 9 .str out] }):=by
 intro n
 induction n with
 | zero=>?_
 | succ n ih=>?_
 all_goals
  intro k f out hn hk hf hlo h1 h2
  refine jg aV Tryz.func49 (let x1:List PI:=zKc3; let x2:=(IntKind.wrap .i64 ((k:Int)+1)); let x3:Nat×SV:=(3,.p (.v (Value.slice none 0 0))); let x4:=(out++[(aw s (some (f:Int)) (some (k:Int))).2]); .ite (decide ((k:Int)≤ab s)) (.need (((k:Int)==ab s)=false→(0:Int)≤(k:Int)∧(k:Int)<ab s) (.ite ((k:Int)==ab s||(↑((List.getD s k (0:UInt8)).toNat):Int)==32) (.need ((0:Int)≤(f:Int)∧(f:Int)≤(k:Int)∧(k:Int)≤(s.length:Int)) (.need (room (x4.length) 16) (.stop x1 { n:=89,fr:=[(0,.p (.str s)),(2,.i 0),x3,(4,.i 0),(5,.i d),(6,.x (.c (.own 0))),(7,.i x2),(8,.i x2)],ck:=[.own 9 .str x4] }))) (.stop x1 { n:=89,fr:=[(0,.p (.str s)),(2,.i 0),x3,(4,.i 0),(5,.i d),(6,.x (.c (.own 0))),(7,.i f),(8,.i x2)],ck:=[.own 9 .str out] }))) (.stop zKc2 { n:=89,fr:=[(2,.i 0),x3,(4,.i 0),(5,.i d),(6,.x (.c (.own 0))),(9,.i 0)],ck:=[.own 9 .str out] })) ?_
  conv=>zeta
  have hL:ab s=(s.length:Int):=rfl
  have hcut:(aw s (some (f:Int)) (some (k:Int))).2=seg s f k:=rfl
  rw [hcut]
  refine ⟨fun hle=>?_,fun hgt=>?_⟩
  · have hk':k≤s.length:=by have:=of_decide_eq_true hle; omega
    have hW:=h1 hk'
    refine ⟨fun h=>?_,fun h=>⟨by omega,nR (by rw [aj]; simp; omega),?_⟩,fun h=>?_⟩
    · have:(k:Int)≠ab s:=by simpa using h
      omega
    · rw [cU (by omega)]
      first
      | (exfalso; omega)
      | refine ih (k+1) (k+1) (out++[seg s f k]) (by omega) (by omega) (by omega) (by rw [aj]; simp; omega) (fun hk2=>?_) (fun hk2=>?_)
        · have hlt:k<s.length:=by omega
          have hb:(((s.getD k 0).toNat:Int)==32)=true:=by
           simp only [aA,beq_iff_eq] at h
           rcases h with h | h
           · omega
           · simpa using h
          rw [← hW,cH hlt,eV]
          simp only [cz,hb,cond_true,b7,bt,cn]
        · have he:k=s.length:=by omega
          rw [← hW,cG.2 (by omega)]; rfl
    · simp only [aq] at h
      have hlt:k<s.length:=by
       have:(k:Int)≠ab s:=by simpa using h.1
       omega
      rw [cU (by omega)]
      first
      | (exfalso; omega)
      | refine ih (k+1) f out (by omega) (by omega) (by omega) hlo (fun _=>?_) (fun hk2=>by omega)
        rw [← hW,cH hlt,gK hlt hf]
        simp only [cz,h.2,cond_false]
  · have hk':k=s.length+1:=by have:=of_decide_eq_false hgt; omega
    have:=h2 hk'
    subst this
    exact wN Γ d out hlen out.length 0 (by omega) (by omega) (by simp)
abbrev zKc4:List PI:=[.code [1,1,0,0,0],.inLoop [1,1,0,0,0],.inBlock 0,.code [1,1,1]]
theorem uY (hs:s.length≤2097152):∀ (n k:Nat),s.length - k≤n→k≤s.length→aM s=k+aM (s.drop k) →
 zJ49Kc Γ (fT (aM s:Nat) (au s)) zKc4 ({ n:=89,fr:=[(0,.p (.str s)),(2,.i 0),(3,.p (.v (Value.slice none 0 0))),(4,.i 0),(5,.i ((k:Int)))],ck:=[] }):=by
 intro n
 induction n with
 | zero=>?_
 | succ n ih=>?_
 all_goals
  intro k hn hk hlead
  refine jg aV Tryz.func49 (.need (decide ((k:Int)<ab s)=true→(0:Int)≤(k:Int)∧(k:Int)<ab s) (.ite (decide ((k:Int)<ab s)&&(↑((List.getD s k (0:UInt8)).toNat):Int)==32) (.stop zKc4 { n:=89,fr:=[(0,.p (.str s)),(2,.i 0),(3,.p (.v (Value.slice none 0 0))),(4,.i 0),(5,.i (IntKind.wrap .i64 ((k:Int)+1)))],ck:=[] }) (.stop zKc3 { n:=89,fr:=[(0,.p (.str s)),(2,.i 0),(3,.p (.v (Value.slice none 0 0))),(4,.i 0),(5,.i k),(6,.p (.v (Value.slice none 0 0))),(7,.i k),(8,.i k)],ck:=[] }))) ?_
  have hL:ab s=(s.length:Int):=rfl
  refine ⟨fun h=>by have:=of_decide_eq_true h; omega,fun h=>?_,fun h=>?_⟩
  · have h':k<s.length∧(((s.getD k 0).toNat:Int)==32)=true:=by
     simp only [af,decide_eq_true_eq] at h
     exact ⟨by omega,h.2⟩
    rw [cU (by omega)]
    first
    | (exfalso; omega)
    | exact ih (k+1) (by omega) (by omega) (by rw [hlead,cH h'.1,aM,h'.2,cond_true]; omega)
  · have e:aM s=k:=by
     by_cases hlt:k<s.length
     · have hb:(((s.getD k 0).toNat:Int)==32)=false:=by
        cases hb:(((s.getD k 0).toNat:Int)==32)
        · rfl
        · have e1:decide ((k:Int)<ab s)=true:=decide_eq_true (by omega)
          rw [e1,hb] at h; cases h
       rw [hlead,cH hlt,aM,hb,cond_false]; omega
     · rw [hlead,cG.2 (by omega)]; rfl
    have hlen:∀ w∈au s,w.length≤3000000:=by
     intro w hw
     have:=kS _ _ w hw
     rw [aL] at this
     simp at this; omega
    refine J.nilOwn 6 9 .str rfl rfl ?_
    have hd:((aM s:Nat):Int)=(k:Int):=by omega
    rw [hd]
    refine uu s Γ _ _ hs hlen (s.length+1) k k [] (by omega) (by omega) (by omega) (by simp) (fun _=>?_) (fun h=>by omega)
    rw [au,e,eV]; rfl
theorem nj (Q:Out) (hQ:∀ v ck,fT (aM s:Nat) (au s) v ck→Q v ck) (hs:s.length≤2097152):zJ49Kc Γ Q [.code []] (bX Tryz.f49.ntmps [.s s] []):=by
 refine jg aV Tryz.func49 (.stop zKc4 { n:=89,fr:=[(0,.p (.str s)),(2,.i 0),(3,.p (.v (Value.slice none 0 0))),(4,.i 0),(5,.i 0)],ck:=[] }) ?_
 exact J.mono hQ (uY s Γ hs s.length 0 (by omega) (by omega) (by simp))
theorem A1 (hs:s.length≤2097152) (h:eR s=true):ak Tryz.prog 49 [.s s] [] (.tup [.i (aM s:Nat),.c (.own 0),.i 0]) [.own 9 .str (au s)] :=
 ak.of Tryz.func49 (by kernel_rfl) (by kernel_rfl) fun Γ=>nj s Γ _ (fun v ck q=>q.1 h) hs
theorem xT (hs:s.length≤2097152) (h:eR s=false):ak Tryz.prog 49 [.s s] [] (.tup [.i 0,.c (.pd (.v (.slice none 0 0))),.i 1]) [] :=
 ak.of Tryz.func49 (by kernel_rfl) (by kernel_rfl) fun Γ=>nj s Γ _ (fun v ck q=>q.2 h) hs
end Go.Proofs.YtpfidgnkokidoaaGreatDoor
namespace Go.Proofs.YtpfidgnkokidoaaGreatDoor
open Go Go.Ev
set_option maxRecDepth 100000
def En:Ent:=(19,fun
 | [.c (.pd (.str s))],[]=>some (some (s.length≤2097152∧eR s=true),.tup [.c (.pd (.int .i64 ((aM s:Nat):Int))),.c (.own 0),.c (.pd (.int .i64 0))],[.own 9 .str (au s)])
 | _,_=>none)
theorem Ly:EntOk Tryz.prog En:=entOk fun vs ck=>by
 unfold En; dsimp only; split
 · rename_i s; exact entS fun hp=>LN s hp.1 hp.2
 · exact entN
def Di:Ent:=(19,fun
 | [.c (.pd (.str s))],[]=>some (some (s.length≤2097152∧eR s=false),.tup [.c (.pd (.int .i64 0)),.c (.pd (.v (.slice none 0 0))),.c (.pd (.int .i64 1))],[])
 | _,_=>none)
theorem LQ:EntOk Tryz.prog Di:=entOk fun vs ck=>by
 unfold Di; dsimp only; split
 · rename_i s; exact entS fun hp=>Jd s hp.1 hp.2
 · exact entN
def xb:Ent:=(49,fun
 | [.c (.pd (.str s))],[]=>some (some (s.length≤2097152∧eR s=true),.tup [.c (.pd (.int .i64 ((aM s:Nat):Int))),.c (.own 0),.c (.pd (.int .i64 0))],[.own 9 .str (au s)])
 | _,_=>none)
theorem H3:EntOk Tryz.prog xb:=entOk fun vs ck=>by
 unfold xb; dsimp only; split
 · rename_i s; exact entS fun hp=>A1 s hp.1 hp.2
 · exact entN
def xl:Ent:=(49,fun
 | [.c (.pd (.str s))],[]=>some (some (s.length≤2097152∧eR s=false),.tup [.c (.pd (.int .i64 0)),.c (.pd (.v (.slice none 0 0))),.c (.pd (.int .i64 1))],[])
 | _,_=>none)
theorem JT:EntOk Tryz.prog xl:=entOk fun vs ck=>by
 unfold xl; dsimp only; split
 · rename_i s; exact entS fun hp=>xT s hp.1 hp.2
 · exact entN
end Go.Proofs.YtpfidgnkokidoaaGreatDoor
namespace Go.Proofs.YtpfidgnkokidoaaGreatDoor
open Go Go.Ev
set_option maxRecDepth 100000
/-! ### plain -/
def glue (l:List Str):Str:=l.flatMap fun w=>32::w
def kb:List Str→Str
 | []=>[]
 | w::r=>w++glue r
theorem Jf (cur:Str):∀ rest,cz cur rest≠[]:=by
 intro rest
 induction rest generalizing cur with
 | nil=>simp [cz]
 | cons c r ih =>
   unfold cz
   cases ((c.toNat:Int)==32)
   · exact ih _
   · simp
theorem nE (s:Str):au s≠[]:=Jf _ _
variable {l:List Str} (n:Nat)
def iW:Str:=List.replicate n 32
theorem nT:∀ (w:Str) (cur rest:List UInt8),w.all dS=true→cz cur (w++rest)=cz (cur++w) rest
 | [],cur,rest,_=>by simp
 | c::w,cur,rest,h=>by
   simp only [bA,af] at h
   rw [bt,cz,jh h.1,cond_false,nT w (cur++[c]) rest h.2]; simp
theorem tv:∀ (l:List Str) (cur:Str),l.all db=true→cz cur (glue l)=cur::l
 | [],cur,_=>rfl
 | w::r,cur,h=>by
   simp only [bA,af] at h
   have hw:w.all dS=true:=by simp only [db,af] at h; exact h.1.2
   have e:glue (w::r)=32::(w++glue r):=by simp [glue]
   have hb:(((32:UInt8).toNat:Int)==32)=true:=by decide
   rw [e,cz,hb,cond_true,nT w [] _ hw,cn,tv r w h.2]
theorem Cn (hl:l≠[]) (h:l.all db=true):cz [] (kb l)=l:=by
 cases l with
 | nil=>exact absurd rfl hl
 | cons w r =>
   simp only [bA,af] at h
   have hw:w.all dS=true:=by simp only [db,af] at h; exact h.1.2
   rw [kb,nT w [] _ hw,cn,tv r w h.2]
theorem rz (r:List UInt8) (h:aM r=0):∀ n,aM (iW n++r)=n
 | 0=>by simpa [iW] using h
 | n+1=>by
   have hb:(((32:UInt8).toNat:Int)==32)=true:=by decide
   have e:iW (n+1)++r=32::(iW n++r):=by simp [iW,List.replicate_succ]
   rw [e,aM,hb,cond_true,rz r h n]
theorem G7 (hl:l≠[]) (h:l.all db=true):aM (kb l)=0:=by
 cases l with
 | nil=>exact absurd rfl hl
 | cons w r =>
   simp only [bA,af,db] at h
   cases w with
   | nil=>simp at h
   | cons c w =>
     have hc:dS c=true:=by have:=h.1.2; simp only [bA,af] at this; exact this.1
     rw [kb,bt,aM,jh hc,cond_false]
theorem CC (hl:l≠[]) (h:l.all db=true):aM (iW n++kb l)=n∧au (iW n++kb l)=l:=by
 have e:=rz (kb l) (G7 hl h) n
 refine ⟨e,?_⟩
 rw [au,e]
 have:(iW n++kb l).drop n=kb l:=by simp [iW]
 rw [this,Cn hl h]
end Go.Proofs.YtpfidgnkokidoaaGreatDoor
