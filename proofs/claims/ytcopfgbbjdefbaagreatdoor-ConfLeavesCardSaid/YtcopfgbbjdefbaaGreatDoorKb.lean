/- Contracts: lines parted into words. Conditions: texts of at most 2^21 bytes. -/
import Derived.Test.YtcopfgbbjdefbaaGreatDoorTa
import Derived.Lib.AppendIntMem
namespace Go.Proofs.YtcopfgbbjdefbaaGreatDoor
open Go Go.Ev
set_option maxRecDepth 100000
/-! ### plain -/
variable (s:Str) (Γ:Ctx) (Q:Out) (W:List Str) (c:UInt8) (d:Int)
def cu:Bool:=decide ((c.toNat:Int)>32)&&decide ((c.toNat:Int)<127)
def eQ (w:Str):Bool:=!(w==[])&&w.all cu
def dQ:Str→List UInt8→List Str
 | cur,[]=>[cur]
 | cur,c::r=>bif (c.toNat:Int)==32 then cur::dQ [] r else dQ (cur++[c]) r
def c6:List UInt8→Nat
 | []=>0
 | c::r=>bif (c.toNat:Int)==32 then c6 r+1 else 0
def iR:List Str:=dQ [] (s.drop (c6 s))
def EC:Bool:=(iR s).all eQ
theorem ny:∀ (rest:List UInt8) (cur:Str),cur.all cu=false→(dQ cur rest).all eQ=false
 | [],cur,h=>by simp [dQ,eQ,h]
 | c :: r,cur,h=>by
   unfold dQ
   cases ((c.toNat:Int)==32)
   · simp only [cond_false]
     exact ny r (cur++[c]) (by rw [bt,h]; rfl)
   · simp only [cond_true,cU,eQ,h,cz,aR]
theorem nX (rest:List UInt8) (h:cu c=false):(dQ [] (c::rest)).all eQ=false:=by
 unfold dQ
 cases ((c.toNat:Int)==32)
 · simp only [cond_false]
   exact ny rest ([]++[c]) (by simp [h])
 · simp [eQ]
theorem kQ {c:UInt8} (h:cu c=true):((c.toNat:Int)==32)=false:=by
 simp only [cu,af,decide_eq_true_eq] at h
 simp; omega
/-! ### the program's line -/
def hO (W:List Str):Out:=fun v ck=>(W.all eQ=true→v = .tup [.i d,.c (.own 0),.i 0]∧ck=[.own 9 .str W])∧(W.all eQ=false→v = .tup [.i 0,.c (.pd (.v (.slice none 0 0))),.i 1]∧ck=[])
theorem hO.ok {d:Int} {W:List Str} (h:W.all eQ=true):hO d W (.tup [.i d,.c (.own 0),.i 0]) [.own 9 .str W]:=⟨fun _=>⟨rfl,rfl⟩,fun h'=>by rw [h] at h'; cases h'⟩
theorem hO.bad {d:Int} {W:List Str} (h:W.all eQ=false):hO d W (.tup [.i 0,.c (.pd (.v (.slice none 0 0))),.i 1]) []:=⟨fun h'=>(by rw [h] at h'; cases h'),fun _=>⟨rfl,rfl⟩⟩
theorem IL {n:Nat} (h:n≤3000000):room n 16:=by unfold room maxLen; omega
abbrev zKb1:List PI:=[.code [1,0,3],.inScope [1,0]]
theorem tv (hs:s.length≤2097152):∀ (n k f:Nat) (out:List Str),s.length - k≤n→k≤s.length→f≤k→out.length≤f→out.all eQ=true→(seg s f k).all cu=true→out++dQ (seg s f k) (s.drop k)=W →
 J Tryz.prog 45 (aw Tryz.f45) Γ (hO d W) zKb1 ({ n:=64,fr:=[(0,.p (.str s)),(2,.i 0),(3,.p (.v (Value.slice none 0 0))),(4,.i 0),(5,.i ((k:Int))),(8,.x (.c (.own 0))),(6,.i d),(7,.i ((f:Int)))],ck:=[.own 9 .str out] }):=by
 intro n
 induction n with
 | zero=>?_
 | succ n ih=>?_
 all_goals
  intro k f out hn hk hf hlen hout hseg hW
  refine jg aV Tryz.func45 (let x1:=(↑((List.getD s k (0:UInt8)).toNat):Int); let x2:=(out++[(dJ s (some (f:Int)) (some (k:Int))).2]); let x3:=(IntKind.wrap .i64 ((k:Int)+1)); let x4:=(Value.slice none 0 0); let x5:=((k:Int)<aA s); let x6:Tree:=(.ret (.tup [.i 0,.p (.v x4),.i 1]) []); .need (decide x5=true→(0:Int)≤(k:Int)∧(k:Int)<aA s) (.need ((decide x5&&decide (x1>32))=true→(0:Int)≤(k:Int)∧(k:Int)<aA s) (.ite (decide x5&&decide (x1>32)&&decide (x1<127)) (.stop zKb1 { n:=64,fr:=[(0,.p (.str s)),(2,.i 0),(3,.p (.v x4)),(4,.i 0),(5,.i x3),(8,.x (.c (.own 0))),(6,.i d),(7,.i f)],ck:=[.own 9 .str out] }) (.ite ((k:Int)==(f:Int)) x6 (.need ((0:Int)≤(f:Int)∧(f:Int)≤(k:Int)∧(k:Int)≤(s.length:Int)) (.need (room (x2.length) 16) (.ite ((k:Int)==aA s) (.ret (.tup [.i d,.c (.own 0),.i 0]) [.own 9 .str x2]) (.need ((0:Int)≤(k:Int)∧(k:Int)<aA s) (.ite (x1 != 32) x6 (.stop zKb1 { n:=64,fr:=[(0,.p (.str s)),(2,.i 0),(3,.p (.v x4)),(4,.i 0),(5,.i x3),(8,.x (.c (.own 0))),(6,.i d),(7,.i x3)],ck:=[.own 9 .str x2] })))))))))) ?_
  conv=>zeta
  have hL:aA s=(s.length:Int):=rfl
  have hcut:(dJ s (some (f:Int)) (some (k:Int))).2=seg s f k:=rfl
  rw [hcut]
  refine ⟨fun h=>by have:=of_decide_eq_true h; omega,fun h=>by simp only [af,decide_eq_true_eq] at h; omega,fun h=>?_,fun h=>?_⟩
  · have h':k<s.length∧cu (s.getD k 0)=true:=by
     simp only [af,decide_eq_true_eq] at h
     refine ⟨by omega,?_⟩
     simp only [cu,af,decide_eq_true_eq]; exact ⟨h.1.2,h.2⟩
    rw [aZ (by omega)]
    first
    | (exfalso; omega)
    | refine ih (k+1) f out (by omega) (by omega) (by omega) hlen hout ?_ ?_
      · rw [je h'.1 hf,bt,hseg]; simpa using h'.2
      · rw [← hW,drop_byte h'.1,je h'.1 hf]
        simp only [dQ,kQ h'.2,cond_false]
  · have hbad:k<s.length→cu (s.getD k 0)=false:=by
     intro hlt
     cases hg:cu (s.getD k 0)
     · rfl
     · simp only [cu,af,decide_eq_true_eq] at hg
       have e1:decide ((k:Int)<aA s)=true:=decide_eq_true (by omega)
       rw [e1,decide_eq_true hg.1,decide_eq_true hg.2] at h
       simp at h
    refine ⟨fun hkf=>?_,fun hkf=>?_⟩
    · have hkf':k=f:=by
       have:(k:Int)=(f:Int):=by simpa using hkf
       omega
      refine hO.bad ?_
      rw [← hW,bt,hkf',iq]
      have:(dQ [] (s.drop f)).all eQ=false:=by
       by_cases hlt:f<s.length
       · rw [drop_byte hlt]; exact nX _ _ (by rw [← hkf'] at hlt ⊢; exact hbad hlt)
       · rw [dr.2 (by omega)]; rfl
      rw [this,cz]
    · have hkf':f<k:=by
       have:(k:Int)≠(f:Int):=by simpa using hkf
       omega
      have hv:eQ (seg s f k)=true:=by
       simp only [eQ,hseg,cW,aF,beq_eq_false_iff_ne]
       exact Mb hkf' hk
      have hout2:(out++[seg s f k]).all eQ=true:=by rw [bt,hout]; simp [hv]
      refine ⟨⟨by omega,by omega,by omega⟩,IL (by rw [aq]; simp; omega),fun he=>?_,fun he=>⟨?_,fun hb=>?_,fun hb=>?_⟩⟩
      · have he':k=s.length:=by
         have:(k:Int)=aA s:=by simpa using he
         omega
        have eW:W=out++[seg s f k]:=by rw [← hW,dr.2 (by omega)]; rfl
        rw [eW]
        exact hO.ok hout2
      · have:(k:Int)≠aA s:=by simpa using he
        omega
      · have hlt:k<s.length:=by
         have:(k:Int)≠aA s:=by simpa using he
         omega
        refine hO.bad ?_
        have hb':(((s.getD k 0).toNat:Int)==32)=false:=by simpa using hb
        rw [← hW,bt,drop_byte hlt]
        have:(dQ (seg s f k) (s.getD k 0::s.drop (k+1))).all eQ=false:=by
         simp only [dQ,hb',cond_false]
         exact ny _ _ (by rw [bt,hseg]; simpa using hbad hlt)
        rw [this,cz]
      · have hlt:k<s.length:=by
         have:(k:Int)≠aA s:=by simpa using he
         omega
        have hb':(((s.getD k 0).toNat:Int)==32)=true:=by simpa using hb
        rw [aZ (by omega)]
        first
        | (exfalso; omega)
        | refine ih (k+1) (k+1) (out++[seg s f k]) (by omega) (by omega) (by omega) (by rw [aq]; simp; omega) hout2 (by rw [iq]; rfl) ?_
          rw [← hW,drop_byte hlt,iq]
          simp only [dQ,hb',cond_true,bz,bS,bR]
theorem J.frame {P:Program} {f:FuncId} {root:Code} {Γ:Ctx} {Q:Out} {todo:List PI} {st:ST} {fr':List (Nat×SV)} (h:∀ p∈fr',p∈st.fr) (hk:J P f root Γ Q todo { st with fr:=fr' }):J P f root Γ Q todo st :=
 fun hT V a w r=>hk hT V a w (r.weaken h)
theorem CC (hQ:∀ v ck,hO (c6 s:Nat) (iR s) v ck→Q v ck) (hs:s.length≤2097152):∀ (n k:Nat),s.length - k≤n→k≤s.length→c6 s=k+c6 (s.drop k) →
 J Tryz.prog 45 (aw Tryz.f45) Γ Q [.code [1,0,2],.inScope [1,0]] ({ n:=64,fr:=[(0,.p (.str s)),(2,.i 0),(3,.p (.v (Value.slice none 0 0))),(4,.i 0),(5,.i ((k:Int))),(8,.p (.v (Value.slice none 0 0)))],ck:=[] }):=by
 intro n
 induction n with
 | zero=>?_
 | succ n ih=>?_
 all_goals
  intro k hn hk hlead
  refine jg aV Tryz.func45 (let x1:=(↑((List.getD s k (0:UInt8)).toNat):Int); let x2:=(Value.slice none 0 0); let x3:=(IntKind.wrap .i64 ((k:Int)+1)); let x4:=[(dJ s (some (k:Int)) (some (k:Int))).2]; let x6:=((k:Int)<aA s); let x5:=(decide x6=true→(0:Int)≤(k:Int)∧(k:Int)<aA s); let x7:Tree:=(.ret (.tup [.i 0,.p (.v x2),.i 1]) []); .need x5 (.ite (decide x6&&x1==32) (.stop [.code [1,0,2],.inScope [1,0]] { n:=64,fr:=[(0,.p (.str s)),(2,.i 0),(3,.p (.v x2)),(4,.i 0),(5,.i x3),(8,.p (.v x2))],ck:=[] }) (.need x5 (.need ((decide x6&&decide (x1>32))=true→(0:Int)≤(k:Int)∧(k:Int)<aA s) (.ite (decide x6&&decide (x1>32)&&decide (x1<127)) (.stop zKb1 { n:=64,fr:=[(0,.p (.str s)),(2,.i 0),(3,.p (.v x2)),(4,.i 0),(5,.i x3),(8,.p (.v x2)),(6,.i k),(7,.i k)],ck:=[] }) (.ite ((k:Int)==(k:Int)) x7 (.need ((0:Int)≤(k:Int)∧(k:Int)≤(k:Int)∧(k:Int)≤(s.length:Int)) (.need (room (List.length x4) 16) (.ite ((k:Int)==aA s) (.ret (.tup [.i k,.c (.own 0),.i 0]) [.own 9 .str x4]) (.need ((0:Int)≤(k:Int)∧(k:Int)<aA s) (.ite (x1 != 32) x7 (.stop zKb1 { n:=64,fr:=[(0,.p (.str s)),(2,.i 0),(3,.p (.v x2)),(4,.i 0),(5,.i x3),(8,.x (.c (.own 0))),(6,.i k),(7,.i x3)],ck:=[.own 9 .str x4] })))))))))))) ?_
  conv=>zeta
  have hL:aA s=(s.length:Int):=rfl
  refine ⟨fun h=>by have:=of_decide_eq_true h; omega,fun h=>?_,fun h=>⟨fun h=>by have:=of_decide_eq_true h; omega,fun h=>by simp only [af,decide_eq_true_eq] at h; omega,fun hg=>?_,fun hg=>⟨fun _=>?_,fun hne=>by simp at hne⟩⟩⟩
  · have h':k<s.length∧(((s.getD k 0).toNat:Int)==32)=true:=by
     simp only [af,decide_eq_true_eq] at h
     exact ⟨by omega,h.2⟩
    have e:c6 s=k+1+c6 (s.drop (k+1)):=by
     rw [hlead,drop_byte h'.1,c6,h'.2,cond_true]; try omega
    rw [aZ (by omega)]
    first
    | (exfalso; omega)
    | exact ih (k+1) (by omega) (by omega) e
  · have h':k<s.length∧cu (s.getD k 0)=true:=by
     simp only [af,decide_eq_true_eq] at hg
     refine ⟨by omega,?_⟩
     simp only [cu,af,decide_eq_true_eq]; exact ⟨hg.1.2,hg.2⟩
    have e:c6 s=k:=by
     rw [hlead,drop_byte h'.1,c6,kQ h'.2,cond_false]; try omega
    refine J.mono hQ (J.nilOwn 8 9 .str rfl rfl ?_)
    have e2:IntKind.i64.wrap ((k:Int)+1)=((k+1:Nat):Int):=by rw [cv (by omega) (by omega)]; omega
    rw [e2]
    have hd:((c6 s:Nat):Int)=(k:Int):=by omega
    rw [hd]
    refine tv s Γ _ (k:Int) hs s.length (k+1) k [] (by omega) (by omega) (by omega) (by simp) rfl ?_ ?_
    · rw [je h'.1 (ar _),iq]; simpa using h'.2
    · rw [iR,e,drop_byte (k:=k) h'.1,je h'.1 (ar _),iq]
      simp only [dQ,kQ h'.2,cond_false,bR]
  · refine hQ _ _ (hO.bad ?_)
    have hnb:k<s.length→(((s.getD k 0).toNat:Int)==32)=false:=by
     intro hlt
     cases hb:(((s.getD k 0).toNat:Int)==32)
     · rfl
     · have e1:decide ((k:Int)<aA s)=true:=decide_eq_true (by omega)
       rw [e1,hb] at h; cases h
    have hng:k<s.length→cu (s.getD k 0)=false:=by
     intro hlt
     cases hg':cu (s.getD k 0)
     · rfl
     · simp only [cu,af,decide_eq_true_eq] at hg'
       have e1:decide ((k:Int)<aA s)=true:=decide_eq_true (by omega)
       rw [e1,decide_eq_true hg'.1,decide_eq_true hg'.2] at hg
       simp at hg
    by_cases hlt:k<s.length
    · have e:c6 s=k:=by
       rw [hlead,drop_byte hlt,c6,hnb hlt,cond_false]; try omega
      rw [iR,e,drop_byte hlt]
      exact nX _ _ (hng hlt)
    · have e:c6 s=s.length:=by
       rw [hlead,dr.2 (by omega)]; simp [c6]; omega
      rw [iR,e,List.drop_length]; rfl
theorem BD (hQ:∀ v ck,hO (c6 s:Nat) (iR s) v ck→Q v ck) (hs:s.length≤2097152):J Tryz.prog 45 (aw Tryz.f45) Γ Q [.code []] (ft Tryz.f45.ntmps [.s s] []):=by
 refine jg aV Tryz.func45 (let x1:=(↑((List.getD s 0 (0:UInt8)).toNat):Int); let x2:=(Value.slice none 0 0); let x3:=(IntKind.wrap .i64 ((0:Int)+1)); let x4:=[(dJ s (some (0:Int)) (some (0:Int))).2]; let x5:=((0:Int)<aA s); let x6:=(decide x5=true→(0:Int)≤0∧(0:Int)<aA s); let x7:Tree:=(.ret (.tup [.i 0,.p (.v x2),.i 1]) []); .need x6 (.ite (decide x5&&x1==32) (.stop [.code [1,0,2],.inScope [1,0]] { n:=64,fr:=[(0,.p (.str s)),(2,.i 0),(3,.p (.v x2)),(4,.i 0),(5,.i x3),(8,.p (.v x2))],ck:=[] }) (.need x6 (.need ((decide x5&&decide (x1>32))=true→(0:Int)≤0∧(0:Int)<aA s) (.ite (decide x5&&decide (x1>32)&&decide (x1<127)) (.stop zKb1 { n:=64,fr:=[(0,.p (.str s)),(2,.i 0),(3,.p (.v x2)),(4,.i 0),(5,.i x3),(6,.i 0),(7,.i 0),(8,.p (.v x2))],ck:=[] }) (.ite true x7 (.need ((0:Int)≤0∧(0:Int)≤0∧(0:Int)≤(s.length:Int)) (.need (room (List.length x4) 16) (.ite ((0:Int)==aA s) (.ret (.tup [.i 0,.c (.own 0),.i 0]) [.own 9 .str x4]) (.need ((0:Int)≤0∧(0:Int)<aA s) (.ite (x1 != 32) x7 (.stop zKb1 { n:=64,fr:=[(0,.p (.str s)),(2,.i 0),(3,.p (.v x2)),(4,.i 0),(5,.i x3),(6,.i 0),(7,.i x3),(8,.x (.c (.own 0)))],ck:=[.own 9 .str x4] })))))))))))) ?_
 conv=>zeta
 have hlead:c6 s=0+c6 (s.drop 0):=by simp
 have hL:aA s=(s.length:Int):=rfl
 refine ⟨fun h=>by have:=of_decide_eq_true h; omega,fun h=>?_,fun h=>⟨fun h=>by have:=of_decide_eq_true h; omega,fun h=>by simp only [af,decide_eq_true_eq] at h; omega,fun hg=>?_,fun hg=>⟨fun _=>?_,fun hne=>by simp at hne⟩⟩⟩
 · have h':0<s.length∧(((s.getD 0 0).toNat:Int)==32)=true:=by
    simp only [af,decide_eq_true_eq] at h
    exact ⟨by omega,h.2⟩
   have e:c6 s=0+1+c6 (s.drop (0+1)):=by
    rw [hlead,drop_byte h'.1,c6,h'.2,cond_true]; try omega
   exact CC s Γ Q hQ hs s.length 1 (by omega) (by omega) e
 · have h':0<s.length∧cu (s.getD 0 0)=true:=by
    simp only [af,decide_eq_true_eq] at hg
    refine ⟨by omega,?_⟩
    simp only [cu,af,decide_eq_true_eq]; exact ⟨hg.1.2,hg.2⟩
   have e:c6 s=0:=by
    rw [hlead,drop_byte h'.1,c6,kQ h'.2,cond_false]; try omega
   refine J.mono hQ (J.nilOwn 8 9 .str rfl rfl ?_)
   have e2:IntKind.i64.wrap ((0:Int)+1)=((0+1:Nat):Int):=by rw [cv (by omega) (by omega)]; omega
   rw [e2]
   have hd:((c6 s:Nat):Int)=(0:Int):=by omega
   rw [hd]
   refine J.frame (fun p hp=>?_) (tv s Γ _ (0:Int) hs s.length (0+1) 0 [] (by omega) (by omega) (by omega) (by simp) rfl ?_ ?_)
   · simp only [aH,List.not_mem_nil,or_false] at hp
     rcases hp with rfl | rfl | rfl | rfl | rfl | rfl | rfl | rfl <;> repeat (first | exact List.Mem.head _ | apply List.Mem.tail)
   · rw [je h'.1 (ar _),iq]; simpa using h'.2
   · rw [iR,e,drop_byte (k:=0) h'.1,je h'.1 (ar _),iq]
     simp only [dQ,kQ h'.2,cond_false,bR]
 · refine hQ _ _ (hO.bad ?_)
   have hnb:0<s.length→(((s.getD 0 0).toNat:Int)==32)=false:=by
    intro hlt
    cases hb:(((s.getD 0 0).toNat:Int)==32)
    · rfl
    · have e1:decide ((0:Int)<aA s)=true:=decide_eq_true (by omega)
      rw [e1,hb] at h; cases h
   have hng:0<s.length→cu (s.getD 0 0)=false:=by
    intro hlt
    cases hg':cu (s.getD 0 0)
    · rfl
    · simp only [cu,af,decide_eq_true_eq] at hg'
      have e1:decide ((0:Int)<aA s)=true:=decide_eq_true (by omega)
      rw [e1,decide_eq_true hg'.1,decide_eq_true hg'.2] at hg
      simp at hg
   by_cases hlt:0<s.length
   · have e:c6 s=0:=by
      rw [hlead,drop_byte hlt,c6,hnb hlt,cond_false]; try omega
     rw [iR,e,drop_byte hlt]
     exact nX _ _ (hng hlt)
   · have e:c6 s=s.length:=by
      rw [hlead,dr.2 (by omega)]; simp [c6]; omega
     rw [iR,e,List.drop_length]; rfl
theorem JD (hs:s.length≤2097152) (h:EC s=true):ah Tryz.prog 45 [.s s] [] (.tup [.i (c6 s:Nat),.c (.own 0),.i 0]) [.own 9 .str (iR s)] :=
 ah.of Tryz.func45 (by kernel_rfl) (by kernel_rfl) fun Γ=>BD s Γ _ (fun v ck q=>q.1 h) hs
end Go.Proofs.YtcopfgbbjdefbaaGreatDoor
