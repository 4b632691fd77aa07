/- Contracts: the document's trees: parents, what is within, children, right trees, domains. Conditions: sizes. -/
import Derived.Test.YtcopfgbbjdefbaaGreatDoorTa
namespace Go.Proofs.YtcopfgbbjdefbaaGreatDoor
open Go Go.Ev
set_option maxRecDepth 100000
abbrev zJ56Sa:=J Tryz.prog 56 (aw Tryz.f56)
def fk (l:List Ev.Stat) (d:Int):Nat→Int
 | 0=>-1
 | k+1=>if ((ETy.get .stat l k).depth==d)=true then (k:Int) else fk l d k
variable (l:List Ev.Stat) (i r:Int) (j k:Nat)
def bB (i:Nat):Int:=fk l (IntKind.wrap .i64 ((ETy.get .stat l i).depth - 1)) i
def gx (l:List Ev.Stat) (i:Int):Nat→Int→Bool
 | 0,_=>false
 | n+1,k=>if k<0 then false else if (k==i)=true then true else gx l i n (bB l k.toNat)
def dN:Bool:=gx l i (l.length+1) (bB l j)
def bF (n:Nat):List Int:=((List.range n).filter fun k=>bB l k==i&&decide ((ETy.get .stat l k).depth>0)).map fun k:Nat=>(k:Int)
def gP:Bool:=decide ((ETy.get .stat l k).kind<1)||decide ((ETy.get .stat l k).kind>6)||decide ((ETy.get .stat l k).depth<0)||decide ((ETy.get .stat l k).depth>5)||decide (0<k)&&decide ((ETy.get .stat l k).depth>IntKind.wrap .i64 ((ETy.get .stat l (k - 1)).depth+1))
def eG (l:List Ev.Stat):Nat→Nat→Int→Option Int
 | 0,_,r=>some r
 | n+1,k,r=>if gP l k=true then none else if ((ETy.get .stat l k).depth==0)=true then (if ((ETy.get .stat l k).kind != 2)=true then none else eG l n (k+1) (IntKind.wrap .i64 (r+1))) else eG l n (k+1) r
def CV:Option Int→Bool
 | none=>false
 | some r=>decide (r≤4)
def gJ:Bool:=!(decide (l.length<1)||decide (l.length>40)||(ETy.get .stat l 0).depth != 0)&&CV (eG l l.length 0 0)
def jw (i:Nat):Bool :=
 !(decide (bB l i≥0)&&(ETy.get .stat l (bB l i).toNat).kind != 2&&((ETy.get .stat l (bB l i).toNat).kind != 3||decide ((ETy.get .stat l i).kind>3)))&&(bif (ETy.get .stat l i).kind != 2&&(ETy.get .stat l i).kind != 3 then true else (bF l (i:Int) l.length).any fun y=>!a8 (ETy.get .stat l y.toNat).kind)
def fI (l:List Ev.Stat):Nat→Nat→Bool
 | 0,_=>true
 | n+1,k=>jw l k&&fI l n (k+1)
def fD:Bool:=gJ l&&fI l l.length 0
def jN (l:List Ev.Stat) (j:Nat):Nat→Int→Int
 | 0,_=>-1
 | n+1,k=>if k<0 then k else if ((ETy.get .stat l k.toNat).kind==2&&dN l k j)=true then k else jN l j n (bB l k.toNat)
def k6 (i j:Nat):Int:=jN l j (l.length+1) (i:Int)
theorem tc (l:List Ev.Stat) (d:Int):∀ k:Nat, -1≤fk l d k∧fk l d k<(k:Int)
 | 0=>by rw [fk]; omega
 | k+1=>by
   have:=tc l d k
   rw [fk]; split <;> omega
theorem j8 : -1≤bB l k∧bB l k<(k:Int):=tc _ _ _
theorem ym (k:Int):ah Tryz.prog 35 [.i k] [] (.x (.b (a8 k))) []:=by
 refine dg aV Tryz.func35 (.ret (.p (.bool (k==(5:Int)||k==(6:Int)))) []) fun Γ=>?_
 exact ⟨rfl,rfl⟩
def iJ:Ent:=(35,fun
 | [.c (.pd (.int .i64 k))],[]=>some (none,.x (.c (.pd (.bool (a8 k)))),[])
 | _,_=>none)
theorem iA:EntOk Tryz.prog iJ:=entOk fun vs ck=>by
 unfold iJ; dsimp only; split
 · rename_i k; exact entS fun hp=>ym k
 · exact entN
abbrev zSa1:List PI:=[.code [1,1,0,1,0,0],.inLoop [1,1,0,1,0,0],.inBlock 0,.code [1,1,1]]
theorem K7 (i:Nat) (hi:i<l.length) (hl:l.length≤maxLen) (Γ:Ctx):∀ n k:Nat,i - k≤n→k≤i →
 J Tryz.prog 36 (aw Tryz.f36) Γ (Eq2 (.x (.i (bB l i))) []) zSa1 ({ n:=26,fr:=[(0,.p (.lst .stat l)),(1,.i i),(4,.i 0),(5,.i ((fk l (IntKind.wrap .i64 ((ETy.get .stat l i).depth - 1)) k))),(6,.i ((k:Int)))],ck:=[] }):=by
 intro n
 induction n with
 | zero=>?_
 | succ n ih=>?_
 all_goals
  intro k hn hk
  generalize hfd:fk l (IntKind.wrap .i64 ((ETy.get .stat l i).depth - 1)) k=fd
  refine jg aV Tryz.func36 (.ite (decide ((k:Int)<(i:Int))) (.need (inRg k l.length) (.need (inRg i l.length) (.ite (Stat.depth (ETy.get .stat l k)==IntKind.wrap .i64 (Stat.depth (ETy.get .stat l i) - (1:Int))) (.stop zSa1 { n:=26,fr:=[(0,.p (.lst .stat l)),(1,.i i),(4,.i 0),(5,.i k),(6,.i (IntKind.wrap .i64 ((k:Int)+1)))],ck:=[] }) (.stop zSa1 { n:=26,fr:=[(0,.p (.lst .stat l)),(1,.i i),(4,.i 0),(5,.i fd),(6,.i (IntKind.wrap .i64 ((k:Int)+1)))],ck:=[] })))) (.ret (.i fd) [])) ?_
  refine ⟨fun hlt=>?_,fun hge=>?_⟩
  · have hk':k<i:=by have:=of_decide_eq_true hlt; omega
    have hw:=aZ (aC (show k<l.length by omega) hl)
    refine ⟨⟨by omega,by omega⟩,⟨by omega,by omega⟩,fun h=>?_,fun h=>?_⟩
    · have e:fk l (IntKind.wrap .i64 ((ETy.get .stat l i).depth - 1)) (k+1)=(k:Int):=by rw [fk,if_pos h]
      rw [hw,← e]
      first
      | (exfalso; omega)
      | exact ih (k+1) (by omega) (by omega)
    · have e:fk l (IntKind.wrap .i64 ((ETy.get .stat l i).depth - 1)) (k+1)=fd:=by rw [fk,if_neg (by rw [h]; decide),hfd]
      rw [hw,← e]
      first
      | (exfalso; omega)
      | exact ih (k+1) (by omega) (by omega)
  · have hke:k=i:=by have:=of_decide_eq_false hge; omega
    subst hke
    refine ⟨?_,rfl⟩
    rw [← hfd]; rfl
theorem FG (h:0≤i∧i<(l.length:Int)∧l.length≤maxLen):ah Tryz.prog 36 [.l .stat l,.i i] [] (.x (.i (bB l i.toNat))) []:=by
 obtain ⟨k,rfl⟩:=aD h.1
 rw [ai]
 have key:ah Tryz.prog 36 [.l .stat l,.i (k:Int)] [] (.x (.i (bB l k))) []:=by
  refine dg aV Tryz.func36 (.stop zSa1 { n:=26,fr:=[(0,.p (.lst .stat l)),(1,.i k),(4,.i 0),(5,.i (-1:Int)),(6,.i 0)],ck:=[] }) fun Γ=>?_
  exact K7 l k (by omega) h.2.2 Γ k 0 (by omega) (by omega)
 exact key
def lA:Ent:=(36,fun
 | [.c (.pd (.lst .stat l)),.c (.pd (.int .i64 i))],[]=>some (some (0≤i∧i<(l.length:Int)∧l.length≤maxLen),.x (.c (.pd (.int .i64 (bB l i.toNat)))),[])
 | _,_=>none)
theorem ky:EntOk Tryz.prog lA:=entOk fun vs ck=>by
 unfold lA; dsimp only; split
 · rename_i l i; exact entS fun hp=>FG l i hp
 · exact entN
def qR:Cfg:=⟨aX,[lA]⟩
theorem mU:ag Tryz.prog qR.tab:=(ag.cons ky ag.nil)
abbrev zSa6:List PI:=[.code [1,0,1,0,0],.inLoop [1,0,1,0,0],.inBlock 0,.code [1,1]]
theorem Le (j:Nat) (hl:l.length≤maxLen) (Γ:Ctx):∀ (n:Nat) (k:Int), -1≤k→k<(l.length:Int)→k+1<(n:Int) →
 J Tryz.prog 27 (aw Tryz.f27) Γ (Eq2 (.x (.b (gx l i n k))) []) zSa6 ({ n:=19,fr:=[(0,.p (.lst .stat l)),(1,.i i),(6,.p (.bool false)),(7,.i k)],ck:=[],kn:=[6] }):=by
 intro n
 induction n with
 | zero=>intro k h1 h2 h3; omega
 | succ n ih =>
   intro k h1 h2 h3
   refine jg mU Tryz.func27 (.ite (decide (k≥(0:Int))) (.ite (k==i) (.ret (.p (.bool true)) []) (.need ((0:Int)≤k∧k<(l.length:Int)∧l.length≤maxLen) (.stop zSa6 { n:=19,fr:=[(0,.p (.lst .stat l)),(1,.i i),(6,.p (.bool false)),(7,.i (bB l (Int.toNat k)))],ck:=[],kn:=[6] }))) (.ret (.p (.bool false)) [])) ?_
   refine ⟨fun h=>⟨fun he=>?_,fun he=>?_⟩,fun h=>?_⟩
   · have hk:k≥0:=of_decide_eq_true h
     rw [gx,if_neg (by omega),if_pos he]; exact ⟨rfl,rfl⟩
   · have hk:k≥0:=of_decide_eq_true h
     have hp:=j8 l k.toNat
     have e:((k.toNat:Nat):Int)=k:=eo hk
     refine ⟨⟨hk,h2,hl⟩,?_⟩
     rw [gx,if_neg (by omega),if_neg (by rw [he]; decide)]
     exact ih (bB l k.toNat) hp.1 (by omega) (by omega)
   · have hk:¬k≥0:=of_decide_eq_false h
     rw [gx,if_pos (by omega)]; exact ⟨rfl,rfl⟩
theorem Ef (j:Int) (h:0≤j∧j<(l.length:Int)∧l.length≤maxLen):ah Tryz.prog 27 [.l .stat l,.i i,.i j] [] (.x (.b (dN l i j.toNat))) []:=by
 obtain ⟨k,rfl⟩:=aD h.1
 rw [ai]
 have key:ah Tryz.prog 27 [.l .stat l,.i i,.i (k:Int)] [] (.x (.b (dN l i k))) []:=by
  refine dg mU Tryz.func27 (.need ((0:Int)≤(k:Int)∧(k:Int)<(l.length:Int)∧l.length≤maxLen) (.stop zSa6 { n:=19,fr:=[(0,.p (.lst .stat l)),(1,.i i),(6,.p (.bool false)),(7,.i (bB l k))],ck:=[],kn:=[6] })) fun Γ=>?_
  have hp:=j8 l k
  exact ⟨h,Le l i k h.2.2 Γ (l.length+1) (bB l k) hp.1 (by omega) (by omega)⟩
 exact key
def my:Ent:=(27,fun
 | [.c (.pd (.lst .stat l)),.c (.pd (.int .i64 i)),.c (.pd (.int .i64 j))],[]=>some (some (0≤j∧j<(l.length:Int)∧l.length≤maxLen),.x (.c (.pd (.bool (dN l i j.toNat)))),[])
 | _,_=>none)
theorem nd:EntOk Tryz.prog my:=entOk fun vs ck=>by
 unfold my; dsimp only; split
 · rename_i l i j; exact entS fun hp=>Ef l i j hp
 · exact entN
theorem B6:bF l i (k+1)=if (bB l k==i&&decide ((ETy.get .stat l k).depth>0))=true then bF l i k++[(k:Int)] else bF l i k:=by
 unfold bF
 rw [List.range_succ,b3,bP]
 cases h:(bB l k==i&&decide ((ETy.get .stat l k).depth>0)) <;> simp [h]
theorem kG:(bF l i k).length≤k:=by
 unfold bF
 rw [aN]
 exact av (bn _ _) (by simp)
theorem wC {k:Nat} {y:Int} (h:y∈bF l i k):0≤y∧y<(k:Int):=by
 unfold bF at h
 obtain ⟨m,hm,rfl⟩:=aW.1 h
 have:=bq.1 (aB.1 hm).1
 omega
theorem JX (hl:l.length≤1466015503701) (Γ:Ctx):∀ (n k:Nat),l.length - k≤n→k≤l.length →
 J Tryz.prog 38 (aw Tryz.f38) Γ (Eq2 (.x (.c (.own 0))) [.own 3 .int (bF l i l.length)]) zSa1 ({ n:=31,fr:=[(0,.p (.lst .stat l)),(1,.i i),(4,.p (.v (Value.slice none 0 0))),(5,.x (.c (.own 0))),(6,.i ((k:Int)))],ck:=[.own 3 .int (bF l i k)] }):=by
 have hm:l.length≤maxLen:=av hl (by decide)
 intro n
 induction n with
 | zero=>?_
 | succ n ih=>?_
 all_goals
  intro k hn hk
  generalize hout:bF l i k=out
  refine jg mU Tryz.func38 (let x1:List (Nat×SV):=[(0,.p (.lst .stat l)),(1,.i i),(4,.p (.v (Value.slice none 0 0))),(5,.x (.c (.own 0))),(6,.i (IntKind.wrap .i64 ((k:Int)+1)))]; let x2:List PI:=zSa1; .ite (decide ((k:Int)<(l.length:Int))) (.need ((0:Int)≤(k:Int)∧(k:Int)<(l.length:Int)∧l.length≤maxLen) (.need ((bB l k==i)=true→(0:Int)≤(k:Int)∧(k:Int)<(l.length:Int)) (.ite (bB l k==i&&decide (Stat.depth (ETy.get .stat l k)>(0:Int))) (.need (room ((out++[(k:Int)]).length) 8) (.stop x2 { n:=31,fr:=x1,ck:=[.own 3 .int (out++[(k:Int)])] })) (.stop x2 { n:=31,fr:=x1,ck:=[.own 3 .int out] })))) (.ret (.x (.c (.own 0))) [.own 3 .int out])) ?_
  conv=>zeta
  have hs:=B6 l i k
  rw [hout] at hs
  refine ⟨fun hlt=>?_,fun hge=>?_⟩
  · have hk':k<l.length:=by have:=of_decide_eq_true hlt; omega
    refine ⟨⟨by omega,by omega,hm⟩,fun _=>⟨by omega,by omega⟩,fun h=>?_,fun h=>?_⟩
    · rw [if_pos h] at hs
      have hle:=kG l i (k+1)
      rw [hs] at hle
      refine ⟨⟨by omega,by unfold maxLen; omega⟩,?_⟩
      rw [aZ (aC hk' hm),← hs]
      first
      | (exfalso; omega)
      | exact ih (k+1) (by omega) (by omega)
    · rw [if_neg (by rw [h]; decide)] at hs
      rw [aZ (aC hk' hm),← hs]
      first
      | (exfalso; omega)
      | exact ih (k+1) (by omega) (by omega)
  · have hke:k=l.length:=by have:=of_decide_eq_false hge; omega
    subst hke
    rw [hout]; exact ⟨rfl,rfl⟩
theorem CW (hl:l.length≤1466015503701):ah Tryz.prog 38 [.l .stat l,.i i] [] (.x (.c (.own 0))) [.own 3 .int (bF l i l.length)]:=by
 refine dg mU Tryz.func38 (.stop zSa1 { n:=31,fr:=[(0,.p (.lst .stat l)),(1,.i i),(4,.p (.v (Value.slice none 0 0))),(5,.p (.v (Value.slice none 0 0))),(6,.i 0)],ck:=[] }) fun Γ=>?_
 refine J.nilOwn 5 3 .int rfl (by kernel_rfl) ?_
 exact JX l i hl Γ l.length 0 (by omega) (by omega)
def kO:Ent:=(38,fun
 | [.c (.pd (.lst .stat l)),.c (.pd (.int .i64 i))],[]=>some (some (l.length≤1466015503701),.x (.c (.own 0)),[.own 3 .int (bF l i l.length)])
 | _,_=>none)
theorem lu:EntOk Tryz.prog kO:=entOk fun vs ck=>by
 unfold kO; dsimp only; split
 · rename_i l i; exact entS fun hp=>CW l i hp
 · exact entN
def rZ:Cfg:=⟨aX,[lA,kO,iJ]⟩
theorem mv:ag Tryz.prog rZ.tab:=(ag.cons ky (ag.cons lu (ag.cons iA ag.nil)))
theorem KC (hk:k<9223372036854775807):(decide ((ETy.get .stat l k).kind<1)||decide ((ETy.get .stat l k).kind>6)||decide ((ETy.get .stat l k).depth<0)||decide ((ETy.get .stat l k).depth>5)||decide ((k:Int)>0)&&decide ((ETy.get .stat l k).depth>IntKind.wrap .i64 ((ETy.get .stat l (IntKind.wrap .i64 ((k:Int) - 1)).toNat).depth+1)))=gP l k:=by
 unfold gP
 congr 1
 by_cases h0:0<k
 · have e:(IntKind.wrap .i64 ((k:Int) - 1)).toNat=k - 1:=by rw [cv (by omega) (by omega)]; omega
   rw [e,decide_eq_true h0,decide_eq_true (show (k:Int)>0 by omega)]
 · rw [decide_eq_false h0,decide_eq_false (show ¬(k:Int)>0 by omega),aR,aR]
theorem KS {b:Bool} {i:Int} (h:(decide (i≥0)&&b)=true):0≤i:=by
 rw [af] at h; exact of_decide_eq_true h.1
abbrev zSa2:List PI:=[.code [1,1,1,1,0,1,0,0,1,0,0,1,1,1,1,1,0,1,0,0],.inLoop [1,1,1,1,0,1,0,0,1,0,0,1,1,1,1,1,0,1,0,0],.inBlock 4,.code [1,1,1,1,0,1,0,0,1,0,0,1,1,1,1,1,1],.inBlock 3,.code [1,1,1,1,0,1,0,0,1,1],.inLoop [1,1,1,1,0,1,0,0],.inBlock 2,.code [1,1,1,1,1]]
abbrev zSa3:List PI:=[.code [1,1,1,1,0,1,0,0],.inLoop [1,1,1,1,0,1,0,0],.inBlock 2,.code [1,1,1,1,1]]
theorem HP (ks:List Int) (hks:∀ y∈ks,0≤y∧y<(l.length:Int)) (hlen:ks.length≤maxLen) (Γ:Ctx) (res:Bool):∀ (n j:Nat) (b:Bool),ks.length - j≤n→j≤ks.length →
 ((b||(ks.drop j).any fun y=>!a8 (ETy.get .stat l y.toNat).kind)=true→zJ56Sa Γ (Eq2 (.x (.b res)) []) zSa3 ({ n:=158,fr:=[(0,.p (.lst .stat l)),(2,.p (.bool false)),(3,.i r),(6,.i ((IntKind.wrap .i64 ((k:Int)+1))))],ck:=[],kn:=[2] }))→((b||(ks.drop j).any fun y=>!a8 (ETy.get .stat l y.toNat).kind)=false→res=false) →
 zJ56Sa Γ (Eq2 (.x (.b res)) []) zSa2 ({ n:=158,fr:=[(0,.p (.lst .stat l)),(2,.p (.bool false)),(3,.i r),(6,.i k),(8,.p (.bool b)),(9,.x (.c (.own 0))),(10,.i ((j:Int)))],ck:=[.own 3 .int ks],kn:=[2] }):=by
 intro n
 induction n with
 | zero=>?_
 | succ n ih=>?_
 all_goals
  intro j b hn hj h1 h0
  refine jg mv Tryz.func56 (.ite (decide ((j:Int)<(ks.length:Int))) (.need (b=false→(0:Int)≤(j:Int)∧(j:Int)<(ks.length:Int)) (.need (b=false→j<ks.length) (.need (b=false→(0:Int)≤ETy.get .int ks j∧ETy.get .int ks j<(l.length:Int)) (.stop zSa2 { n:=158,fr:=[(0,.p (.lst .stat l)),(2,.p (.bool false)),(3,.i r),(6,.i k),(8,.p (.bool (b || !a8 (Stat.kind (ETy.get .stat l ((ETy.get .int ks j).toNat)))))),(9,.x (.c (.own 0))),(10,.i (IntKind.wrap .i64 ((j:Int)+1)))],ck:=[.own 3 .int ks],kn:=[2] })))) (.ite (!b) (.ret (.p (.bool false)) []) (.stop zSa3 { n:=158,fr:=[(0,.p (.lst .stat l)),(2,.p (.bool false)),(3,.i r),(6,.i (IntKind.wrap .i64 ((k:Int)+1)))],ck:=[],kn:=[2] }))) ?_
  refine ⟨fun hlt=>?_,fun hge=>?_⟩
  · have hj':j<ks.length:=by have:=of_decide_eq_true hlt; omega
    have hy:=hks (ETy.get .int ks j) (by rw [ETy.get_eq (t:=.int) (List.getElem?_eq_getElem hj')]; exact bf hj')
    refine ⟨fun _=>⟨by omega,by omega⟩,fun _=>hj',fun _=>hy,?_⟩
    rw [aZ (aC hj' hlen)]
    have ed:ks.drop j=ETy.get .int ks j::ks.drop (j+1):=bI (t:=.int) (l:=ks) hj'
    rw [ed,b7,← e8] at h1 h0
    first
    | (exfalso; omega)
    | exact ih (j+1) _ (by omega) (by omega) h1 h0
  · have hje:ks.drop j=[]:=bT (by have:=of_decide_eq_false hge; omega)
    rw [hje,List.any_nil,bD] at h1 h0
    refine ⟨fun hb=>?_,fun hb=>?_⟩
    · rw [h0 (by simpa using hb)]; exact ⟨rfl,rfl⟩
    · exact h1 (by simpa using hb)
theorem Ir (hl:l.length≤1466015503701) (Γ:Ctx):∀ n k:Nat,l.length - k=n→k≤l.length →
 zJ56Sa Γ (Eq2 (.x (.b (fI l n k&&decide (r≤4)))) []) zSa3 ({ n:=158,fr:=[(0,.p (.lst .stat l)),(2,.p (.bool false)),(3,.i r),(6,.i ((k:Int)))],ck:=[],kn:=[2] }):=by
 have hm:l.length≤maxLen:=av hl (by decide)
 intro n
 induction n with
 | zero=>?_
 | succ n ih=>?_
 all_goals
  intro k hn hk
  refine jg mv Tryz.func56 (let x1:=(ETy.get .stat l ((bB l k).toNat)); let x2:=(bB l k≥(0:Int)); let x3:List Nat:=[1,1,1,1,0,1,0,0,1,0,0,1,1,1,1,1,0,1,0,0]; let x4:=(decide x2&&Stat.kind x1 != (2:Int)); let x5:List Nat:=[1,1,1,1,0,1,0,0]; .ite (decide ((k:Int)<(l.length:Int))) (.need ((0:Int)≤(k:Int)∧(k:Int)<(l.length:Int)∧l.length≤maxLen) (.need (decide x2=true→(0:Int)≤bB l k∧bB l k<(l.length:Int)) (.need (x4=true→(0:Int)≤bB l k∧bB l k<(l.length:Int)) (.need (x4=true∧(Stat.kind x1 != (3:Int))=false→(0:Int)≤(k:Int)∧(k:Int)<(l.length:Int)) (.ite (decide x2&&Stat.kind x1 != (2:Int)&&(Stat.kind x1 != (3:Int)||decide (Stat.kind (ETy.get .stat l k)>(3:Int)))) (.ret (.p (.bool false)) []) (.need (inRg k l.length) (.need ((Stat.kind (ETy.get .stat l k) != (2:Int))=true→(0:Int)≤(k:Int)∧(k:Int)<(l.length:Int)) (.ite (Stat.kind (ETy.get .stat l k) != (2:Int)&&Stat.kind (ETy.get .stat l k) != (3:Int)) (.stop [.code x5,.inLoop x5,.inBlock 2,.code [1,1,1,1,1]] { n:=158,fr:=[(0,.p (.lst .stat l)),(2,.p (.bool false)),(3,.i r),(6,.i (IntKind.wrap .i64 ((k:Int)+1)))],ck:=[],kn:=[2] }) (.need (l.length≤1466015503701) (.stop [.code x3,.inLoop x3,.inBlock 4,.code [1,1,1,1,0,1,0,0,1,0,0,1,1,1,1,1,1],.inBlock 3,.code [1,1,1,1,0,1,0,0,1,1],.inLoop x5,.inBlock 2,.code [1,1,1,1,1]] { n:=158,fr:=[(0,.p (.lst .stat l)),(2,.p (.bool false)),(3,.i r),(6,.i k),(8,.p (.bool false)),(9,.x (.c (.own 0))),(10,.i 0)],ck:=[.own 3 .int (bF l (k:Int) l.length)],kn:=[8,2] })))))))))) (.ret (.p (.bool (decide (r≤(4:Int))))) [])) ?_
  conv=>zeta
  refine ⟨fun hlt=>?_,fun hge=>?_⟩
  · have hk':k<l.length:=by have:=of_decide_eq_true hlt; omega
    have hp:=j8 l k
    refine ⟨⟨by omega,by omega,hm⟩,fun h=>⟨of_decide_eq_true h,by omega⟩,fun h=>⟨KS h,by omega⟩,fun _=>⟨by omega,by omega⟩,fun hb=>?_,fun hb=>⟨⟨by omega,by omega⟩,fun _=>⟨by omega,by omega⟩,fun hs=>?_,fun hs=>⟨hl,?_⟩⟩⟩
    · have e:jw l k=false:=by unfold jw; rw [hb]; rfl
      first
      | (exfalso; omega)
      | (rw [fI,e]; exact ⟨rfl,rfl⟩)
    · have e:jw l k=true:=by unfold jw; rw [hb,hs]; rfl
      rw [aZ (aC hk' hm)]
      first
      | (exfalso; omega)
      | (rw [fI,e,aU]; exact ih (k+1) (by omega) (by omega))
    · have e:jw l k=(bF l (k:Int) l.length).any fun y=>!a8 (ETy.get .stat l y.toNat).kind:=by unfold jw; rw [hb,hs]; rfl
      refine J.kn [2] (HP l r k _ (fun y hy=>wC l k hy) (av (kG l k l.length) hm) Γ _ (bF l k l.length).length 0 false (by omega) (by omega) (fun h=>?_) (fun h=>?_))
      · rw [cK,a6,← e] at h
        rw [aZ (aC hk' hm)]
        first
        | (exfalso; omega)
        | (rw [fI,h,aU]; exact ih (k+1) (by omega) (by omega))
      · rw [cK,a6,← e] at h
        first
        | (exfalso; omega)
        | (rw [fI,h]; rfl)
  · have:=of_decide_eq_false hge
    first
    | (exfalso; omega)
    | exact ⟨rfl,rfl⟩
def wz:Option Int→Bool
 | none=>false
 | some q=>fI l l.length 0&&decide (q≤4)
abbrev zSa4:List PI:=[.code [1,1,1,0,1,0,0],.inLoop [1,1,1,0,1,0,0],.inBlock 0,.code [1,1,1,1]]
theorem HD (hl:l.length≤1466015503701) (Γ:Ctx):∀ (n k:Nat) (r:Int),l.length - k=n→k≤l.length →
 zJ56Sa Γ (Eq2 (.x (.b (wz l (eG l n k r)))) []) zSa4 ({ n:=158,fr:=[(0,.p (.lst .stat l)),(2,.p (.bool false)),(3,.i r),(4,.i ((k:Int)))],ck:=[],kn:=[2] }):=by
 have hm:l.length≤maxLen:=av hl (by decide)
 intro n
 induction n with
 | zero=>?_
 | succ n ih=>?_
 all_goals
  intro k r hn hk
  refine jg mv Tryz.func56 (let x1:=(Stat.depth (ETy.get .stat l k)==(0:Int)&&Stat.kind (ETy.get .stat l k) != (2:Int)); let x2:List PI:=zSa4; let x3:Tree:=(.ret (.p (.bool false)) []); let x4:=(Stat.depth (ETy.get .stat l k)<(0:Int)); let x5:=(Stat.depth (ETy.get .stat l k)>(5:Int)); let x6:=(Stat.kind (ETy.get .stat l k)<(1:Int)); let x7:=(Stat.kind (ETy.get .stat l k)>(6:Int)); let x8:=(IntKind.wrap .i64 ((k:Int)+1)); .ite (decide ((k:Int)<(l.length:Int))) (.need (inRg k l.length) (.need ((((21,57,true,cE true (decide ((k:Int)>0)) (some (18,54,false,cE false (decide x6||decide x7||decide x4||decide x5) none))).2).2).2→(0:Int)≤IntKind.wrap .i64 ((k:Int) - 1)∧IntKind.wrap .i64 ((k:Int) - 1)<(l.length:Int)) (.ite (decide x6||decide x7||decide x4||decide x5||decide ((k:Int)>0)&&decide (Stat.depth (ETy.get .stat l k)>IntKind.wrap .i64 (Stat.depth (ETy.get .stat l ((IntKind.wrap .i64 ((k:Int) - 1)).toNat))+(1:Int)))) x3 (.ite (Stat.depth (ETy.get .stat l k)==(0:Int)) (.ite x1 x3 (.stop x2 { n:=158,fr:=[(0,.p (.lst .stat l)),(2,.p (.bool false)),(3,.i (IntKind.wrap .i64 (r+(1:Int)))),(4,.i x8)],ck:=[] })) (.ite x1 x3 (.stop x2 { n:=158,fr:=[(0,.p (.lst .stat l)),(2,.p (.bool false)),(3,.i r),(4,.i x8)],ck:=[] })))))) (.stop zSa3 { n:=158,fr:=[(0,.p (.lst .stat l)),(2,.p (.bool false)),(3,.i r),(6,.i 0)],ck:=[],kn:=[2] })) ?_
  conv=>zeta
  refine ⟨fun hlt=>?_,fun hge=>?_⟩
  · have hk':k<l.length:=by have:=of_decide_eq_true hlt; omega
    have hmx:=aC hk' hm
    have hbe:=KC l k hmx
    rw [aZ hmx]
    refine ⟨⟨by omega,by omega⟩,fun h=>?_,fun hb=>?_,fun hb=>⟨fun h0=>⟨fun h2=>?_,fun h2=>?_⟩,fun h0=>⟨fun h2=>?_,fun h2=>?_⟩⟩⟩
    · have h1:decide ((k:Int)>0)=true:=h.2
      have:=of_decide_eq_true h1
      rw [cv (by omega) (by omega)]; omega
    · have hb':gP l k=true:=by rw [← hbe]; exact hb
      first
      | (exfalso; omega)
      | (rw [eG,if_pos hb']; exact ⟨rfl,rfl⟩)
    · have hb':gP l k=false:=by rw [← hbe]; exact hb
      rw [h0,aU] at h2
      first
      | (exfalso; omega)
      | (rw [eG,if_neg (by rw [hb']; decide),if_pos h0,if_pos h2]; exact ⟨rfl,rfl⟩)
    · have hb':gP l k=false:=by rw [← hbe]; exact hb
      rw [h0,aU] at h2
      first
      | (exfalso; omega)
      | (rw [eG,if_neg (by rw [hb']; decide),if_pos h0,if_neg (by rw [h2]; decide)]; exact J.kn [2] (ih (k+1) _ (by omega) (by omega)))
    · rw [h0,aR] at h2; cases h2
    · have hb':gP l k=false:=by rw [← hbe]; exact hb
      first
      | (exfalso; omega)
      | (rw [eG,if_neg (by rw [hb']; decide),if_neg (by rw [h0]; decide)]; exact J.kn [2] (ih (k+1) _ (by omega) (by omega)))
  · have:=of_decide_eq_false hge
    first
    | (exfalso; omega)
    | exact Ir l r hl Γ l.length 0 (by omega) (aT _)
theorem yX (hl:l.length≤1466015503701):ah Tryz.prog 56 [.l .stat l] [] (.x (.b (fD l))) []:=by
 have eh:(decide ((l.length:Int)<1)||decide ((l.length:Int)>40)||(ETy.get .stat l 0).depth != 0)=(decide (l.length<1)||decide (l.length>40)||(ETy.get .stat l 0).depth != 0):=by
  rw [decide_eq_decide.2 (show (l.length:Int)<1↔l.length<1 by omega),decide_eq_decide.2 (show (l.length:Int)>40↔l.length>40 by omega)]
 refine dg mv Tryz.func56 (.need ((decide ((l.length:Int)<1)||decide ((l.length:Int)>40))=false→(0:Int)≤0∧(0:Int)<(l.length:Int)) (.ite (decide ((l.length:Int)<1)||decide ((l.length:Int)>40)||Stat.depth (ETy.get .stat l 0) != (0:Int)) (.ret (.p (.bool false)) []) (.stop zSa4 { n:=158,fr:=[(0,.p (.lst .stat l)),(2,.p (.bool false)),(3,.i 0),(4,.i 0)],ck:=[],kn:=[2] }))) fun Γ=>?_
 refine ⟨fun h=>⟨by omega,?_⟩,fun h=>?_,fun h=>?_⟩
 · rw [ay] at h
   have:=of_decide_eq_false h.1
   omega
 · have h':=eh.symm.trans h
   unfold fD gJ; rw [h']; exact ⟨rfl,rfl⟩
 · have h':=eh.symm.trans h
   have e:fD l=wz l (eG l l.length 0 0):=by
    unfold fD gJ; rw [h',cA,aU]
    cases eG l l.length 0 0 with
    | none=>rfl
    | some q=>unfold CV wz; simp only; rw [Bool.and_comm]
   rw [e]
   exact HD l hl Γ l.length 0 0 (by omega) (aT _)
def CX:Ent:=(56,fun
 | [.c (.pd (.lst .stat l))],[]=>some (some (l.length≤1466015503701),.x (.c (.pd (.bool (fD l)))),[])
 | _,_=>none)
theorem Ll:EntOk Tryz.prog CX:=entOk fun vs ck=>by
 unfold CX; dsimp only; split
 · rename_i l; exact entS fun hp=>yX l hp
 · exact entN
def Bw:Cfg:=⟨aX,[lA,my]⟩
theorem vV:ag Tryz.prog Bw.tab:=(ag.cons ky (ag.cons nd ag.nil))
abbrev zSa5:List PI:=[.code [1,1,0,0,0],.inLoop [1,1,0,0,0],.inBlock 0,.code [1,1,1]]
theorem Ln (hj:j<l.length) (hl:l.length≤maxLen) (Γ:Ctx):∀ (n:Nat) (k:Int), -1≤k→k<(l.length:Int)→k+1<(n:Int) →
 J Tryz.prog 117 (aw Tryz.f117) Γ (Eq2 (.x (.i (jN l j n k))) []) zSa5 ({ n:=30,fr:=[(0,.p (.lst .stat l)),(2,.i j),(6,.i 0),(7,.i k)],ck:=[] }):=by
 intro n
 induction n with
 | zero=>intro k h1 h2 h3; omega
 | succ n ih =>
   intro k h1 h2 h3
   refine jg vV Tryz.func117 (.need (decide (k≥(0:Int))=true→(0:Int)≤k∧k<(l.length:Int)) (.need (decide (k≥(0:Int))=true∧(Stat.kind (ETy.get .stat l (Int.toNat k))==(2:Int))=true→(0:Int)≤(j:Int)∧(j:Int)<(l.length:Int)∧l.length≤maxLen) (.ite (decide (k≥(0:Int)) && !(Stat.kind (ETy.get .stat l (Int.toNat k))==(2:Int)&&dN l k j)) (.need ((0:Int)≤k∧k<(l.length:Int)∧l.length≤maxLen) (.stop zSa5 { n:=30,fr:=[(0,.p (.lst .stat l)),(2,.i j),(6,.i 0),(7,.i (bB l (Int.toNat k)))],ck:=[] })) (.ret (.i k) [])))) ?_
   refine ⟨fun h=>⟨of_decide_eq_true h,h2⟩,fun h=>⟨by omega,by omega,hl⟩,fun h=>?_,fun h=>?_⟩
   · rw [af] at h
     have hk:k≥0:=of_decide_eq_true h.1
     have hp:=j8 l k.toNat
     have e:((k.toNat:Nat):Int)=k:=eo hk
     refine ⟨⟨hk,h2,hl⟩,?_⟩
     have hc:((ETy.get .stat l k.toNat).kind==2&&dN l k j)=false:=by
      have h4:=h.2
      cases hx:((ETy.get .stat l k.toNat).kind==2&&dN l k j)
      · rfl
      · rw [hx] at h4; cases h4
     rw [jN,if_neg (by omega),if_neg (by rw [hc]; decide)]
     exact ih (bB l k.toNat) hp.1 (by omega) (by omega)
   · by_cases hk:k<0
     · rw [jN,if_pos hk]; exact ⟨rfl,rfl⟩
     · rw [decide_eq_true (show k≥0 by omega),aU] at h
       have hc:((ETy.get .stat l k.toNat).kind==2&&dN l k j)=true:=by simpa using h
       rw [jN,if_neg hk,if_pos hc]; exact ⟨rfl,rfl⟩
theorem H5 (i j:Nat) (hi:i<l.length) (hj:j<l.length) (hl:l.length≤maxLen):ah Tryz.prog 117 [.l .stat l,.i (i:Int),.i (j:Int)] [] (.x (.i (k6 l i j))) []:=by
 refine dg vV Tryz.func117 (.stop zSa5 { n:=30,fr:=[(0,.p (.lst .stat l)),(2,.i j),(6,.i 0),(7,.i i)],ck:=[] }) fun Γ=>?_
 exact Ln l j hj hl Γ (l.length+1) (i:Int) (by omega) (by omega) (by omega)
theorem Ex (j:Int) (h:0≤i∧i<(l.length:Int)∧0≤j∧j<(l.length:Int)∧l.length≤maxLen):ah Tryz.prog 117 [.l .stat l,.i i,.i j] [] (.x (.i (k6 l i.toNat j.toNat))) []:=by
 obtain ⟨a,rfl⟩:=aD h.1
 obtain ⟨b,rfl⟩:=aD h.2.2.1
 rw [ai,ai]
 exact H5 l a b (by omega) (by omega) h.2.2.2.2
def vm:Ent:=(117,fun
 | [.c (.pd (.lst .stat l)),.c (.pd (.int .i64 i)),.c (.pd (.int .i64 j))],[]=>some (some (0≤i∧i<(l.length:Int)∧0≤j∧j<(l.length:Int)∧l.length≤maxLen),.x (.c (.pd (.int .i64 (k6 l i.toNat j.toNat)))),[])
 | _,_=>none)
theorem HH:EntOk Tryz.prog vm:=entOk fun vs ck=>by
 unfold vm; dsimp only; split
 · rename_i l i j; exact entS fun hp=>Ex l i j hp
 · exact entN
end Go.Proofs.YtcopfgbbjdefbaaGreatDoor
