/- Contracts: cells, right lists, by the program and the document; lists of cells as trees. Conditions: none. The library's contracts of strconv.FormatInt at base 10, laid at this dump by the kit's tools. Conditions: its table. Contracts: numbers told. Conditions: int64; the library's table. Contracts: names, events' names. Conditions: none. Contracts: actions that may be. Conditions: none. Contracts: lists of cells alike; two rules of the executor. Conditions: none. Contracts: the document's blocks that may be, blocks alike. Conditions: sizes. -/
import Derived.Test.YtpfidgnkokidoaaGreatDoorNa
import Derived.Shelf.LaysM
import Derived.Shelf.Strconv.Itoa4
import Derived.Test.YtpfidgnkokidoaaGreatDoorProg
import Derived.Test.YtpfidgnkokidoaaGreatDoorDa
import Derived.Lib.AppendIntMem
import Derived.Test.YtpfidgnkokidoaaGreatDoorVb
namespace Go.Proofs.YtpfidgnkokidoaaGreatDoor
open Go Go.Ev
set_option maxRecDepth 100000
def Dz:Cfg:=⟨bx,[hO]⟩
theorem Fu:ai Tryz.prog Dz.tab:=(ai.cons fK ai.nil)
theorem Fy (op a:Int) (s:Str):ak Tryz.prog 105 [.agg [.i op,.i a,.pd (.str s)]] [] (.x (.i (fL op a s))) []:=by
 refine dg Fu Tryz.func105 (let x1:Tree:=(.ret (.i (-1:Int)) []); let x2:Tree:=(.ite (a != (0:Int) || !aP s) x1 (.ret (.i 0) [])); .ite (op==(1:Int)) (.ite (decide (a<(0:Int))||decide (a>(1099511627776:Int)) || !s==[]) x1 (.ret (.i 0) [])) (.ite (op==(2:Int)) (.ite (decide (a<(0:Int))||decide (a>(1048576:Int)) || !s==[]) x1 (.ret (.i 0) [])) (.ite (op==(5:Int)) x2 (.ite (op==(6:Int)) x2 (.ite (decide (op<(3:Int))||decide (op>(23:Int))||a != (0:Int) || !s==[]) x1 (.ite (decide (op≤(4:Int))) (.ret (.i 0) []) (.ite (decide (op≤(10:Int))) (.ret (.i 1) []) (.ret (.i 2) [])))))))) fun Γ=>?_
 conv=>zeta
 (repeat' (first | intro h | constructor)) <;> simp only [fL, *,cond_true,cond_false]
def oN:Ent:=(105,fun
 | [.agg [.pd (.int .i64 op),.pd (.int .i64 a),.pd (.str s)]],[]=>some (none,.x (.c (.pd (.int .i64 (fL op a s)))),[])
 | _,_=>none)
theorem rz:EntOk Tryz.prog oN:=entOk fun vs ck=>by
 unfold oN; dsimp only; split
 · rename_i op a s; exact entS fun hp=>Fy op a s
 · exact entN
def tF:Cfg:=⟨bx,[oN]⟩
theorem su:ai Tryz.prog tF.tab:=(ai.cons rz ai.nil)
abbrev zNr1:List PI:=[.code [1,1,1,0,1,0,0],.inLoop [1,1,1,0,1,0,0],.inBlock 0,.code [1,1,1,1]]
variable (c:Cell) (l:List Cell)
theorem EF (Γ:Ctx) (hl:l.length≤32):∀ (n k:Nat) (m:Int),l.length - k≤n→k≤l.length→0≤m→m≤k →
 J Tryz.prog 103 (aI Tryz.f103) Γ (Eq2 (.x (.b (eQ (l.drop k) m))) []) zNr1 ({ n:=32,fr:=[(2,.p (.bool false)),(3,.i m),(10,.p (.lst .cell l)),(11,.i l.length),(12,.i k)],ck:=[],kn:=[2] }):=by
 intro n
 induction n with
 | zero=>?_
 | succ n ih=>?_
 all_goals
  intro k m hn hk h0 hm
  refine jg su Tryz.func103 (let x1:=(Cell.name (ETy.get .cell l k)); let x2:=(Cell.op (ETy.get .cell l k)); let x3:=(Cell.a (ETy.get .cell l k)); .ite (decide ((k:Int)<(l.length:Int))) (.need (inRg k l.length) (.ite (decide (fL x2 x3 x1<(0:Int))||decide (fL x2 x3 x1>m)) (.ret (.p (.bool false)) []) (.stop zNr1 { n:=32,fr:=[(2,.p (.bool false)),(3,.i (IntKind.wrap .i64 (m+IntKind.wrap .i64 ((1:Int) - fL x2 x3 x1)))),(10,.p (.lst .cell l)),(11,.i l.length),(12,.i (IntKind.wrap .i64 ((k:Int)+1)))],ck:=[],kn:=[2] }))) (.ret (.p (.bool (m==(1:Int)))) [])) ?_
  conv=>zeta
  refine ⟨fun hlt=>⟨?_,?_⟩,fun hge=>⟨?_,rfl⟩⟩
  · have:=of_decide_eq_true hlt; omega
  · have hk':k<l.length:=by have:=of_decide_eq_true hlt; omega
    rw [bZ (t:=.cell) hk']
    generalize ETy.get .cell l k=c
    refine ⟨fun hb=>⟨?_,rfl⟩,fun hb=>?_⟩
    · have hb':(decide (bA c<0)||decide (bA c>m))=true:=hb
      simp only [eQ,hb',cond_true]
    · have hb':(decide (bA c<0)||decide (bA c>m))=false:=hb
      have hw:0≤bA c∧bA c≤m:=by
       simp only [aJ,decide_eq_false_iff_not] at hb'
       omega
      simp only [eQ,hb',cond_false]
      show J Tryz.prog 103 (aI Tryz.f103) Γ _ zNr1 ({ n:=32,fr:=[(2,.p (.bool false)),(3,.i (IntKind.wrap .i64 (m+IntKind.wrap .i64 (1 - bA c)))),(10,.p (.lst .cell l)),(11,.i l.length),(12,.i (IntKind.wrap .i64 ((k:Int)+1)))],ck:=[],kn:=[2] })
      rw [cG (n:=1 - bA c) (by omega) (by omega),cG (by omega) (by omega),ee (by omega)]
      first
      | (exfalso; omega)
      | exact ih (k+1) (m+(1 - bA c)) (by omega) (by omega) (by omega) (by omega)
  · rw [cb (by have:=of_decide_eq_false hge; omega)]; rfl
theorem D9:ak Tryz.prog 103 [.l .cell l] [] (.x (.b (cS l))) []:=by
 refine dg su Tryz.func103 (.ite (decide ((l.length:Int)>32)) (.ret (.p (.bool false)) []) (.stop zNr1 { n:=32,fr:=[(2,.p (.bool false)),(3,.i 0),(10,.p (.lst .cell l)),(11,.i l.length),(12,.i 0)],ck:=[],kn:=[2] })) fun Γ=>?_
 refine ⟨fun h=>⟨by simp only [cS,h]; rfl,rfl⟩,fun h=>?_⟩
 have hl:l.length≤32:=by have:=of_decide_eq_false h; omega
 simp only [cS,h]
 exact EF l Γ hl l.length 0 0 (by omega) (by omega) (by omega) (by omega)
def ob:Ent:=(103,fun
 | [.c (.pd (.lst .cell l))],[]=>some (none,.x (.c (.pd (.bool (cS l)))),[])
 | _,_=>none)
theorem qh:EntOk Tryz.prog ob:=entOk fun vs ck=>by
 unfold ob; dsimp only; split
 · rename_i l; exact entS fun hp=>D9 l
 · exact entN
theorem By (h:bA c≥0):(bA c=0∧c.op<7)∨(bA c=1∧7≤c.op∧c.op<11)∨(bA c=2∧11≤c.op):=by
 revert h
 unfold bA fL
 simp only [cond_eq_ite,beq_iff_eq,aH,decide_eq_true_eq,bne_iff_ne]
 intro h
 (repeat' split at h) <;> (repeat' split) <;> omega
theorem Cb (h:bA c≥0):(c.op<7∧bA c=0)∨(7≤c.op∧c.op<11∧bA c=1)∨(11≤c.op∧bA c=2):=by
 rcases By c h with ⟨h1,h2⟩ | ⟨h1,h2,h3⟩ | ⟨h1,h2⟩
 · exact .inl ⟨h2,h1⟩
 · exact .inr (.inl ⟨h2,h3,h1⟩)
 · exact .inr (.inr ⟨h2,h1⟩)
inductive Tm where
 | leaf (c:Cell)
 | un (c:Cell) (t:Tm)
 | bin (c:Cell) (t u:Tm)
def Tm.flat:Tm→List Cell
 | .leaf c=>[c]
 | .un c t=>t.flat++[c]
 | .bin c t u=>t.flat++u.flat++[c]
def Tm.ok:Tm→Prop
 | .leaf c=>bA c=0
 | .un c t=>bA c=1∧t.ok
 | .bin c t u=>bA c=2∧t.ok∧u.ok
def pG:List Tm→List Cell
 | []=>[]
 | t::r=>pG r++t.flat
theorem lb:∀ (rest:List Cell) (ts:List Tm),(∀ t∈ts,t.ok)→eQ rest ts.length=true→∃ t:Tm,t.ok∧t.flat=pG ts++rest
 | [],ts,hok,h=>by
   simp only [eQ] at h
   have h1:ts.length=1:=by have h2:(ts.length:Int)=1:=(by simpa using h); omega
   obtain ⟨t,rfl⟩:=List.length_eq_one_iff.1 h1
   exact ⟨t,hok t (by simp),by simp [pG]⟩
 | c :: rest,ts,hok,h=>by
   simp only [eQ] at h
   cases hb:(decide (bA c<0)||decide (bA c>(ts.length:Int)))
   · rw [hb,cond_false] at h
     simp only [aJ] at hb
     have h1:=of_decide_eq_false hb.1
     have h2:=of_decide_eq_false hb.2
     rcases Cb c (by omega) with ⟨_,hw⟩ | ⟨_,_,hw⟩ | ⟨_,hw⟩
     · obtain ⟨t,q1,q2⟩:=lb rest (.leaf c::ts) (by intro t ht; rcases aO.1 ht with rfl | ht; exact hw; exact hok t ht) (by rw [← h]; congr 1; simp only [ah]; omega)
       exact ⟨t,q1,by rw [q2]; simp [pG,Tm.flat]⟩
     · cases ts with
       | nil=>simp at h2; omega
       | cons a ts =>
         obtain ⟨t,q1,q2⟩:=lb rest (.un c a::ts) (by intro t ht; rcases aO.1 ht with rfl | ht; exact ⟨hw,hok a (by simp)⟩; exact hok t (by simp [ht])) (by rw [← h]; congr 1; simp only [ah]; omega)
         exact ⟨t,q1,by rw [q2]; simp [pG,Tm.flat]⟩
     · cases ts with
       | nil=>simp at h2; omega
       | cons a ts=>cases ts with
         | nil=>simp at h2; omega
         | cons b ts =>
           obtain ⟨t,q1,q2⟩:=lb rest (.bin c b a::ts) (by intro t ht; rcases aO.1 ht with rfl | ht; exact ⟨hw,hok b (by simp),hok a (by simp)⟩; exact hok t (by simp [ht])) (by rw [← h]; congr 1; simp only [ah]; omega)
           exact ⟨t,q1,by rw [q2]; simp [pG,Tm.flat]⟩
   · rw [hb] at h; simp at h
theorem mL {l:List Cell} (h:cS l=true):l.length≤32∧∃ t:Tm,t.ok∧t.flat=l:=by
 simp only [cS,ab,aD,decide_eq_false_iff_not] at h
 obtain ⟨t,h1,h2⟩:=lb l [] (by simp) (by simpa using h.2)
 exact ⟨by omega,t,h1,by simpa [pG] using h2⟩
theorem kD (rest:List Cell):∀ (t:Tm),t.ok→∀ n:Int,0≤n→eQ (t.flat++rest) n=eQ rest (n+1)
 | .leaf c,h,n,hn=>by
   simp only [Tm.ok] at h
   simp [Tm.flat,eQ,h,show ¬(n<0) from by omega]
 | .un c t,h,n,hn=>by
   obtain ⟨hw,ht⟩:=h
   rw [Tm.flat,aY,kD _ t ht n hn]
   simp [eQ,hw,show ¬(n+1<1) from by omega]
 | .bin c t u,h,n,hn=>by
   obtain ⟨hw,ht,hu⟩:=h
   rw [Tm.flat,aY,aY,kD _ t ht n hn,kD _ u hu _ (by omega)]
   have:¬(n+1+1<2):=by omega
   simp only [bE,bP,eQ,hw,show decide ((2:Int)<0)=false from rfl,dT,show decide ((2:Int)>n+1+1)=false from by simpa using this,cond_false]
   congr 1; omega
theorem JI {t:Tm} (h:t.ok) (hl:t.flat.length≤32):cS t.flat=true:=by
 have:=kD [] t h 0 (by omega)
 rw [bu] at this
 simp only [cS,this,eQ,ab,aD,decide_eq_false_iff_not]
 exact ⟨by omega,rfl⟩
theorem Jh:bA c≤2:=by
 unfold bA fL
 simp only [cond_eq_ite]
 repeat' split
 all_goals omega
end Go.Proofs.YtpfidgnkokidoaaGreatDoor
namespace Go.Proofs
open Go.Shelf
def Tryz.laysM173_ren:Go.Shelf.Ren:=⟨fun | 173=>97 | 246=>132 | 283=>172 | 284=>173 | 285=>174 | 286=>175 | 129=>198 | 317=>197 | 318=>199 | 319=>200 | 320=>201 | 337=>213 | 338=>214 | n=>n,fun | 2=>2 | 3=>3 | 9=>9 | 4=>4 | 171=>213 | 0=>0 | 53=>182 | 37=>71 | 5=>5 | 173=>216 | 212=>240 | 51=>179 | 20=>20 | 213=>241 | 46=>145 | 232=>253 | 233=>254 | n=>n,fun | 17=>3 | 18=>6 | 19=>7 | n=>n⟩
theorem Tryz.laysM173:Go.Proofs.LaysM.n173 Tryz.prog Tryz.laysM173_ren:={
 mixed:=by kernel_rfl
 f129:=Tryz.func198.trans (congrArg some (by kernel_rfl))
 f173:=Tryz.func97.trans (congrArg some (by kernel_rfl))
 f246:=Tryz.func132.trans (congrArg some (by kernel_rfl))
 f283:=Tryz.func172.trans (congrArg some (by kernel_rfl))
 f284:=Tryz.func173.trans (congrArg some (by kernel_rfl))
 f285:=Tryz.func174.trans (congrArg some (by kernel_rfl))
 f286:=Tryz.func175.trans (congrArg some (by kernel_rfl))
 f317:=Tryz.func197.trans (congrArg some (by kernel_rfl))
 f318:=Tryz.func199.trans (congrArg some (by kernel_rfl))
 f319:=Tryz.func200.trans (congrArg some (by kernel_rfl))
 f320:=Tryz.func201.trans (congrArg some (by kernel_rfl))
 f337:=Tryz.func213.trans (congrArg some (by kernel_rfl))
 f338:=Tryz.func214.trans (congrArg some (by kernel_rfl))
 t0:=Tryz.underlying0
 a0:=Tryz.isAgg0
 z0:=Tryz.sizeOf0
 v0:=Tryz.zeroValue0
 t2:=Tryz.underlying2
 a2:=Tryz.isAgg2
 z2:=Tryz.sizeOf2
 v2:=Tryz.zeroValue2
 t3:=Tryz.underlying3
 a3:=Tryz.isAgg3
 z3:=Tryz.sizeOf3
 v3:=Tryz.zeroValue3
 t4:=Tryz.underlying4
 a4:=Tryz.isAgg4
 z4:=Tryz.sizeOf4
 v4:=Tryz.zeroValue4
 t5:=Tryz.underlying5
 a5:=Tryz.isAgg5
 z5:=Tryz.sizeOf5
 v5:=Tryz.zeroValue5
 t9:=Tryz.underlying9
 a9:=Tryz.isAgg9
 z9:=Tryz.sizeOf9
 v9:=Tryz.zeroValue9
 t20:=Tryz.underlying20
 a20:=Tryz.isAgg20
 z20:=Tryz.sizeOf20
 v20:=Tryz.zeroValue20
 t37:=Tryz.underlying71
 a37:=Tryz.isAgg71
 z37:=Tryz.sizeOf71
 v37:=Tryz.zeroValue71
 t46:=Tryz.underlying145
 a46:=Tryz.isAgg145
 z46:=Tryz.sizeOf145
 v46:=Tryz.zeroValue145
 t51:=Tryz.underlying179
 a51:=Tryz.isAgg179
 z51:=Tryz.sizeOf179
 v51:=Tryz.zeroValue179
 t53:=Tryz.underlying182
 a53:=Tryz.isAgg182
 z53:=Tryz.sizeOf182
 v53:=Tryz.zeroValue182
 t171:=Tryz.underlying213
 a171:=Tryz.isAgg213
 z171:=Tryz.sizeOf213
 v171:=Tryz.zeroValue213
 t173:=Tryz.underlying216
 a173:=Tryz.isAgg216
 z173:=Tryz.sizeOf216
 v173:=Tryz.zeroValue216
 t212:=Tryz.underlying240
 a212:=Tryz.isAgg240
 z212:=Tryz.sizeOf240
 v212:=Tryz.zeroValue240
 t213:=Tryz.underlying241
 a213:=Tryz.isAgg241
 z213:=Tryz.sizeOf241
 t232:=Tryz.underlying253
 a232:=Tryz.isAgg253
 z232:=Tryz.sizeOf253
 v232:=Tryz.zeroValue253
 t233:=Tryz.underlying254
 a233:=Tryz.isAgg254
 z233:=Tryz.sizeOf254
 v233:=Tryz.zeroValue254
 g17:=by kernel_rfl
 g18:=by kernel_rfl
 g19:=by kernel_rfl
 i0:=by kernel_rfl
 i2:=by kernel_rfl
 i3:=by kernel_rfl
 i4:=by kernel_rfl
 i5:=by kernel_rfl
 i9:=by kernel_rfl
 i20:=by kernel_rfl
 i37:=by kernel_rfl
 i46:=by kernel_rfl
 i51:=by kernel_rfl
 i53:=by kernel_rfl
 i171:=by kernel_rfl
 i173:=by kernel_rfl
 i212:=by kernel_rfl
 i232:=by kernel_rfl
 i233:=by kernel_rfl
 m17:=by kernel_rfl
 m18:=by kernel_rfl
 m19:=by kernel_rfl }
open Go.RowKit Go.Sort Go.Lib in
theorem Tryz.strconv_FormatInt_10 (n:Int) (h0 : -9223372036854775808≤n) (h1:n≤9223372036854775807) (w:World) (htab:Lib.TabIs Tryz.prog w "internal/strconv.uint64pow10" .u64 Lib.pow10Tab) :
 Calls Tryz.prog 97 #[.int .i64 n,.int .i64 10] w fun e w'=>e = .returned (.string ⟨(Lib.itoa n).toArray⟩)∧∃ k os,w'=grow (w.drewN k) os:=Any.strconv_FormatInt_10 Tryz.laysM173 n h0 h1 w htab
end Go.Proofs
namespace Go.Proofs.YtpfidgnkokidoaaGreatDoor
open Go Go.Ev Go.RowKit
set_option maxRecDepth 100000
theorem jW {w w':World} (h:Below w.heap.size w w'):Fr (fun _=>False) w w':=⟨h.os,h.tape,h.output,h.size,fun k hk _=>h.block k hk⟩
theorem wz (n:Int) (h0 : -9223372036854775808≤n) (h1:n≤9223372036854775807):ak Tryz.prog 97 [.i n,.i 10] [] (.x (.s (Lib.itoa n))) []:=by
 intro w V vs hw hT hv
 cases hv with
 | cons a1 hv=>cases hv with
   | cons a2 hv =>
     cases hv
     have a1':PR V.H (.int .i64 n) _:=a1
     have a2':PR V.H (.int .i64 10) _:=a2
     cases a1'
     cases a2'
     have ht:Lib.TabIs Tryz.prog w "internal/strconv.uint64pow10" .u64 Lib.pow10Tab:=(hT.1 (by kernel_rfl)).world hw.imm
     refine (Tryz.strconv_FormatInt_10 n h0 h1 w ht).mono fun e w' ⟨he,k,os,hw'⟩=>?_
     subst he; subst hw'
     exact ⟨_,V,rfl,.str (Lib.itoa n),hw.kept (jW (Lib.below_grow w.heap.size w (av _) k os))⟩
def eFi:Ent:=(97,fun
 | [.c (.pd (.int .i64 n)),.c (.pd (.int .i64 10))],[]=>some (some (-9223372036854775808≤n∧n≤9223372036854775807),.x (.c (.pd (.str (Lib.itoa n)))),[])
 | _,_=>none)
theorem HV:EntOk Tryz.prog eFi:=entOk fun vs ck=>by
 unfold eFi; dsimp only; split
 · rename_i n; exact entS fun hp=>wz n hp.1 hp.2
 · exact entN
def LQ:Cfg:=⟨bx,[eFi]⟩
theorem KI:ai Tryz.prog LQ.tab:=(ai.cons HV ai.nil)
theorem CK (n:Int) (h0 : -9223372036854775808≤n) (h1:n≤9223372036854775807):ak Tryz.prog 55 [.i n] [] (.x (.s (Lib.itoa n))) []:=by
 refine dg KI Tryz.func55 (.need ((-9223372036854775808:Int)≤n∧n≤(9223372036854775807:Int)) (.ret (.p (.str (Lib.itoa n))) [])) fun Γ=>?_
 exact ⟨⟨h0,h1⟩,rfl,rfl⟩
def eDg:Ent:=(55,fun
 | [.c (.pd (.int .i64 n))],[]=>some (some (-9223372036854775808≤n∧n≤9223372036854775807),.x (.c (.pd (.str (Lib.itoa n)))),[])
 | _,_=>none)
theorem G0:EntOk Tryz.prog eDg:=entOk fun vs ck=>by
 unfold eDg; dsimp only; split
 · rename_i n; exact entS fun hp=>CK n hp.1 hp.2
 · exact entN
end Go.Proofs.YtpfidgnkokidoaaGreatDoor
namespace Go.Proofs.YtpfidgnkokidoaaGreatDoor
open Go Go.Ev
set_option maxRecDepth 100000
def HO:Cfg:=⟨bx,[rH,hO]⟩
theorem HH:ai Tryz.prog HO.tab:=(ai.cons oh (ai.cons fK ai.nil))
theorem Er (s:Str):ak Tryz.prog 85 [.s s] [] (.x (.b (cA s))) []:=by
 refine dg HH Tryz.func85 (.ret (.p (.bool (aP (bC s [(100:UInt8),111,110,101,46])))) []) fun Γ=>?_
 exact ⟨rfl,rfl⟩
def jO:Ent:=(85,fun
 | [.c (.pd (.str s))],[]=>some (none,.x (.c (.pd (.bool (cA s)))),[])
 | _,_=>none)
theorem jr:EntOk Tryz.prog jO:=entOk fun vs ck=>by
 unfold jO; dsimp only; split
 · rename_i s; exact entS fun hp=>Er s
 · exact entN
theorem K4 (s:Str):bC ([100,111,110,101,46]++s) [100,111,110,101,46]=s:=by
 have h:bo ([100,111,110,101,46]++s) [100,111,110,101,46]=true:=by
  simp [bo,af]; omega
 rw [bC,h]; rfl
theorem kC {s p:Str} (h:bo s p=true):∃ r,s=p++r:=by
 simp only [bo,ab,beq_iff_eq,decide_eq_true_eq] at h
 refine ⟨s.drop (af p).toNat,?_⟩
 have:=dG (af p).toNat s
 rw [h.2] at this; exact this.symm
end Go.Proofs.YtpfidgnkokidoaaGreatDoor
namespace Go.Proofs.YtpfidgnkokidoaaGreatDoor
open Go Go.Ev
set_option maxRecDepth 100000
theorem sR {α:Type} (p:α→Bool):∀ (l:List α) (i:Int),0≤i→(iD p l i≥0↔l.any p=true)
 | [],i,_=>by simp [iD]
 | x::r,i,h=>by
   have ih:=sR p r (i+1) (by omega)
   unfold iD
   rw [List.any_cons]
   cases hp:p x
   · simpa using ih
   · simpa using h
theorem Cq {α:Type} (p:α→Bool) (l:List α) (i:Int) (h:0≤i):decide (iD p l i≥0)=l.any p:=by
 have:=sR p l i h
 cases hl:l.any p
 · rw [hl] at this; exact decide_eq_false (fun h2=>by simp at this; omega)
 · rw [hl] at this; exact decide_eq_true (this.2 rfl)
variable (l:List Cell) {b:Bool} (d:Deed) (Γ:Ctx)
theorem nt (h:(!b)=true):b=false:=by cases b <;> simp_all
theorem nf (h:(!b)=false):b=true:=by cases b <;> simp_all
/-! ### plain -/
def uo:Bool:=l.any fun c=>c.op==6
def jl:Bool:=cS l && !uo l
def b7:Str:=[114,97,105,115,101,58]
def c7:Str:=[115,101,110,100,58]
def cB:Bool:=bif d.kind==1 then aP d.name&&jl d.expr else bif d.kind==2||d.kind==3 then cA d.name&&((d.expr.length:Int)==0) else false
def dA (l:List Deed):Bool:=l.all cB&&(decide ((l.length:Int)>0)&&decide ((l.length:Int)≤8))
theorem tD {n:Nat} (h:n≤1000001):room n 16:=by unfold room maxLen; omega
/-! ### the program's -/
theorem IP (c:Cell):ak Tryz.prog 190 [.e .cell c] [] (.x (.b (c.op==6))) []:=by
 refine dg bG Tryz.func190 (.ret (.p (.bool (c.op==(6:Int)))) []) fun Γ=>⟨rfl,rfl⟩
def y8:Ent:=(190,fun
 | [.agg [.pd (.int .i64 a),.pd (.int .i64 b),.pd (.str d)]],[]=>some (none,.x (.c (.pd (.bool (a==6)))),[])
 | _,_=>none)
theorem I2:EntOk Tryz.prog y8:=entOk fun vs ck=>by
 unfold y8; dsimp only; split
 · rename_i a b d; exact entS fun hp=>IP ⟨a,b,d⟩
 · exact entN
def wq:Cfg:=⟨bx,[y8]⟩
theorem vq:ai Tryz.prog wq.tab:=(ai.cons I2 ai.nil)
abbrev zUp1:List PI:=[.code [1,0,1,0,0],.inLoop [1,0,1,0,0],.inBlock 0,.code [1,1]]
theorem Ky (hl:l.length≤maxLen)  : ∀ (n k:Nat),l.length - k≤n→k≤l.length →
 J Tryz.prog 211 (aI Tryz.f211) Γ (Eq2 (.x (.i (iD (fun c:Cell=>c.op==6) (l.drop k) k))) []) zUp1 ({ n:=19,fr:=[(0,.p (.lst .cell l)),(1,.x (.c (.fn (.func 190) [] []))),(4,.i 0),(7,.i l.length),(8,.i k)],ck:=[] }):=by
 intro n
 induction n with
 | zero=>?_
 | succ n ih=>?_
 all_goals
  intro k hn hk
  refine jg vq Tryz.func211 (.ite (decide ((k:Int)<(l.length:Int))) (.need (inRg k l.length) (.ite (Cell.op (ETy.get .cell l k)==(6:Int)) (.ret (.i k) []) (.stop zUp1 { n:=19,fr:=[(0,.p (.lst .cell l)),(1,.x (.c (.fn (.func 190) [] []))),(4,.i 0),(7,.i l.length),(8,.i (IntKind.wrap .i64 ((k:Int)+1)))],ck:=[] }))) (.ret (.i (-1:Int)) [])) ?_
  refine ⟨fun hlt=>?_,fun hge=>?_⟩
  · have hk':k<l.length:=by have:=of_decide_eq_true hlt; omega
    rw [bZ (t:=.cell) (l:=l) hk']
    refine ⟨by omega,?_⟩
    generalize ETy.get .cell l k=v
    refine ⟨fun hb=>⟨?_,rfl⟩,fun hb=>?_⟩
    · simp only [iD,hb,cond_true]
    · simp only [iD,hb,cond_false]; (rw [ee (gR hk' hl)]; first | (exfalso; omega) | exact ih (k+1) (by omega) (by omega))
  · rw [cb (l:=l) (by have:=of_decide_eq_false hge; omega)]
    exact ⟨rfl,rfl⟩
theorem Jp:ak Tryz.prog 211 [.l .cell (l),SX.c (SC.fn (Fn.func 190) [] [])] [] (.x (.i (iD (fun c:Cell=>c.op==6) l 0))) []:=by
 refine dg vq Tryz.func211 (.stop zUp1 { n:=19,fr:=[(0,.p (.lst .cell l)),(1,.x (.c (.fn (.func 190) [] []))),(4,.i 0),(7,.i l.length),(8,.i 0)],ck:=[] }) fun Γ=>?_
 exact J.len 0 rfl fun hl=>Ky l Γ hl l.length 0 (by omega) (by omega)
def ET:Ent:=(211,fun
 | [.c (.pd (.lst .cell l)),.c (.fn (.func 190) [] [])],[]=>some (none,.x (.c (.pd (.int .i64 (iD (fun c:Cell=>c.op==6) l 0)))),[])
 | _,_=>none)
theorem MC:EntOk Tryz.prog ET:=entOk fun vs ck=>by
 unfold ET; dsimp only; split
 · rename_i l; exact entS fun hp=>Jp l
 · exact entN
def GJ:Cfg:=⟨bx,[ET]⟩
theorem HD:ai Tryz.prog GJ.tab:=(ai.cons MC ai.nil)
theorem KH:ak Tryz.prog 189 [.l .cell l,.c (.fn (.func 190) [] [])] [] (.x (.b (uo l))) []:=by
 refine dg HD Tryz.func189 (.ret (.p (.bool (decide (iD (fun c=>c.op==(6:Int)) l (0:Int)≥0)))) []) fun Γ=>⟨?_,rfl⟩
 rw [Cq _ _ _ (by omega)]; rfl
def D0:Ent:=(189,fun
 | [.c (.pd (.lst .cell l)),.c (.fn (.func 190) [] [])],[]=>some (none,.x (.c (.pd (.bool (uo l)))),[])
 | _,_=>none)
theorem NF:EntOk Tryz.prog D0:=entOk fun vs ck=>by
 unfold D0; dsimp only; split
 · rename_i l; exact entS fun hp=>KH l
 · exact entN
def Am:Cfg:=⟨bx,[ob,D0]⟩
theorem Cf:ai Tryz.prog Am.tab:=(ai.cons qh (ai.cons NF ai.nil))
theorem Cn:ak Tryz.prog 163 [.l .cell l] [] (.x (.b (jl l))) []:=by
 refine dg Cf Tryz.func163 (.ret (.p (.bool (cS l && !uo l))) []) fun Γ=>?_
 exact ⟨rfl,rfl⟩
def mo:Ent:=(163,fun
 | [.c (.pd (.lst .cell l))],[]=>some (none,.x (.c (.pd (.bool (jl l)))),[])
 | _,_=>none)
theorem oT:EntOk Tryz.prog mo:=entOk fun vs ck=>by
 unfold mo; dsimp only; split
 · rename_i l; exact entS fun hp=>Cn l
 · exact entN
def Df:Cfg:=⟨bx,[hO,mo,jO]⟩
theorem FJ:ai Tryz.prog Df.tab:=(ai.cons fK (ai.cons oT (ai.cons jr ai.nil)))
theorem HI:ak Tryz.prog 137 [.e .deed d] [] (.x (.b (cB d))) []:=by
 refine dg FJ Tryz.func137 (.ite (d.kind==(1:Int)) (.ret (.p (.bool (aP d.name&&jl d.expr))) []) (.ite (d.kind==(2:Int)) (.ret (.p (.bool (cA d.name&&(d.expr.length:Int)==0))) []) (.ite (d.kind==(3:Int)) (.ret (.p (.bool (cA d.name&&(d.expr.length:Int)==0))) []) (.ret (.p (.bool false)) [])))) fun Γ=>?_
 unfold cB
 refine ⟨fun h=>?_,fun h1=>⟨fun h=>?_,fun h2=>⟨fun h=>?_,fun h3=>?_⟩⟩⟩
 · rw [h]; exact ⟨rfl,rfl⟩
 · rw [h1,h]; exact ⟨rfl,rfl⟩
 · rw [h1,h2,h]; exact ⟨rfl,rfl⟩
 · rw [h1,h2,h3]; exact ⟨rfl,rfl⟩
def yL:Ent:=(137,fun
 | [.agg [.pd (.int .i64 a),.pd (.str b),.pd (.lst .cell d)]],[]=>some (none,.x (.c (.pd (.bool (cB ⟨a,b,d⟩)))),[])
 | _,_=>none)
theorem Kv:EntOk Tryz.prog yL:=entOk fun vs ck=>by
 unfold yL; dsimp only; split
 · rename_i a b d; exact entS fun hp=>HI ⟨a,b,d⟩
 · exact entN
def sW:Cfg:=⟨bx,[yL]⟩
theorem sE:ai Tryz.prog sW.tab:=(ai.cons Kv ai.nil)
theorem NK (l:List Deed) (Γ:Ctx) (hl:l.length≤maxLen)  : ∀ (n k:Nat),l.length - k≤n→k≤l.length →
 J Tryz.prog 101 (aI Tryz.f101) Γ (Eq2 (.x (.b ((l.drop k).all cB&&(decide ((l.length:Int)>0)&&decide ((l.length:Int)≤8))))) []) zUp1 ({ n:=23,fr:=[(0,.p (.lst .deed l)),(2,.p (.bool false)),(5,.p (.lst .deed l)),(6,.i l.length),(7,.i k)],ck:=[],kn:=[2] }):=by
 intro n
 induction n with
 | zero=>?_
 | succ n ih=>?_
 all_goals
  intro k hn hk
  refine jg sE Tryz.func101 (.ite (decide ((k:Int)<(l.length:Int))) (.need (inRg k l.length) (.ite (!cB (ETy.get .deed l k)) (.ret (.p (.bool false)) []) (.stop zUp1 { n:=23,fr:=[(0,.p (.lst .deed l)),(2,.p (.bool false)),(5,.p (.lst .deed l)),(6,.i l.length),(7,.i (IntKind.wrap .i64 ((k:Int)+1)))],ck:=[],kn:=[2] }))) (.ret (.p (.bool (decide ((l.length:Int)>0)&&decide ((l.length:Int)≤8)))) [])) ?_
  refine ⟨fun hlt=>?_,fun hge=>?_⟩
  · have hk':k<l.length:=by have:=of_decide_eq_true hlt; omega
    rw [bZ (t:=.deed) (l:=l) hk']
    refine ⟨by omega,?_⟩
    generalize ETy.get .deed l k=v
    rw [aF]
    refine ⟨fun hb=>⟨?_,rfl⟩,fun hb=>?_⟩
    · have hb':cB v=false:=nt hb
      rw [hb']; rfl
    · have hb':cB v=true:=nf hb
      rw [hb',bV]; (rw [ee (gR hk' hl)]; first | (exfalso; omega) | exact ih (k+1) (by omega) (by omega))
  · rw [cb (l:=l) (by have:=of_decide_eq_false hge; omega)]
    exact ⟨rfl,rfl⟩
theorem M3 (l:List Deed):ak Tryz.prog 101 [.l .deed (l)] [] (.x (.b (dA l))) []:=by
 refine dg sE Tryz.func101 (.stop zUp1 { n:=23,fr:=[(0,.p (.lst .deed l)),(2,.p (.bool false)),(5,.p (.lst .deed l)),(6,.i l.length),(7,.i 0)],ck:=[],kn:=[2] }) fun Γ=>?_
 exact J.len 0 rfl fun hl=>NK l Γ hl l.length 0 (by omega) (by omega)
def qw:Ent:=(101,fun
 | [.c (.pd (.lst .deed l))],[]=>some (none,.x (.c (.pd (.bool (dA l)))),[])
 | _,_=>none)
theorem xn:EntOk Tryz.prog qw:=entOk fun vs ck=>by
 unfold qw; dsimp only; split
 · rename_i l; exact entS fun hp=>M3 l
 · exact entN
end Go.Proofs.YtpfidgnkokidoaaGreatDoor
namespace Go.Proofs.YtpfidgnkokidoaaGreatDoor
open Go Go.Ev
set_option maxRecDepth 100000
variable {P:Program} {f:FuncId} {root:Code} {Γ:Ctx} {Q:Out} (a b:List Cell)
theorem J.settle {todo:List PI} {st:ST} {t s:Nat} {want:Bool} {v:SX} (hm:(t,SV.grd s want v)∈st.fr) (hb:lookup st.fr s=some (.x (.c (.pd (.bool want))))) {fr':List (Nat×SV)} (hf:∀ p∈fr',p∈st.fr∨p=(t,.x v))
 (hk:J P f root Γ Q todo { st with fr:=fr' }):J P f root Γ Q todo st:=by
 intro hT V a w r
 have hon:a.tmps.getD s undef = .bool want:=by
  have:=r.slots s _ (dF hb)
  have h2:SX.R V (.c (.pd (.bool want))) (a.tmps.getD s undef):=this
  generalize a.tmps.getD s undef=u at h2 ⊢
  cases h2; rfl
 have hv:dL V a t (.x v):=(r.slots t _ hm).1 hon
 refine hk hT V a w ⟨r.1,r.2,fun t' sv h'=>?_,r.4,r.5⟩
 rcases hf _ h' with h | h
 · exact r.slots _ _ h
 · simp only [ae] at h
   obtain ⟨rfl,rfl⟩:=h; exact hv
def Ds (P:Program) (cfg:Cfg) (root:Code) (p:List Nat) (i:Nat) (st:ST):Option (Option Prop×ST) :=
 match (opsOf (sub root p))[i]? with
 | some o=>match o.guard with
   | none=>ru P cfg o st
   | some _=>none
 | none=>none
theorem J.step {cfg:Cfg} {f:FuncId} {root:Code} {Γ:Ctx} {Q:Out} {st st':ST} (ht:ai P cfg.tab) {p:List Nat} {i:Nat} {k:List PI} {q:Option Prop} (h:Ds P cfg root p i st=some (q,st')) (hq:Holds q) (hk:J P f root Γ Q (.ops p (i+1)::k) st'):J P f root Γ Q (.ops p i::k) st:=by
 unfold Ds at h
 split at h
 · rename_i o ho
   split at h
   · rename_i hg
     intro hT V a w r
     have hi:i<(opsOf (sub root p)).size:=(Array.getElem?_eq_some_iff.1 ho).1
     have hsz:(opsOf (sub root p)).size - i=((opsOf (sub root p)).size - (i+1))+1:=by omega
     simp only [aw,PI.den]
     rw [hsz,cw]
     exact ki ⟨ht,hT⟩ r ho (by simp only [Region.wanted,hg]) h hq fun V' a' w' r'=>hk hT V' a' w' r'
   · cases h
 · cases h
/-! ### lists, alike -/
def dB:List Cell→List Cell→Bool
 | [],[]=>true
 | x::r,y::q=>(x.op==y.op&&(x.a==y.a&&x.name==y.name))&&dB r q
 | _,_=>false
theorem pN:∀ a b:List Cell,a.length≠b.length→dB a b=false
 | [],[],h=>absurd rfl h
 | [],_::_,_=>rfl
 | _::_,[],_=>rfl
 | x::r,y::q,h=>by
   rw [dB,pN r q (fun e=>h (by simp [e])),bB]
abbrev zOs1:List PI:=[.code [1,1,0,1,0,0],.inLoop [1,1,0,1,0,0],.inBlock 0,.code [1,1,1]]
theorem HL (Γ:Ctx) (hab:a.length=b.length) (ha:a.length≤1000000):∀ (n k:Nat),a.length - k≤n→k≤a.length →
 J Tryz.prog 25 (aI Tryz.f25) Γ (Eq2 (.x (.b (dB (a.drop k) (b.drop k)))) []) zOs1 ({ n:=26,fr:=[(0,.p (.lst .cell a)),(1,.p (.lst .cell b)),(4,.p (.bool false)),(5,.i ((k:Int)))],ck:=[],kn:=[4] }):=by
 intro n
 induction n with
 | zero=>?_
 | succ n ih=>?_
 all_goals
  intro k hn hk
  refine jg bG Tryz.func25 (.ite (decide ((k:Int)<(a.length:Int))) (.need (inRg k a.length) (.need (inRg k b.length) (.ite (!(Cell.op (ETy.get .cell a k)==Cell.op (ETy.get .cell b k)&&(Cell.a (ETy.get .cell a k)==Cell.a (ETy.get .cell b k)&&Cell.name (ETy.get .cell a k)==Cell.name (ETy.get .cell b k)))) (.ret (.p (.bool false)) []) (.stop zOs1 { n:=26,fr:=[(0,.p (.lst .cell a)),(1,.p (.lst .cell b)),(4,.p (.bool false)),(5,.i (IntKind.wrap .i64 ((k:Int)+1)))],ck:=[] })))) (.ret (.p (.bool true)) [])) ?_
  refine ⟨fun hlt=>?_,fun hge=>?_⟩
  · have hk':k<a.length:=by have:=of_decide_eq_true hlt; omega
    have hkb:k<b.length:=by omega
    rw [bZ (t:=.cell) (l:=a) hk',bZ (t:=.cell) (l:=b) hkb]
    refine ⟨by omega,by omega,?_⟩
    generalize ETy.get .cell a k=x
    generalize ETy.get .cell b k=y
    refine ⟨fun h=>?_,fun h=>?_⟩
    · have h':(x.op==y.op&&(x.a==y.a&&x.name==y.name))=false:=by rw [aD] at h; exact h
      rw [dB,h',cl]; exact ⟨rfl,rfl⟩
    · have h':(x.op==y.op&&(x.a==y.a&&x.name==y.name))=true:=by rw [cI] at h; exact h
      rw [dB,h',bV,ee (by omega)]
      first
      | (exfalso; omega)
      | exact J.kn [4] (ih (k+1) (by omega) (by omega))
  · have hk2:k=a.length:=by have:=of_decide_eq_false hge; omega
    have e:a.drop k=[]:=cb (by omega)
    have e2:b.drop k=[]:=cb (by omega)
    rw [e,e2]; exact ⟨rfl,rfl⟩
theorem HR (ha:a.length≤1000000):ak Tryz.prog 25 [.l .cell a,.l .cell b] [] (.x (.b (dB a b))) []:=by
 refine dg bG Tryz.func25 (.ite ((a.length:Int) != (b.length:Int)) (.ret (.p (.bool false)) []) (.stop zOs1 { n:=26,fr:=[(0,.p (.lst .cell a)),(1,.p (.lst .cell b)),(4,.p (.bool false)),(5,.i 0)],ck:=[],kn:=[4] })) fun Γ=>?_
 refine ⟨fun h=>?_,fun h=>?_⟩
 · rw [pN a b (by
    have:(a.length:Int)≠b.length:=by simpa using h
    omega)]; exact ⟨rfl,rfl⟩
 · have hab:a.length=b.length:=by
    have:(a.length:Int)=b.length:=by simpa using h
    omega
   exact HL a b Γ hab ha a.length 0 (by omega) (bt _)
def uC:Ent:=(25,fun
 | [.c (.pd (.lst .cell a)),.c (.pd (.lst .cell b))],[]=>some (some (a.length≤1000000),.x (.c (.pd (.bool (dB a b)))),[])
 | _,_=>none)
theorem Bo:EntOk Tryz.prog uC:=entOk fun vs ck=>by
 unfold uC; dsimp only; split
 · rename_i a b; exact entS fun hp=>HR a b hp
 · exact entN
end Go.Proofs.YtpfidgnkokidoaaGreatDoor
namespace Go.Proofs.YtpfidgnkokidoaaGreatDoor
open Go Go.Ev
set_option maxRecDepth 100000
/-! ### alike -/
def ie (x y:Deed):Bool:=x.kind==y.kind&&(x.name==y.name&&dB x.expr y.expr)
def bQ:List Deed→List Deed→Bool
 | [],[]=>true
 | x::r,y::q=>ie x y&&bQ r q
 | _,_=>false
theorem lK:∀ a b:List Deed,a.length≠b.length→bQ a b=false
 | [],[],h=>absurd rfl h
 | [],_::_,_=>rfl
 | _::_,[],_=>rfl
 | x::r,y::q,h=>by rw [bQ,lK r q (fun e=>h (by simp [e])),bB]
def FY:Cfg:=⟨bx,[uC]⟩
theorem AI:ai Tryz.prog FY.tab:=(ai.cons Bo ai.nil)
abbrev zUq1:List PI:=[.code [1,1,0,1,0,0],.inLoop [1,1,0,1,0,0],.inBlock 0,.code [1,1,1]]
theorem L5 (a b:List Deed) (Γ:Ctx) (hl:a.length≤maxLen) (hab:a.length=b.length) (ha:∀ d∈a,d.expr.length≤1000000):∀ (n k:Nat),a.length - k≤n→k≤a.length →
 J Tryz.prog 24 (aI Tryz.f24) Γ (Eq2 (.x (.b (bQ (a.drop k) (b.drop k)))) []) zUq1 ({ n:=55,fr:=[(0,.p (.lst .deed a)),(1,.p (.lst .deed b)),(4,.p (.bool false)),(5,.i k)],ck:=[],kn:=[4] }):=by
 intro n
 induction n with
 | zero=>?_
 | succ n ih=>?_
 all_goals
  intro k hn hk
  refine jg AI Tryz.func24 (let x1:=(((24,41,false,iX false (Deed.kind (ETy.get .deed a k) != Deed.kind (ETy.get .deed b k) || !Deed.name (ETy.get .deed a k)==Deed.name (ETy.get .deed b k)) none).2).2); let x2:=(((11,28,false,iX false (Deed.kind (ETy.get .deed a k) != Deed.kind (ETy.get .deed b k)) none).2).2); .ite (decide ((k:Int)<(a.length:Int))) (.need (inRg k a.length) (.need (inRg k b.length) (.need (x2.2→(0:Int)≤(k:Int)∧(k:Int)<(a.length:Int)) (.need (x2.2→(0:Int)≤(k:Int)∧(k:Int)<(b.length:Int)) (.need (x1.2→(0:Int)≤(k:Int)∧(k:Int)<(a.length:Int)) (.need (x1.2→(0:Int)≤(k:Int)∧(k:Int)<(b.length:Int)) (.need (x1.2→(Deed.expr (ETy.get .deed a k)).length≤1000000) (.ite (Deed.kind (ETy.get .deed a k) != Deed.kind (ETy.get .deed b k) || !Deed.name (ETy.get .deed a k)==Deed.name (ETy.get .deed b k) || !dB (Deed.expr (ETy.get .deed a k)) (Deed.expr (ETy.get .deed b k))) (.ret (.p (.bool false)) []) (.stop zUq1 { n:=55,fr:=[(0,.p (.lst .deed a)),(1,.p (.lst .deed b)),(4,.p (.bool false)),(5,.i (IntKind.wrap .i64 ((k:Int)+1)))],ck:=[] }))))))))) (.ret (.p (.bool true)) [])) ?_
  conv=>zeta
  refine ⟨fun hlt=>?_,fun hge=>?_⟩
  · have hk':k<a.length:=by have:=of_decide_eq_true hlt; omega
    have hx:(ETy.get .deed a k).expr.length≤1000000:=ha _ (List.mem_of_getElem? (ETy.getElem?_get (t:=.deed) hk'))
    rw [bZ (t:=.deed) (l:=a) hk',bZ (t:=.deed) (l:=b) (by omega)]
    refine ⟨by omega,by omega,fun _=>by omega,fun _=>by omega,fun _=>by omega,fun _=>by omega,fun _=>hx,?_⟩
    generalize ETy.get .deed a k=x
    generalize ETy.get .deed b k=y
    have e:ie x y = !(x.kind != y.kind || !(x.name==y.name) || !dB x.expr y.expr):=by
     simp only [ie,bne,Bool.not_or,Bool.not_not,dj]
    refine ⟨fun hb=>⟨?_,rfl⟩,fun hb=>?_⟩
    · rw [bQ,e,hb]; rfl
    · rw [bQ,e,hb,Bool.not_false,bV,ee (gR hk' hl)]
      first
      | (exfalso; omega)
      | exact J.kn [4] (ih (k+1) (by omega) (by omega))
  · rw [cb (l:=a) (by have:=of_decide_eq_false hge; omega),cb (l:=b) (by have:=of_decide_eq_false hge; omega)]
    exact ⟨rfl,rfl⟩
theorem Nv (a b:List Deed) (ha:∀ d∈a,d.expr.length≤1000000):ak Tryz.prog 24 [.l .deed a,.l .deed b] [] (.x (.b (bQ a b))) []:=by
 refine dg AI Tryz.func24 (.ite ((a.length:Int) != (b.length:Int)) (.ret (.p (.bool false)) []) (.stop zUq1 { n:=55,fr:=[(0,.p (.lst .deed a)),(1,.p (.lst .deed b)),(4,.p (.bool false)),(5,.i 0)],ck:=[],kn:=[4] })) fun Γ=>?_
 refine ⟨fun h=>?_,fun h=>?_⟩
 · rw [lK a b (by
    have:(a.length:Int)≠b.length:=by simpa using h
    omega)]; exact ⟨rfl,rfl⟩
 · have hab:a.length=b.length:=by
    have:(a.length:Int)=b.length:=by simpa using h
    omega
   exact J.len 0 rfl fun hl=>L5 a b Γ hl hab ha a.length 0 (by omega) (by omega)
def vD:Ent:=(24,fun
 | [.c (.pd (.lst .deed a)),.c (.pd (.lst .deed b))],[]=>some (some (∀ d∈a,d.expr.length≤1000000),.x (.c (.pd (.bool (bQ a b)))),[])
 | _,_=>none)
theorem If:EntOk Tryz.prog vD:=entOk fun vs ck=>by
 unfold vD; dsimp only; split
 · rename_i a b; exact entS fun hp=>Nv a b hp
 · exact entN
end Go.Proofs.YtpfidgnkokidoaaGreatDoor
