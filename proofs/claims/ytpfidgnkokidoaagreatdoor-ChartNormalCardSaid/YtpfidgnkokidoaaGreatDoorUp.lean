/- Contracts: names; prefixes. Conditions: none. Contracts: cells, right lists, by the program and the document; lists of cells as trees. Conditions: none. The library's contracts of strconv.FormatInt at base 10, laid at this dump by the kit's tools. Conditions: its table. Contracts: numbers told. Conditions: int64; the library's table. Contracts: names, events' names. Conditions: none. Contracts: actions that may be. Conditions: none. -/
import Derived.Test.YtpfidgnkokidoaaGreatDoorDa
import Derived.Shelf.LaysM
import Derived.Shelf.Strconv.Itoa4
import Derived.Test.YtpfidgnkokidoaaGreatDoorProg
import Derived.Lib.AppendIntMem
import Derived.Test.YtpfidgnkokidoaaGreatDoorVc
namespace Go.Proofs.YtpfidgnkokidoaaGreatDoor
open Go Go.Ev
set_option maxRecDepth 100000
abbrev zNa1:List PI:=[.code [1,1,0,1,0,0],.inLoop [1,1,0,1,0,0],.inBlock 0,.code [1,1,1]]
variable (a b s:Str)
theorem Gb (Γ:Ctx) (h0:vp s=false):∀ (n k:Nat),s.length - k≤n→k≤s.length→(∀ j,j<k→Ar (s.getD j 0)=false) →
 J Tryz.prog 20 (aH Tryz.f20) Γ (Eq2 (.x (.b (aO s))) []) zNa1 ({ n:=56,fr:=[(0,.p (.str s)),(2,.p (.bool false)),(23,.i (af s)),(24,.i k)],ck:=[],kn:=[2] }):=by
 have hlen:s.length≤12:=by simp [vp,af] at h0; omega
 intro n
 induction n with
 | zero=>?_
 | succ n ih=>?_
 all_goals
  intro k hn hk hb
  refine jg bH Tryz.func20 (let x1:=(↑((List.getD s k (0:UInt8)).toNat):Int); let x2:Tree:=(.ret (.p (.bool false)) []); .ite (decide ((k:Int)<af s)) (.need ((0:Int)≤(k:Int)∧(k:Int)<af s) (.ite ((decide (x1<97)||decide (x1>122))&&(decide (x1<48)||decide (x1>57))&&x1 != 95) x2 (.stop zNa1 { n:=56,fr:=[(0,.p (.str s)),(2,.p (.bool false)),(23,.i (af s)),(24,.i (IntKind.wrap .i64 ((k:Int)+1)))],ck:=[],kn:=[2] }))) (.ite (s==[116,114,117,101]) x2 (.ite (s==[102,97,108,115,101]) x2 (.ite (s==[105,110]) x2 (.ite (s==[114,101]) x2 (.ite (s==[105,109]) x2 (.ret (.p (.bool true)) []))))))) ?_
  conv=>zeta
  have hend:¬k<s.length→s.any Ar=false:=fun h=>AF fun j hj=>hb j (by omega)
  refine ⟨fun hlt=>⟨?_,fun hbad=>⟨?_,rfl⟩,fun hok=>?_⟩,fun hge=>?_⟩
  · have:=of_decide_eq_true hlt; simp only [af] at this ⊢; omega
  · have:=of_decide_eq_true hlt; simp only [af] at this
    have hbad':Ar (s.getD k 0)=true:=hbad
    simp only [aO,JN (by omega) hbad']; simp
  · have:=of_decide_eq_true hlt; simp only [af] at this
    first
    | (exfalso; omega)
    | (rw [dY (by omega)]
       exact ih (k+1) (by omega) (by omega) fun j hj=>if e:j=k then by rw [e]; exact hok else hb j (by omega))
  · have:=of_decide_eq_false hge; simp only [af] at this
    have hany:=hend (by omega)
    refine ⟨fun h1=>⟨?_,rfl⟩,fun h1=>⟨fun h2=>⟨?_,rfl⟩,fun h2=>⟨fun h3=>⟨?_,rfl⟩,fun h3=>⟨fun h4=>⟨?_,rfl⟩,fun h4=>⟨fun h5=>⟨?_,rfl⟩,fun h5=>⟨?_,rfl⟩⟩⟩⟩⟩⟩ <;>
     simp [aO,h0,hany,BJ, *]
theorem H5:ak Tryz.prog 20 [.s s] [] (.x (.b (aO s))) []:=by
 refine dg bH Tryz.func20 (let x1:=(↑((List.getD s 0 (0:UInt8)).toNat):Int); let x2:=(af s>(12:Int)); .need ((s==[]||decide x2)=false→(0:Int)≤0∧(0:Int)<af s) (.need ((s==[]||decide x2||decide (x1<97))=false→(0:Int)≤0∧(0:Int)<af s) (.ite (s==[]||decide x2||decide (x1<97)||decide (x1>122)) (.ret (.p (.bool false)) []) (.stop zNa1 { n:=56,fr:=[(0,.p (.str s)),(2,.p (.bool false)),(23,.i (af s)),(24,.i 0)],ck:=[],kn:=[2] })))) fun Γ=>?_
 conv=>zeta
 have hpos:(s==[]||decide (af s>12))=false→0≤(0:Int)∧0<af s:=by
  intro h
  cases s with
  | nil=>simp at h
  | cons c r=>simp [af]
 refine ⟨hpos,fun h=>hpos ?_,fun h=>⟨?_,rfl⟩,fun h=>?_⟩
 · simp only [aI] at h ⊢; exact h.1
 · have h':vp s=true:=h
   simp [aO,h']
 · exact Gb s _ h s.length 0 (by omega) (by omega) (fun j hj=>by omega)
def hG:Ent:=(20,fun
 | [.c (.pd (.str s))],[]=>some (none,.x (.c (.pd (.bool (aO s)))),[])
 | _,_=>none)
theorem fH:EntOk Tryz.prog hG:=entOk fun vs ck=>by
 unfold hG; dsimp only; split
 · rename_i s; exact entS fun hp=>H5 s
 · exact entN
theorem wk:ak Tryz.prog 135 [.s a,.s b] [] (.x (.b (decide (af a≥af b)&&a.take (af b).toNat==b))) []:=by
 refine dg bH Tryz.func135 (.need (decide (af a≥af b)=true→(0:Int)≤af b∧af b≤(a.length:Int)) (.ret (.p (.bool (decide (af a≥af b)&&(aB a none (some (af b))).2==b))) [])) fun Γ=>?_
 refine ⟨fun h=>?_,rfl,rfl⟩
 have:=of_decide_eq_true h
 have h1:af b=(b.length:Int):=rfl
 have h2:af a=(a.length:Int):=rfl
 omega
def eHp:Ent:=(135,fun
 | [.c (.pd (.str a)),.c (.pd (.str b))],[]=>some (none,.x (.c (.pd (.bool (decide (af a≥af b)&&a.take (af b).toNat==b)))),[])
 | _,_=>none)
theorem Gc:EntOk Tryz.prog eHp:=entOk fun vs ck=>by
 unfold eHp; dsimp only; split
 · rename_i a b; exact entS fun hp=>wk a b
 · exact entN
def Lv:Cfg:=⟨bu,[eHp]⟩
theorem Kh:ai Tryz.prog Lv.tab:=(ai.cons Gc ai.nil)
def bm:Bool:=decide (af a≥af b)&&a.take (af b).toNat==b
def bz:Str:=bif bm a b then a.drop (af b).toNat else a
def cz:Bool:=aO (bz s [100,111,110,101,46])
theorem vt:ak Tryz.prog 143 [.s a,.s b] [] (.tup [.s (bz a b),.b (bm a b)]) []:=by
 refine dg Kh Tryz.func143 (.ite (!(decide (af a≥af b)&&List.take ((af b).toNat) a==b)) (.ret (.tup [.p (.str a),.p (.bool false)]) []) (.need ((0:Int)≤af b∧af b≤(a.length:Int)) (.ret (.tup [.p (.str ((aB a (some (af b)) none).2)),.p (.bool true)]) []))) fun Γ=>?_
 refine ⟨fun h=>⟨?_,rfl⟩,fun h=>⟨?_,?_,rfl⟩⟩
 · have h':bm a b=false:=by
    have h2:(!bm a b)=true:=h
    simpa using h2
   simp [bz,h']
 · have h':bm a b=true:=by
    have h2:(!bm a b)=false:=h
    simpa using h2
   simp only [bm,ab,decide_eq_true_eq] at h'
   have h1:af b=(b.length:Int):=rfl
   have h2:af a=(a.length:Int):=rfl
   omega
 · have h':bm a b=true:=by
    have h2:(!bm a b)=false:=h
    simpa using h2
   simp [bz,h',aB]
def yG:Ent:=(143,fun
 | [.c (.pd (.str a)),.c (.pd (.str b))],[]=>some (none,.tup [.c (.pd (.str (bz a b))),.c (.pd (.bool (bm a b)))],[])
 | _,_=>none)
theorem KI:EntOk Tryz.prog yG:=entOk fun vs ck=>by
 unfold yG; dsimp only; split
 · rename_i a b; exact entS fun hp=>vt a b
 · exact entN
def C4:Cfg:=⟨bu,[yG]⟩
theorem E8:ai Tryz.prog C4.tab:=(ai.cons KI ai.nil)
theorem wS:ak Tryz.prog 114 [.s a,.s b] [] (.tup [.s (bz a b),.b (bm a b)]) []:=by
 refine dg E8 Tryz.func114 (.ret (.tup [.p (.str (bz a b)),.p (.bool (bm a b))]) []) fun Γ=>?_
 exact ⟨rfl,rfl⟩
def q9:Ent:=(114,fun
 | [.c (.pd (.str a)),.c (.pd (.str b))],[]=>some (none,.tup [.c (.pd (.str (bz a b))),.c (.pd (.bool (bm a b)))],[])
 | _,_=>none)
theorem oe:EntOk Tryz.prog q9:=entOk fun vs ck=>by
 unfold q9; dsimp only; split
 · rename_i a b; exact entS fun hp=>wS a b
 · exact entN
end Go.Proofs.YtpfidgnkokidoaaGreatDoor
namespace Go.Proofs.YtpfidgnkokidoaaGreatDoor
open Go Go.Ev
set_option maxRecDepth 100000
def CQ:Cfg:=⟨bu,[hG]⟩
theorem Fi:ai Tryz.prog CQ.tab:=(ai.cons fH ai.nil)
theorem Dx (op a:Int) (s:Str):ak Tryz.prog 105 [.agg [.i op,.i a,.pd (.str s)]] [] (.x (.i (fC op a s))) []:=by
 refine dg Fi Tryz.func105 (let x1:Tree:=(.ret (.i (-1:Int)) []); let x2:Tree:=(.ite (a != (0:Int) || !aO s) x1 (.ret (.i 0) [])); .ite (op==(1:Int)) (.ite (decide (a<(0:Int))||decide (a>(1099511627776:Int)) || !s==[]) x1 (.ret (.i 0) [])) (.ite (op==(2:Int)) (.ite (decide (a<(0:Int))||decide (a>(1048576:Int)) || !s==[]) x1 (.ret (.i 0) [])) (.ite (op==(5:Int)) x2 (.ite (op==(6:Int)) x2 (.ite (decide (op<(3:Int))||decide (op>(23:Int))||a != (0:Int) || !s==[]) x1 (.ite (decide (op≤(4:Int))) (.ret (.i 0) []) (.ite (decide (op≤(10:Int))) (.ret (.i 1) []) (.ret (.i 2) [])))))))) fun Γ=>?_
 conv=>zeta
 (repeat' (first | intro h | constructor)) <;> simp only [fC, *,cond_true,cond_false]
def om:Ent:=(105,fun
 | [.agg [.pd (.int .i64 op),.pd (.int .i64 a),.pd (.str s)]],[]=>some (none,.x (.c (.pd (.int .i64 (fC op a s)))),[])
 | _,_=>none)
theorem qu:EntOk Tryz.prog om:=entOk fun vs ck=>by
 unfold om; dsimp only; split
 · rename_i op a s; exact entS fun hp=>Dx op a s
 · exact entN
def sO:Cfg:=⟨bu,[om]⟩
theorem sf:ai Tryz.prog sO.tab:=(ai.cons qu ai.nil)
abbrev zNr1:List PI:=[.code [1,1,1,0,1,0,0],.inLoop [1,1,1,0,1,0,0],.inBlock 0,.code [1,1,1,1]]
variable (c:Cell) (l:List Cell)
theorem Ff (Γ:Ctx) (hl:l.length≤32):∀ (n k:Nat) (m:Int),l.length - k≤n→k≤l.length→0≤m→m≤k →
 J Tryz.prog 103 (aH Tryz.f103) Γ (Eq2 (.x (.b (eM (l.drop k) m))) []) zNr1 ({ n:=32,fr:=[(2,.p (.bool false)),(3,.i m),(10,.p (.lst .cell l)),(11,.i l.length),(12,.i k)],ck:=[],kn:=[2] }):=by
 intro n
 induction n with
 | zero=>?_
 | succ n ih=>?_
 all_goals
  intro k m hn hk h0 hm
  refine jg sf Tryz.func103 (let x1:=(Cell.name (ETy.get .cell l k)); let x2:=(Cell.op (ETy.get .cell l k)); let x3:=(Cell.a (ETy.get .cell l k)); .ite (decide ((k:Int)<(l.length:Int))) (.need (inRg k l.length) (.ite (decide (fC x2 x3 x1<(0:Int))||decide (fC x2 x3 x1>m)) (.ret (.p (.bool false)) []) (.stop zNr1 { n:=32,fr:=[(2,.p (.bool false)),(3,.i (IntKind.wrap .i64 (m+IntKind.wrap .i64 ((1:Int) - fC x2 x3 x1)))),(10,.p (.lst .cell l)),(11,.i l.length),(12,.i (IntKind.wrap .i64 ((k:Int)+1)))],ck:=[],kn:=[2] }))) (.ret (.p (.bool (m==(1:Int)))) [])) ?_
  conv=>zeta
  refine ⟨fun hlt=>⟨?_,?_⟩,fun hge=>⟨?_,rfl⟩⟩
  · have:=of_decide_eq_true hlt; omega
  · have hk':k<l.length:=by have:=of_decide_eq_true hlt; omega
    rw [bY (t:=.cell) hk']
    generalize ETy.get .cell l k=c
    refine ⟨fun hb=>⟨?_,rfl⟩,fun hb=>?_⟩
    · have hb':(decide (bx c<0)||decide (bx c>m))=true:=hb
      simp only [eM,hb',cond_true]
    · have hb':(decide (bx c<0)||decide (bx c>m))=false:=hb
      have hw:0≤bx c∧bx c≤m:=by
       simp only [aI,decide_eq_false_iff_not] at hb'
       omega
      simp only [eM,hb',cond_false]
      show J Tryz.prog 103 (aH Tryz.f103) Γ _ zNr1 ({ n:=32,fr:=[(2,.p (.bool false)),(3,.i (IntKind.wrap .i64 (m+IntKind.wrap .i64 (1 - bx c)))),(10,.p (.lst .cell l)),(11,.i l.length),(12,.i (IntKind.wrap .i64 ((k:Int)+1)))],ck:=[],kn:=[2] })
      rw [cI (n:=1 - bx c) (by omega) (by omega),cI (by omega) (by omega),dY (by omega)]
      first
      | (exfalso; omega)
      | exact ih (k+1) (m+(1 - bx c)) (by omega) (by omega) (by omega) (by omega)
  · rw [b9 (by have:=of_decide_eq_false hge; omega)]; rfl
theorem Ez:ak Tryz.prog 103 [.l .cell l] [] (.x (.b (cS l))) []:=by
 refine dg sf Tryz.func103 (.ite (decide ((l.length:Int)>32)) (.ret (.p (.bool false)) []) (.stop zNr1 { n:=32,fr:=[(2,.p (.bool false)),(3,.i 0),(10,.p (.lst .cell l)),(11,.i l.length),(12,.i 0)],ck:=[],kn:=[2] })) fun Γ=>?_
 refine ⟨fun h=>⟨by simp only [cS,h]; rfl,rfl⟩,fun h=>?_⟩
 have hl:l.length≤32:=by have:=of_decide_eq_false h; omega
 simp only [cS,h]
 exact Ff l Γ hl l.length 0 0 (by omega) (by omega) (by omega) (by omega)
def oy:Ent:=(103,fun
 | [.c (.pd (.lst .cell l))],[]=>some (none,.x (.c (.pd (.bool (cS l)))),[])
 | _,_=>none)
theorem qq:EntOk Tryz.prog oy:=entOk fun vs ck=>by
 unfold oy; dsimp only; split
 · rename_i l; exact entS fun hp=>Ez l
 · exact entN
theorem Bu (h:bx c≥0):(bx c=0∧c.op<7)∨(bx c=1∧7≤c.op∧c.op<11)∨(bx c=2∧11≤c.op):=by
 revert h
 unfold bx fC
 simp only [cond_eq_ite,beq_iff_eq,aF,decide_eq_true_eq,bne_iff_ne]
 intro h
 (repeat' split at h) <;> (repeat' split) <;> omega
theorem CA (h:bx c≥0):(c.op<7∧bx c=0)∨(7≤c.op∧c.op<11∧bx c=1)∨(11≤c.op∧bx c=2):=by
 rcases Bu c h with ⟨h1,h2⟩ | ⟨h1,h2,h3⟩ | ⟨h1,h2⟩
 · exact .inl ⟨h2,h1⟩
 · exact .inr (.inl ⟨h2,h3,h1⟩)
 · exact .inr (.inr ⟨h2,h1⟩)
inductive Tm where
 | leaf (c:Cell)
 | un (c:Cell) (t:Tm)
 | bin (c:Cell) (t u:Tm)
def Tm.flat:Tm→List Cell
 | .leaf c=>[c]
 | .un c t=>t.flat++[c]
 | .bin c t u=>t.flat++u.flat++[c]
def Tm.ok:Tm→Prop
 | .leaf c=>bx c=0
 | .un c t=>bx c=1∧t.ok
 | .bin c t u=>bx c=2∧t.ok∧u.ok
def oI:List Tm→List Cell
 | []=>[]
 | t::r=>oI r++t.flat
theorem kR:∀ (rest:List Cell) (ts:List Tm),(∀ t∈ts,t.ok)→eM rest ts.length=true→∃ t:Tm,t.ok∧t.flat=oI ts++rest
 | [],ts,hok,h=>by
   simp only [eM] at h
   have h1:ts.length=1:=by have h2:(ts.length:Int)=1:=(by simpa using h); omega
   obtain ⟨t,rfl⟩:=List.length_eq_one_iff.1 h1
   exact ⟨t,hok t (by simp),by simp [oI]⟩
 | c :: rest,ts,hok,h=>by
   simp only [eM] at h
   cases hb:(decide (bx c<0)||decide (bx c>(ts.length:Int)))
   · rw [hb,cond_false] at h
     simp only [aI] at hb
     have h1:=of_decide_eq_false hb.1
     have h2:=of_decide_eq_false hb.2
     rcases CA c (by omega) with ⟨_,hw⟩ | ⟨_,_,hw⟩ | ⟨_,hw⟩
     · obtain ⟨t,q1,q2⟩:=kR rest (.leaf c::ts) (by intro t ht; rcases aN.1 ht with rfl | ht; exact hw; exact hok t ht) (by rw [← h]; congr 1; simp only [ah]; omega)
       exact ⟨t,q1,by rw [q2]; simp [oI,Tm.flat]⟩
     · cases ts with
       | nil=>simp at h2; omega
       | cons a ts =>
         obtain ⟨t,q1,q2⟩:=kR rest (.un c a::ts) (by intro t ht; rcases aN.1 ht with rfl | ht; exact ⟨hw,hok a (by simp)⟩; exact hok t (by simp [ht])) (by rw [← h]; congr 1; simp only [ah]; omega)
         exact ⟨t,q1,by rw [q2]; simp [oI,Tm.flat]⟩
     · cases ts with
       | nil=>simp at h2; omega
       | cons a ts=>cases ts with
         | nil=>simp at h2; omega
         | cons b ts =>
           obtain ⟨t,q1,q2⟩:=kR rest (.bin c b a::ts) (by intro t ht; rcases aN.1 ht with rfl | ht; exact ⟨hw,hok b (by simp),hok a (by simp)⟩; exact hok t (by simp [ht])) (by rw [← h]; congr 1; simp only [ah]; omega)
           exact ⟨t,q1,by rw [q2]; simp [oI,Tm.flat]⟩
   · rw [hb] at h; simp at h
theorem mM {l:List Cell} (h:cS l=true):l.length≤32∧∃ t:Tm,t.ok∧t.flat=l:=by
 simp only [cS,ab,aC,decide_eq_false_iff_not] at h
 obtain ⟨t,h1,h2⟩:=kR l [] (by simp) (by simpa using h.2)
 exact ⟨by omega,t,h1,by simpa [oI] using h2⟩
theorem kv (rest:List Cell):∀ (t:Tm),t.ok→∀ n:Int,0≤n→eM (t.flat++rest) n=eM rest (n+1)
 | .leaf c,h,n,hn=>by
   simp only [Tm.ok] at h
   simp [Tm.flat,eM,h,show ¬(n<0) from by omega]
 | .un c t,h,n,hn=>by
   obtain ⟨hw,ht⟩:=h
   rw [Tm.flat,aX,kv _ t ht n hn]
   simp [eM,hw,show ¬(n+1<1) from by omega]
 | .bin c t u,h,n,hn=>by
   obtain ⟨hw,ht,hu⟩:=h
   rw [Tm.flat,aX,aX,kv _ t ht n hn,kv _ u hu _ (by omega)]
   have:¬(n+1+1<2):=by omega
   simp only [bC,bN,eM,hw,show decide ((2:Int)<0)=false from rfl,dT,show decide ((2:Int)>n+1+1)=false from by simpa using this,cond_false]
   congr 1; omega
theorem Jd {t:Tm} (h:t.ok) (hl:t.flat.length≤32):cS t.flat=true:=by
 have:=kv [] t h 0 (by omega)
 rw [bt] at this
 simp only [cS,this,eM,ab,aC,decide_eq_false_iff_not]
 exact ⟨by omega,rfl⟩
theorem Jo:bx c≤2:=by
 unfold bx fC
 simp only [cond_eq_ite]
 repeat' split
 all_goals omega
end Go.Proofs.YtpfidgnkokidoaaGreatDoor
namespace Go.Proofs
open Go.Shelf
def Tryz.laysM173_ren:Go.Shelf.Ren:=⟨fun | 173=>97 | 246=>132 | 283=>172 | 284=>173 | 285=>174 | 286=>175 | 129=>198 | 317=>197 | 318=>199 | 319=>200 | 320=>201 | 337=>213 | 338=>214 | n=>n,fun | 2=>2 | 3=>3 | 9=>9 | 4=>4 | 171=>213 | 0=>0 | 53=>182 | 37=>71 | 5=>5 | 173=>216 | 212=>240 | 51=>179 | 20=>20 | 213=>241 | 46=>145 | 232=>253 | 233=>254 | n=>n,fun | 17=>3 | 18=>6 | 19=>7 | n=>n⟩
theorem Tryz.laysM173:Go.Proofs.LaysM.n173 Tryz.prog Tryz.laysM173_ren:={
 mixed:=by kernel_rfl
 f129:=Tryz.func198.trans (congrArg some (by kernel_rfl))
 f173:=Tryz.func97.trans (congrArg some (by kernel_rfl))
 f246:=Tryz.func132.trans (congrArg some (by kernel_rfl))
 f283:=Tryz.func172.trans (congrArg some (by kernel_rfl))
 f284:=Tryz.func173.trans (congrArg some (by kernel_rfl))
 f285:=Tryz.func174.trans (congrArg some (by kernel_rfl))
 f286:=Tryz.func175.trans (congrArg some (by kernel_rfl))
 f317:=Tryz.func197.trans (congrArg some (by kernel_rfl))
 f318:=Tryz.func199.trans (congrArg some (by kernel_rfl))
 f319:=Tryz.func200.trans (congrArg some (by kernel_rfl))
 f320:=Tryz.func201.trans (congrArg some (by kernel_rfl))
 f337:=Tryz.func213.trans (congrArg some (by kernel_rfl))
 f338:=Tryz.func214.trans (congrArg some (by kernel_rfl))
 t0:=Tryz.underlying0
 a0:=Tryz.isAgg0
 z0:=Tryz.sizeOf0
 v0:=Tryz.zeroValue0
 t2:=Tryz.underlying2
 a2:=Tryz.isAgg2
 z2:=Tryz.sizeOf2
 v2:=Tryz.zeroValue2
 t3:=Tryz.underlying3
 a3:=Tryz.isAgg3
 z3:=Tryz.sizeOf3
 v3:=Tryz.zeroValue3
 t4:=Tryz.underlying4
 a4:=Tryz.isAgg4
 z4:=Tryz.sizeOf4
 v4:=Tryz.zeroValue4
 t5:=Tryz.underlying5
 a5:=Tryz.isAgg5
 z5:=Tryz.sizeOf5
 v5:=Tryz.zeroValue5
 t9:=Tryz.underlying9
 a9:=Tryz.isAgg9
 z9:=Tryz.sizeOf9
 v9:=Tryz.zeroValue9
 t20:=Tryz.underlying20
 a20:=Tryz.isAgg20
 z20:=Tryz.sizeOf20
 v20:=Tryz.zeroValue20
 t37:=Tryz.underlying71
 a37:=Tryz.isAgg71
 z37:=Tryz.sizeOf71
 v37:=Tryz.zeroValue71
 t46:=Tryz.underlying145
 a46:=Tryz.isAgg145
 z46:=Tryz.sizeOf145
 v46:=Tryz.zeroValue145
 t51:=Tryz.underlying179
 a51:=Tryz.isAgg179
 z51:=Tryz.sizeOf179
 v51:=Tryz.zeroValue179
 t53:=Tryz.underlying182
 a53:=Tryz.isAgg182
 z53:=Tryz.sizeOf182
 v53:=Tryz.zeroValue182
 t171:=Tryz.underlying213
 a171:=Tryz.isAgg213
 z171:=Tryz.sizeOf213
 v171:=Tryz.zeroValue213
 t173:=Tryz.underlying216
 a173:=Tryz.isAgg216
 z173:=Tryz.sizeOf216
 v173:=Tryz.zeroValue216
 t212:=Tryz.underlying240
 a212:=Tryz.isAgg240
 z212:=Tryz.sizeOf240
 v212:=Tryz.zeroValue240
 t213:=Tryz.underlying241
 a213:=Tryz.isAgg241
 z213:=Tryz.sizeOf241
 t232:=Tryz.underlying253
 a232:=Tryz.isAgg253
 z232:=Tryz.sizeOf253
 v232:=Tryz.zeroValue253
 t233:=Tryz.underlying254
 a233:=Tryz.isAgg254
 z233:=Tryz.sizeOf254
 v233:=Tryz.zeroValue254
 g17:=by kernel_rfl
 g18:=by kernel_rfl
 g19:=by kernel_rfl
 i0:=by kernel_rfl
 i2:=by kernel_rfl
 i3:=by kernel_rfl
 i4:=by kernel_rfl
 i5:=by kernel_rfl
 i9:=by kernel_rfl
 i20:=by kernel_rfl
 i37:=by kernel_rfl
 i46:=by kernel_rfl
 i51:=by kernel_rfl
 i53:=by kernel_rfl
 i171:=by kernel_rfl
 i173:=by kernel_rfl
 i212:=by kernel_rfl
 i232:=by kernel_rfl
 i233:=by kernel_rfl
 m17:=by kernel_rfl
 m18:=by kernel_rfl
 m19:=by kernel_rfl }
open Go.RowKit Go.Sort Go.Lib in
theorem Tryz.strconv_FormatInt_10 (n:Int) (h0 : -9223372036854775808≤n) (h1:n≤9223372036854775807) (w:World) (htab:Lib.TabIs Tryz.prog w "internal/strconv.uint64pow10" .u64 Lib.pow10Tab) :
 Calls Tryz.prog 97 #[.int .i64 n,.int .i64 10] w fun e w'=>e = .returned (.string ⟨(Lib.itoa n).toArray⟩)∧∃ k os,w'=grow (w.drewN k) os:=Any.strconv_FormatInt_10 Tryz.laysM173 n h0 h1 w htab
end Go.Proofs
namespace Go.Proofs.YtpfidgnkokidoaaGreatDoor
open Go Go.Ev Go.RowKit
set_option maxRecDepth 100000
theorem jP {w w':World} (h:Below w.heap.size w w'):Fr (fun _=>False) w w':=⟨h.os,h.tape,h.output,h.size,fun k hk _=>h.block k hk⟩
theorem wx (n:Int) (h0 : -9223372036854775808≤n) (h1:n≤9223372036854775807):ak Tryz.prog 97 [.i n,.i 10] [] (.x (.s (Lib.itoa n))) []:=by
 intro w V vs hw hT hv
 cases hv with
 | cons a1 hv=>cases hv with
   | cons a2 hv =>
     cases hv
     have a1':PR V.H (.int .i64 n) _:=a1
     have a2':PR V.H (.int .i64 10) _:=a2
     cases a1'
     cases a2'
     have ht:Lib.TabIs Tryz.prog w "internal/strconv.uint64pow10" .u64 Lib.pow10Tab:=(hT.1 (by kernel_rfl)).world hw.imm
     refine (Tryz.strconv_FormatInt_10 n h0 h1 w ht).mono fun e w' ⟨he,k,os,hw'⟩=>?_
     subst he; subst hw'
     exact ⟨_,V,rfl,.str (Lib.itoa n),hw.kept (jP (Lib.below_grow w.heap.size w (aw _) k os))⟩
def eFi:Ent:=(97,fun
 | [.c (.pd (.int .i64 n)),.c (.pd (.int .i64 10))],[]=>some (some (-9223372036854775808≤n∧n≤9223372036854775807),.x (.c (.pd (.str (Lib.itoa n)))),[])
 | _,_=>none)
theorem Gn:EntOk Tryz.prog eFi:=entOk fun vs ck=>by
 unfold eFi; dsimp only; split
 · rename_i n; exact entS fun hp=>wx n hp.1 hp.2
 · exact entN
def Ln:Cfg:=⟨bu,[eFi]⟩
theorem J1:ai Tryz.prog Ln.tab:=(ai.cons Gn ai.nil)
theorem Cy (n:Int) (h0 : -9223372036854775808≤n) (h1:n≤9223372036854775807):ak Tryz.prog 55 [.i n] [] (.x (.s (Lib.itoa n))) []:=by
 refine dg J1 Tryz.func55 (.need ((-9223372036854775808:Int)≤n∧n≤(9223372036854775807:Int)) (.ret (.p (.str (Lib.itoa n))) [])) fun Γ=>?_
 exact ⟨⟨h0,h1⟩,rfl,rfl⟩
def eDg:Ent:=(55,fun
 | [.c (.pd (.int .i64 n))],[]=>some (some (-9223372036854775808≤n∧n≤9223372036854775807),.x (.c (.pd (.str (Lib.itoa n)))),[])
 | _,_=>none)
theorem F7:EntOk Tryz.prog eDg:=entOk fun vs ck=>by
 unfold eDg; dsimp only; split
 · rename_i n; exact entS fun hp=>Cy n hp.1 hp.2
 · exact entN
end Go.Proofs.YtpfidgnkokidoaaGreatDoor
namespace Go.Proofs.YtpfidgnkokidoaaGreatDoor
open Go Go.Ev
set_option maxRecDepth 100000
def GD:Cfg:=⟨bu,[q9,hG]⟩
theorem Gj:ai Tryz.prog GD.tab:=(ai.cons oe (ai.cons fH ai.nil))
theorem Fc (s:Str):ak Tryz.prog 85 [.s s] [] (.x (.b (cz s))) []:=by
 refine dg Gj Tryz.func85 (.ret (.p (.bool (aO (bz s [(100:UInt8),111,110,101,46])))) []) fun Γ=>?_
 exact ⟨rfl,rfl⟩
def jF:Ent:=(85,fun
 | [.c (.pd (.str s))],[]=>some (none,.x (.c (.pd (.bool (cz s)))),[])
 | _,_=>none)
theorem iY:EntOk Tryz.prog jF:=entOk fun vs ck=>by
 unfold jF; dsimp only; split
 · rename_i s; exact entS fun hp=>Fc s
 · exact entN
theorem KV (s:Str):bz ([100,111,110,101,46]++s) [100,111,110,101,46]=s:=by
 have h:bm ([100,111,110,101,46]++s) [100,111,110,101,46]=true:=by
  simp [bm,af]; omega
 rw [bz,h]; rfl
theorem kc {s p:Str} (h:bm s p=true):∃ r,s=p++r:=by
 simp only [bm,ab,beq_iff_eq,decide_eq_true_eq] at h
 refine ⟨s.drop (af p).toNat,?_⟩
 have:=dJ (af p).toNat s
 rw [h.2] at this; exact this.symm
end Go.Proofs.YtpfidgnkokidoaaGreatDoor
namespace Go.Proofs.YtpfidgnkokidoaaGreatDoor
open Go Go.Ev
set_option maxRecDepth 100000
theorem se {α:Type} (p:α→Bool):∀ (l:List α) (i:Int),0≤i→(ix p l i≥0↔l.any p=true)
 | [],i,_=>by simp [ix]
 | x::r,i,h=>by
   have ih:=se p r (i+1) (by omega)
   unfold ix
   rw [List.any_cons]
   cases hp:p x
   · simpa using ih
   · simpa using h
theorem Ck {α:Type} (p:α→Bool) (l:List α) (i:Int) (h:0≤i):decide (ix p l i≥0)=l.any p:=by
 have:=se p l i h
 cases hl:l.any p
 · rw [hl] at this; exact decide_eq_false (fun h2=>by simp at this; omega)
 · rw [hl] at this; exact decide_eq_true (this.2 rfl)
variable (l:List Cell) {b:Bool} (d:Deed) (Γ:Ctx)
theorem nt (h:(!b)=true):b=false:=by cases b <;> simp_all
theorem nf (h:(!b)=false):b=true:=by cases b <;> simp_all
/-! ### plain -/
def tT:Bool:=l.any fun c=>c.op==6
def jq:Bool:=cS l && !tT l
def b6:Str:=[114,97,105,115,101,58]
def c6:Str:=[115,101,110,100,58]
def cA:Bool:=bif d.kind==1 then aO d.name&&jq d.expr else bif d.kind==2||d.kind==3 then cz d.name&&((d.expr.length:Int)==0) else false
def dy (l:List Deed):Bool:=l.all cA&&(decide ((l.length:Int)>0)&&decide ((l.length:Int)≤8))
theorem sT {n:Nat} (h:n≤1000001):room n 16:=by unfold room maxLen; omega
/-! ### the program's -/
theorem Ih (c:Cell):ak Tryz.prog 190 [.e .cell c] [] (.x (.b (c.op==6))) []:=by
 refine dg bH Tryz.func190 (.ret (.p (.bool (c.op==(6:Int)))) []) fun Γ=>⟨rfl,rfl⟩
def yK:Ent:=(190,fun
 | [.agg [.pd (.int .i64 a),.pd (.int .i64 b),.pd (.str d)]],[]=>some (none,.x (.c (.pd (.bool (a==6)))),[])
 | _,_=>none)
theorem Jl:EntOk Tryz.prog yK:=entOk fun vs ck=>by
 unfold yK; dsimp only; split
 · rename_i a b d; exact entS fun hp=>Ih ⟨a,b,d⟩
 · exact entN
def vY:Cfg:=⟨bu,[yK]⟩
theorem uN:ai Tryz.prog vY.tab:=(ai.cons Jl ai.nil)
abbrev zUp1:List PI:=[.code [1,0,1,0,0],.inLoop [1,0,1,0,0],.inBlock 0,.code [1,1]]
theorem Kf (hl:l.length≤maxLen)  : ∀ (n k:Nat),l.length - k≤n→k≤l.length →
 J Tryz.prog 211 (aH Tryz.f211) Γ (Eq2 (.x (.i (ix (fun c:Cell=>c.op==6) (l.drop k) k))) []) zUp1 ({ n:=19,fr:=[(0,.p (.lst .cell l)),(1,.x (.c (.fn (.func 190) [] []))),(4,.i 0),(7,.i l.length),(8,.i k)],ck:=[] }):=by
 intro n
 induction n with
 | zero=>?_
 | succ n ih=>?_
 all_goals
  intro k hn hk
  refine jg uN Tryz.func211 (.ite (decide ((k:Int)<(l.length:Int))) (.need (inRg k l.length) (.ite (Cell.op (ETy.get .cell l k)==(6:Int)) (.ret (.i k) []) (.stop zUp1 { n:=19,fr:=[(0,.p (.lst .cell l)),(1,.x (.c (.fn (.func 190) [] []))),(4,.i 0),(7,.i l.length),(8,.i (IntKind.wrap .i64 ((k:Int)+1)))],ck:=[] }))) (.ret (.i (-1:Int)) [])) ?_
  refine ⟨fun hlt=>?_,fun hge=>?_⟩
  · have hk':k<l.length:=by have:=of_decide_eq_true hlt; omega
    rw [bY (t:=.cell) (l:=l) hk']
    refine ⟨by omega,?_⟩
    generalize ETy.get .cell l k=v
    refine ⟨fun hb=>⟨?_,rfl⟩,fun hb=>?_⟩
    · simp only [ix,hb,cond_true]
    · simp only [ix,hb,cond_false]; (rw [dY (gL hk' hl)]; first | (exfalso; omega) | exact ih (k+1) (by omega) (by omega))
  · rw [b9 (l:=l) (by have:=of_decide_eq_false hge; omega)]
    exact ⟨rfl,rfl⟩
theorem JS:ak Tryz.prog 211 [.l .cell (l),SX.c (SC.fn (Fn.func 190) [] [])] [] (.x (.i (ix (fun c:Cell=>c.op==6) l 0))) []:=by
 refine dg uN Tryz.func211 (.stop zUp1 { n:=19,fr:=[(0,.p (.lst .cell l)),(1,.x (.c (.fn (.func 190) [] []))),(4,.i 0),(7,.i l.length),(8,.i 0)],ck:=[] }) fun Γ=>?_
 exact J.len 0 rfl fun hl=>Kf l Γ hl l.length 0 (by omega) (by omega)
def EL:Ent:=(211,fun
 | [.c (.pd (.lst .cell l)),.c (.fn (.func 190) [] [])],[]=>some (none,.x (.c (.pd (.int .i64 (ix (fun c:Cell=>c.op==6) l 0)))),[])
 | _,_=>none)
theorem LL:EntOk Tryz.prog EL:=entOk fun vs ck=>by
 unfold EL; dsimp only; split
 · rename_i l; exact entS fun hp=>JS l
 · exact entN
def Ir:Cfg:=⟨bu,[EL]⟩
theorem Hp:ai Tryz.prog Ir.tab:=(ai.cons LL ai.nil)
theorem KD:ak Tryz.prog 189 [.l .cell l,.c (.fn (.func 190) [] [])] [] (.x (.b (tT l))) []:=by
 refine dg Hp Tryz.func189 (.ret (.p (.bool (decide (ix (fun c=>c.op==(6:Int)) l (0:Int)≥0)))) []) fun Γ=>⟨?_,rfl⟩
 rw [Ck _ _ _ (by omega)]; rfl
def FP:Ent:=(189,fun
 | [.c (.pd (.lst .cell l)),.c (.fn (.func 190) [] [])],[]=>some (none,.x (.c (.pd (.bool (tT l)))),[])
 | _,_=>none)
theorem LR:EntOk Tryz.prog FP:=entOk fun vs ck=>by
 unfold FP; dsimp only; split
 · rename_i l; exact entS fun hp=>KD l
 · exact entN
def AW:Cfg:=⟨bu,[oy,FP]⟩
theorem Co:ai Tryz.prog AW.tab:=(ai.cons qq (ai.cons LR ai.nil))
theorem B6:ak Tryz.prog 163 [.l .cell l] [] (.x (.b (jq l))) []:=by
 refine dg Co Tryz.func163 (.ret (.p (.bool (cS l && !tT l))) []) fun Γ=>?_
 exact ⟨rfl,rfl⟩
def lW:Ent:=(163,fun
 | [.c (.pd (.lst .cell l))],[]=>some (none,.x (.c (.pd (.bool (jq l)))),[])
 | _,_=>none)
theorem pc:EntOk Tryz.prog lW:=entOk fun vs ck=>by
 unfold lW; dsimp only; split
 · rename_i l; exact entS fun hp=>B6 l
 · exact entN
def CV:Cfg:=⟨bu,[hG,lW,jF]⟩
theorem Fj:ai Tryz.prog CV.tab:=(ai.cons fH (ai.cons pc (ai.cons iY ai.nil)))
theorem GE:ak Tryz.prog 137 [.e .deed d] [] (.x (.b (cA d))) []:=by
 refine dg Fj Tryz.func137 (.ite (d.kind==(1:Int)) (.ret (.p (.bool (aO d.name&&jq d.expr))) []) (.ite (d.kind==(2:Int)) (.ret (.p (.bool (cz d.name&&(d.expr.length:Int)==0))) []) (.ite (d.kind==(3:Int)) (.ret (.p (.bool (cz d.name&&(d.expr.length:Int)==0))) []) (.ret (.p (.bool false)) [])))) fun Γ=>?_
 unfold cA
 refine ⟨fun h=>?_,fun h1=>⟨fun h=>?_,fun h2=>⟨fun h=>?_,fun h3=>?_⟩⟩⟩
 · rw [h]; exact ⟨rfl,rfl⟩
 · rw [h1,h]; exact ⟨rfl,rfl⟩
 · rw [h1,h2,h]; exact ⟨rfl,rfl⟩
 · rw [h1,h2,h3]; exact ⟨rfl,rfl⟩
def yv:Ent:=(137,fun
 | [.agg [.pd (.int .i64 a),.pd (.str b),.pd (.lst .cell d)]],[]=>some (none,.x (.c (.pd (.bool (cA ⟨a,b,d⟩)))),[])
 | _,_=>none)
theorem J9:EntOk Tryz.prog yv:=entOk fun vs ck=>by
 unfold yv; dsimp only; split
 · rename_i a b d; exact entS fun hp=>GE ⟨a,b,d⟩
 · exact entN
def tC:Cfg:=⟨bu,[yv]⟩
theorem sL:ai Tryz.prog tC.tab:=(ai.cons J9 ai.nil)
theorem Nh (l:List Deed) (Γ:Ctx) (hl:l.length≤maxLen)  : ∀ (n k:Nat),l.length - k≤n→k≤l.length →
 J Tryz.prog 101 (aH Tryz.f101) Γ (Eq2 (.x (.b ((l.drop k).all cA&&(decide ((l.length:Int)>0)&&decide ((l.length:Int)≤8))))) []) zUp1 ({ n:=23,fr:=[(0,.p (.lst .deed l)),(2,.p (.bool false)),(5,.p (.lst .deed l)),(6,.i l.length),(7,.i k)],ck:=[],kn:=[2] }):=by
 intro n
 induction n with
 | zero=>?_
 | succ n ih=>?_
 all_goals
  intro k hn hk
  refine jg sL Tryz.func101 (.ite (decide ((k:Int)<(l.length:Int))) (.need (inRg k l.length) (.ite (!cA (ETy.get .deed l k)) (.ret (.p (.bool false)) []) (.stop zUp1 { n:=23,fr:=[(0,.p (.lst .deed l)),(2,.p (.bool false)),(5,.p (.lst .deed l)),(6,.i l.length),(7,.i (IntKind.wrap .i64 ((k:Int)+1)))],ck:=[],kn:=[2] }))) (.ret (.p (.bool (decide ((l.length:Int)>0)&&decide ((l.length:Int)≤8)))) [])) ?_
  refine ⟨fun hlt=>?_,fun hge=>?_⟩
  · have hk':k<l.length:=by have:=of_decide_eq_true hlt; omega
    rw [bY (t:=.deed) (l:=l) hk']
    refine ⟨by omega,?_⟩
    generalize ETy.get .deed l k=v
    rw [aE]
    refine ⟨fun hb=>⟨?_,rfl⟩,fun hb=>?_⟩
    · have hb':cA v=false:=nt hb
      rw [hb']; rfl
    · have hb':cA v=true:=nf hb
      rw [hb',bT]; (rw [dY (gL hk' hl)]; first | (exfalso; omega) | exact ih (k+1) (by omega) (by omega))
  · rw [b9 (l:=l) (by have:=of_decide_eq_false hge; omega)]
    exact ⟨rfl,rfl⟩
theorem LY (l:List Deed):ak Tryz.prog 101 [.l .deed (l)] [] (.x (.b (dy l))) []:=by
 refine dg sL Tryz.func101 (.stop zUp1 { n:=23,fr:=[(0,.p (.lst .deed l)),(2,.p (.bool false)),(5,.p (.lst .deed l)),(6,.i l.length),(7,.i 0)],ck:=[],kn:=[2] }) fun Γ=>?_
 exact J.len 0 rfl fun hl=>Nh l Γ hl l.length 0 (by omega) (by omega)
def rl:Ent:=(101,fun
 | [.c (.pd (.lst .deed l))],[]=>some (none,.x (.c (.pd (.bool (dy l)))),[])
 | _,_=>none)
theorem xi:EntOk Tryz.prog rl:=entOk fun vs ck=>by
 unfold rl; dsimp only; split
 · rename_i l; exact entS fun hp=>LY l
 · exact entN
end Go.Proofs.YtpfidgnkokidoaaGreatDoor
