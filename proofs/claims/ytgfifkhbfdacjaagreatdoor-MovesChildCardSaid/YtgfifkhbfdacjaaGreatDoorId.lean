/- Contracts: lists of cells alike; two rules of the executor. Conditions: none. Contracts: the document's blocks that may be, blocks alike. Conditions: sizes. Contracts: valid: small functions. Conditions: sizes. Plain laws: floats that are whole numbers, their sums and products; parts of points. Conditions: each theorem's own. -/
import Derived.Test.YtgfifkhbfdacjaaGreatDoorKb
import Derived.Test.YtgfifkhbfdacjaaGreatDoorXb
import Derived.Test.YtgfifkhbfdacjaaGreatDoorUz
import Derived.Laws.ComplexArith
import Derived.Test.YtgfifkhbfdacjaaGreatDoorPD
import Derived.Test.YtgfifkhbfdacjaaGreatDoorVb
namespace Go.Proofs.YtgfifkhbfdacjaaGreatDoor
open Go Go.Ev
set_option maxRecDepth 100000
theorem J.settle {P:Program} {f:FuncId} {root:Code} {Γ:Ctx} {Q:Out} {todo:List PI} {st:ST} {t s:Nat} {want:Bool} {v:SX} (hm:(t,SV.grd s want v)∈st.fr) (hb:lookup st.fr s=some (.x (.c (.pd (.bool want))))) {fr':List (Nat×SV)} (hf:∀ p∈fr',p∈st.fr∨p=(t,.x v))
 (hk:J P f root Γ Q todo { st with fr:=fr' }):J P f root Γ Q todo st:=by
 intro hT V a w r
 have hon:a.tmps.getD s undef = .bool want:=by
  have:=r.slots s _ (bZ hb)
  have h2:SX.R V (.c (.pd (.bool want))) (a.tmps.getD s undef):=this
  generalize a.tmps.getD s undef=u at h2 ⊢
  cases h2; rfl
 have hv:b7 V a t (.x v):=(r.slots t _ hm).1 hon
 refine hk hT V a w ⟨r.1,r.2,fun t' sv h'=>?_,r.4,r.5⟩
 rcases hf _ h' with h | h
 · exact r.slots _ _ h
 · simp only [ae] at h
   obtain ⟨rfl,rfl⟩:=h; exact hv
def Bm (P:Program) (cfg:Cfg) (root:Code) (p:List Nat) (i:Nat) (st:ST):Option (Option Prop×ST) :=
 match (opsOf (sub root p))[i]? with
 | some o=>match o.guard with
   | none=>oJ P cfg o st
   | some _=>none
 | none=>none
theorem J.step {P:Program} {cfg:Cfg} {f:FuncId} {root:Code} {Γ:Ctx} {Q:Out} {st st':ST} (ht:ag P cfg.tab) {p:List Nat} {i:Nat} {k:List PI} {q:Option Prop} (h:Bm P cfg root p i st=some (q,st')) (hq:Holds q) (hk:J P f root Γ Q (.ops p (i+1)::k) st'):J P f root Γ Q (.ops p i::k) st:=by
 unfold Bm at h
 split at h
 · rename_i o ho
   split at h
   · rename_i hg
     intro hT V a w r
     have hi:i<(opsOf (sub root p)).size:=(Array.getElem?_eq_some_iff.1 ho).1
     have hsz:(opsOf (sub root p)).size - i=((opsOf (sub root p)).size - (i+1))+1:=by omega
     simp only [ax,PI.den]
     rw [hsz,bC]
     exact je ⟨ht,hT⟩ r ho (by simp only [Region.wanted,hg]) h hq fun V' a' w' r'=>hk hT V' a' w' r'
   · cases h
 · cases h
/-! ### lists, alike -/
abbrev zUr2:List PI:=[.code [1,0,1,0,0],.inLoop [1,0,1,0,0],.inBlock 0,.code [1,1]]
theorem Ml (l:List Cell) (Γ:Ctx) (hl:l.length≤maxLen)  : ∀ (n k:Nat),l.length - k≤n→k≤l.length →
 J Tryz.prog 199 (au Tryz.f199) Γ (Eq2 (.x (.b (jR (l.drop k)))) []) zUr2 ({ n:=16,fr:=[(0,.p (.lst .cell l)),(2,.p (.bool false)),(3,.i k)],ck:=[],kn:=[2] }):=by
 intro n
 induction n with
 | zero=>?_
 | succ n ih=>?_
 all_goals
  intro k hn hk
  refine jg aW Tryz.func199 (.ite (decide ((k:Int)<(l.length:Int))) (.need (inRg k l.length) (.ite (Cell.op (ETy.get .cell l k)==(6:Int)) (.ret (.p (.bool true)) []) (.stop zUr2 { n:=16,fr:=[(0,.p (.lst .cell l)),(2,.p (.bool false)),(3,.i (IntKind.wrap .i64 ((k:Int)+1)))],ck:=[],kn:=[2] }))) (.ret (.p (.bool false)) [])) ?_
  refine ⟨fun hlt=>?_,fun hge=>?_⟩
  · have hk':k<l.length:=by have:=of_decide_eq_true hlt; omega
    rw [bx (t:=.cell) (l:=l) hk']
    refine ⟨by omega,?_⟩
    generalize ETy.get .cell l k=v
    have e:jR (v::l.drop (k+1))=(v.op==6||jR (l.drop (k+1))):=cE
    rw [e]
    refine ⟨fun hb=>⟨?_,rfl⟩,fun hb=>?_⟩
    · have hb':(v.op==6)=true:=hb
      rw [hb']; rfl
    · have hb':(v.op==6)=false:=hb
      rw [hb',bf]; (rw [aV (aC hk' hl)]; first | (exfalso; omega) | exact J.kn [2] (ih (k+1) (by omega) (by omega)))
  · rw [bL (l:=l) (by have:=of_decide_eq_false hge; omega)]
    exact ⟨rfl,rfl⟩
theorem Lj (l:List Cell):ah Tryz.prog 199 [.l .cell (l)] [] (.x (.b (jR l))) []:=by
 refine dg aW Tryz.func199 (.stop zUr2 { n:=16,fr:=[(0,.p (.lst .cell l)),(2,.p (.bool false)),(3,.i 0)],ck:=[],kn:=[2] }) fun Γ=>?_
 exact J.len 0 rfl fun hl=>Ml l Γ hl l.length 0 (by omega) (by omega)
def r3:Ent:=(199,fun
 | [.c (.pd (.lst .cell l))],[]=>some (none,.x (.c (.pd (.bool (jR l)))),[])
 | _,_=>none)
theorem DS:EntOk Tryz.prog r3:=entOk fun vs ck=>by
 unfold r3; dsimp only; split
 · rename_i l; exact entS fun hp=>Lj l
 · exact entN
def AQ:Cfg:=⟨aX,[nS,mu,r3,lH]⟩
theorem BY:ag Tryz.prog AQ.tab:=(ag.cons mD (ag.cons rG (ag.cons DS (ag.cons xV ag.nil))))
theorem G0 (d:Deed):ah Tryz.prog 169 [.e .deed d] [] (.x (.b (eF d))) []:=by
 refine dg BY Tryz.func169 (.ite (d.kind==(1:Int)) (.ret (.p (.bool (a7 d.name&&dP d.expr && !jR d.expr))) []) (.ret (.p (.bool ((d.kind==(2:Int)||d.kind==(3:Int))&&gp d.name&&(d.expr.length:Int)==0))) [])) fun Γ=>?_
 unfold eF ox
 refine ⟨fun h=>?_,fun h=>?_⟩
 · rw [h,cond_true,← Bool.and_assoc]; exact ⟨rfl,rfl⟩
 · rw [h,cond_false]
   cases h2:(d.kind==2||d.kind==3)
   · rw [bj,bj]; exact ⟨rfl,rfl⟩
   · rw [aZ]; exact ⟨rfl,rfl⟩
def vW:Ent:=(169,fun
 | [.agg [.pd (.int .i64 a),.pd (.str b),.pd (.lst .cell d)]],[]=>some (none,.x (.c (.pd (.bool (eF ⟨a,b,d⟩)))),[])
 | _,_=>none)
theorem JZ:EntOk Tryz.prog vW:=entOk fun vs ck=>by
 unfold vW; dsimp only; split
 · rename_i a b d; exact entS fun hp=>G0 ⟨a,b,d⟩
 · exact entN
def oS:Cfg:=⟨aX,[vW]⟩
theorem ou:ag Tryz.prog oS.tab:=(ag.cons JZ ag.nil)
abbrev zUr1:List PI:=[.code [1,1,0,1,0,0],.inLoop [1,1,0,1,0,0],.inBlock 0,.code [1,1,1]]
theorem Jp (l:List Deed) (Γ:Ctx) (hl:l.length≤maxLen)  : ∀ (n k:Nat),l.length - k≤n→k≤l.length →
 J Tryz.prog 128 (au Tryz.f128) Γ (Eq2 (.x (.b ((l.drop k).all eF))) []) zUr1 ({ n:=24,fr:=[(0,.p (.lst .deed l)),(2,.p (.bool false)),(3,.i k)],ck:=[],kn:=[2] }):=by
 intro n
 induction n with
 | zero=>?_
 | succ n ih=>?_
 all_goals
  intro k hn hk
  refine jg ou Tryz.func128 (.ite (decide ((k:Int)<(l.length:Int))) (.need (inRg k l.length) (.ite (!eF (ETy.get .deed l k)) (.ret (.p (.bool false)) []) (.stop zUr1 { n:=24,fr:=[(0,.p (.lst .deed l)),(2,.p (.bool false)),(3,.i (IntKind.wrap .i64 ((k:Int)+1)))],ck:=[],kn:=[2] }))) (.ret (.p (.bool true)) [])) ?_
  refine ⟨fun hlt=>?_,fun hge=>?_⟩
  · have hk':k<l.length:=by have:=of_decide_eq_true hlt; omega
    rw [bx (t:=.deed) (l:=l) hk']
    refine ⟨by omega,?_⟩
    generalize ETy.get .deed l k=v
    rw [dy]
    refine ⟨fun hb=>⟨?_,rfl⟩,fun hb=>?_⟩
    · have hb':eF v=false:=nt hb
      rw [hb']; rfl
    · have hb':eF v=true:=nf hb
      rw [hb',aZ]; (rw [aV (aC hk' hl)]; first | (exfalso; omega) | exact J.kn [2] (ih (k+1) (by omega) (by omega)))
  · rw [bL (l:=l) (by have:=of_decide_eq_false hge; omega)]
    exact ⟨rfl,rfl⟩
theorem AJ (l:List Deed):ah Tryz.prog 128 [.l .deed l] [] (.x (.b (fA l))) []:=by
 refine dg ou Tryz.func128 (.ite (decide ((l.length:Int)<1)||decide ((l.length:Int)>8)) (.ret (.p (.bool false)) []) (.stop zUr1 { n:=24,fr:=[(0,.p (.lst .deed l)),(2,.p (.bool false)),(3,.i 0)],ck:=[],kn:=[2] })) fun Γ=>?_
 refine ⟨fun h=>⟨?_,rfl⟩,fun h=>?_⟩
 · have:fA l=false:=by
    unfold fA
    simp only [aO,decide_eq_true_eq] at h
    cases l.all eF
    · rfl
    · rw [aZ,cy]
      rcases h with h | h
      · left; exact decide_eq_false (by omega)
      · right; exact decide_eq_false (by omega)
   rw [this]
 · simp only [av,decide_eq_false_iff_not] at h
   have:fA l=(l.drop 0).all eF:=by
    unfold fA
    rw [decide_eq_true (show (l.length:Int)>0 by omega),decide_eq_true (show (l.length:Int)≤8 by omega)]; simp
   rw [this]
   exact J.len 0 rfl fun hl=>Jp l Γ hl l.length 0 (by omega) (by omega)
def po:Ent:=(128,fun
 | [.c (.pd (.lst .deed l))],[]=>some (none,.x (.c (.pd (.bool (fA l)))),[])
 | _,_=>none)
theorem Dg:EntOk Tryz.prog po:=entOk fun vs ck=>by
 unfold po; dsimp only; split
 · rename_i l; exact entS fun hp=>AJ l
 · exact entN
theorem Dj (k:Int):ah Tryz.prog 76 [.i k] [] (.x (.b (aM k))) []:=by
 refine dg aW Tryz.func76 (.ret (.p (.bool (k==(5:Int)||k==(6:Int)))) []) fun Γ=>?_
 exact ⟨rfl,rfl⟩
def mw:Ent:=(76,fun
 | [.c (.pd (.int .i64 k))],[]=>some (none,.x (.c (.pd (.bool (aM k)))),[])
 | _,_=>none)
theorem om:EntOk Tryz.prog mw:=entOk fun vs ck=>by
 unfold mw; dsimp only; split
 · rename_i k; exact entS fun hp=>Dj k
 · exact entN
variable (l:List Ev.Stat) (b:Bool) (e:Int) (n s:Str)
def bV:Int:=if b=true then 0 else e
def ay:Int:=aE (fun s:Ev.Stat=>s.name==n) l 0
theorem Cr:ah Tryz.prog 80 [.b b,.i e] [] (.x (.i (bV b e))) []:=by
 refine dg aW Tryz.func80 (.ite b (.ret (.i 0) []) (.ret (.i e) [])) fun Γ=>?_
 refine ⟨fun h=>?_,fun h=>?_⟩
 · unfold bV; rw [if_pos h]; exact ⟨rfl,rfl⟩
 · unfold bV; rw [if_neg (by rw [h]; decide)]; exact ⟨rfl,rfl⟩
def kC:Ent:=(80,fun
 | [.c (.pd (.bool b)),.c (.pd (.int .i64 e))],[]=>some (none,.x (.c (.pd (.int .i64 (bV b e)))),[])
 | _,_=>none)
theorem jy:EntOk Tryz.prog kC:=entOk fun vs ck=>by
 unfold kC; dsimp only; split
 · rename_i b e; exact entS fun hp=>Cr b e
 · exact entN
/-! ### a state's place -/
theorem Ip (s:Ev.Stat) (n:Str):ah Tryz.prog 98 [.e .stat s,.p (.ref .str n 0)] [] (.x (.b (s.name==n))) []:=by
 refine dg aW Tryz.func98 (.ret (.p (.bool (s.name==n))) []) fun Γ=>⟨rfl,rfl⟩
def DB:Ent:=(98,fun
 | [.agg [.pd (.str a),.pd (.int .i64 b),.pd (.int .i64 c),.pd (.str d),.pd (.lst .deed e),.pd (.lst .deed f)],.c (.pd (.ref .str n 0))],[]=>some (none,.x (.c (.pd (.bool (a==n)))),[])
 | _,_=>none)
theorem LL:EntOk Tryz.prog DB:=entOk fun vs ck=>by
 unfold DB; dsimp only; split
 · rename_i a b c d e f n; exact entS fun hp=>Ip ⟨a,b,c,d,e,f⟩ n
 · exact entN
def wT:Cfg:=⟨aX,[DB]⟩
theorem uC:ag Tryz.prog wT.tab:=(ag.cons LL ag.nil)
abbrev zTf1:List PI:=[.code [1,0,1,0,0],.inLoop [1,0,1,0,0],.inBlock 0,.code [1,1]]
theorem Ho (Γ:Ctx) (hl:l.length≤maxLen)  : ∀ (n k:Nat),l.length - k≤n→k≤l.length →
 J Tryz.prog 97 (au Tryz.f97) Γ (Eq2 (.x (.i (aE (fun v:Ev.Stat=>v.name==s) (l.drop k) k))) []) zTf1 ({ n:=19,fr:=[(0,.p (.lst .stat l)),(1,.x (.c (.fn (.func 98) [] [.pd (.ref .str s 0)]))),(4,.i 0),(7,.i l.length),(8,.i k)],ck:=[] }):=by
 intro n
 induction n with
 | zero=>?_
 | succ n ih=>?_
 all_goals
  intro k hn hk
  refine jg uC Tryz.func97 (.ite (decide ((k:Int)<(l.length:Int))) (.need (inRg k l.length) (.ite (Stat.name (ETy.get .stat l k)==s) (.ret (.i k) []) (.stop zTf1 { n:=19,fr:=[(0,.p (.lst .stat l)),(1,.x (.c (.fn (.func 98) [] [.pd (.ref .str s 0)]))),(4,.i 0),(7,.i l.length),(8,.i (IntKind.wrap .i64 ((k:Int)+1)))],ck:=[] }))) (.ret (.i (-1:Int)) [])) ?_
  refine ⟨fun hlt=>?_,fun hge=>?_⟩
  · have hk':k<l.length:=by have:=of_decide_eq_true hlt; omega
    rw [bx (t:=.stat) (l:=l) hk']
    refine ⟨by omega,?_⟩
    generalize ETy.get .stat l k=v
    refine ⟨fun hb=>⟨?_,rfl⟩,fun hb=>?_⟩
    · simp only [aE,hb,cond_true]
    · simp only [aE,hb,cond_false]; (rw [aV (aC hk' hl)]; first | (exfalso; omega) | exact ih (k+1) (by omega) (by omega))
  · rw [bL (l:=l) (by have:=of_decide_eq_false hge; omega)]
    exact ⟨rfl,rfl⟩
theorem HF:ah Tryz.prog 97 [.l .stat (l),SX.c (SC.fn (Fn.func 98) [] [RC.pd (PD.ref ETy.str s 0)])] [] (.x (.i (aE (fun v:Ev.Stat=>v.name==s) l 0))) []:=by
 refine dg uC Tryz.func97 (.stop zTf1 { n:=19,fr:=[(0,.p (.lst .stat l)),(1,.x (.c (.fn (.func 98) [] [.pd (.ref .str s 0)]))),(4,.i 0),(7,.i l.length),(8,.i 0)],ck:=[] }) fun Γ=>?_
 exact J.len 0 rfl fun hl=>Ho l s Γ hl l.length 0 (by omega) (by omega)
def CE:Ent:=(97,fun
 | [.c (.pd (.lst .stat l)),.c (.fn (.func 98) [] [.pd (.ref .str s 0)])],[]=>some (none,.x (.c (.pd (.int .i64 (aE (fun v:Ev.Stat=>v.name==s) l 0)))),[])
 | _,_=>none)
theorem LY:EntOk Tryz.prog CE:=entOk fun vs ck=>by
 unfold CE; dsimp only; split
 · rename_i l s; exact entS fun hp=>HF l s
 · exact entN
def G1:Cfg:=⟨aX,[CE]⟩
theorem Fm:ag Tryz.prog G1.tab:=(ag.cons LY ag.nil)
theorem Cx (c:Chart) (n:Str):ah Tryz.prog 36 [.e .chart c,.s n] [] (.x (.i (ay c.states n))) []:=by
 refine dg Fm Tryz.func36 (.ret (.i (aE (fun v=>v.name==n) c.states (0:Int))) []) fun Γ=>?_
 exact ⟨rfl,rfl⟩
def j5:Ent:=(36,fun
 | [.agg [.pd (.str a),.pd (.lst .str b),.pd (.lst .var c),.pd (.lst .stat d),.pd (.lst .tran e)],.c (.pd (.str n))],[]=>some (none,.x (.c (.pd (.int .i64 (ay d n)))),[])
 | _,_=>none)
theorem j1:EntOk Tryz.prog j5:=entOk fun vs ck=>by
 unfold j5; dsimp only; split
 · rename_i a b c d e n; exact entS fun hp=>Cx ⟨a,b,c,d,e⟩ n
 · exact entN
end Go.Proofs.YtgfifkhbfdacjaaGreatDoor
namespace Go.Ev
open Ieee
theorem log2_lt {a n:Nat} (h0:a≠0) (h:a<2 ^ n):a.log2<n:=(Nat.log2_lt h0).2 h
theorem ll {a:Nat} (h0:a≠0) (k:Nat):(a * 2 ^ k).log2=a.log2+k:=by
 have h1:=Nat.log2_self_le h0
 have h2:a<2 ^ (a.log2+1):=Nat.lt_log2_self
 have hne:a * 2 ^ k≠0:=Nat.mul_ne_zero h0 (Nat.ne_of_gt (dd k))
 have ha:2 ^ (a.log2+k)≤a * 2 ^ k:=by rw [ei]; exact bJ _ h1
 have hb:a * 2 ^ k<2 ^ (a.log2+k+1):=by
  rw [show a.log2+k+1=a.log2+1+k from by omega,ei]
  exact Nat.mul_lt_mul_of_pos_right h2 (dd k)
 have g1:a.log2+k≤(a * 2 ^ k).log2:=(Nat.le_log2 hne).2 ha
 have g2:(a * 2 ^ k).log2<a.log2+k+1:=(Nat.log2_lt hne).2 hb
 omega
theorem vu (neg:Bool) (n:Nat):Toward.even.cut neg n 0=n:=by
 simp [Toward.cut,Nat.mod_one]
theorem tB (neg:Bool) (b d:Nat) (hb:b≠0):Toward.even.cut neg (b * 2 ^ d) d=b:=by
 have hl:=ll hb d
 have hmin:min d ((b * 2 ^ d).log2+2)=d:=by rw [hl]; omega
 have hg:(1:Nat) <<< d=2 ^ d:=by rw [Nat.shiftLeft_eq,Nat.one_mul]
 have hpos:=dd d
 simp only [Toward.cut,hmin,hg,Nat.mul_div_cancel _ hpos,Nat.mul_mod_left]
 have h2:(2 ^ d==2 * 0)=false:=by simp
 simp [h2]
theorem iq:double.leastPlace = -1074:=by decide
theorem nv:double.binade=4503599627370496:=by decide
theorem mq:double.infRung=9218868437227405312:=by decide
theorem kz:double.signWeight=9223372036854775808:=by decide
theorem q9 (neg:Bool) (r:Nat) (hr:r<9223372036854775808):double.word neg r / 9223372036854775808 % 2=neg.toNat∧double.word neg r % 9223372036854775808=r:=by
 have hw:double.word neg r=if neg then 9223372036854775808+r else r:=by unfold Format.word; rw [kz]
 rw [hw]
 cases neg
 · simp only [da,if_false,Bool.toNat_false]; omega
 · simp only [if_true,Bool.toNat_true]; omega
theorem AY (x:Nat):double.read x=if x % 9223372036854775808<4503599627370496 then .number (x / 9223372036854775808 % 2==1) (x % 9223372036854775808) (-1074)
 else if x % 9223372036854775808<9218868437227405312 then .number (x / 9223372036854775808 % 2==1) (4503599627370496+x % 9223372036854775808 % 4503599627370496) (-1074+(x % 9223372036854775808 / 4503599627370496 - 1:Nat))
 else if x % 9223372036854775808=9218868437227405312 then .infinity (x / 9223372036854775808 % 2==1) else .nan (x / 9223372036854775808 % 2==1) (x % 9223372036854775808 - 9218868437227405312):=by
 unfold Format.read
 simp only [kz,nv,mq,iq]
theorem Ft (neg:Bool) (q f:Nat) (hq:1≤q) (hq2:q<2047) (hf:f<4503599627370496):double.read (double.word neg (q * 4503599627370496+f)) = .number neg (4503599627370496+f) (-1074+((q - 1:Nat):Int)):=by
 have hr:q * 4503599627370496+f<9223372036854775808:=by omega
 obtain ⟨h1,h2⟩:=q9 neg _ hr
 have c1:¬(q * 4503599627370496+f<4503599627370496):=by omega
 have c2:q * 4503599627370496+f<9218868437227405312:=by omega
 have c3:(q * 4503599627370496+f) % 4503599627370496=f:=by omega
 have c4:(q * 4503599627370496+f) / 4503599627370496=q:=by omega
 rw [AY,h1,h2,if_neg c1,if_pos c2,c3,c4]
 cases neg <;> rfl
theorem wU (s:Bool) (a k:Nat) (h0:a≠0) (h:a<2 ^ 53):double.read (double.nearest s (a * 2 ^ k) (-(k:Int))) = .number s (a * 2 ^ (52 - a.log2)) ((a.log2:Int) - 52):=by
 have hl:=ll h0 k
 have hlt:=log2_lt h0 h
 have hne:a * 2 ^ k≠0:=Nat.mul_ne_zero h0 (Nat.ne_of_gt (dd k))
 have hlast:max (-(k:Int)+((a * 2 ^ k).log2:Int) - (double.fractionBits:Int)) double.leastPlace=(a.log2:Int) - 52:=by
  rw [hl,iq]
  have:(double.fractionBits:Int)=52:=rfl
  rw [this]; omega
 have hkept:Toward.even.cut s ((a * 2 ^ k) <<< (-(k:Int) - ((a.log2:Int) - 52)).toNat) (((a.log2:Int) - 52) - -(k:Int)).toNat=a * 2 ^ (52 - a.log2):=by
  rcases Nat.le_total (k+a.log2) 52 with hc | hc
  · have e1:(-(k:Int) - ((a.log2:Int) - 52)).toNat=52 - a.log2 - k:=by omega
    have e2:(((a.log2:Int) - 52) - -(k:Int)).toNat=0:=by omega
    rw [e1,e2,vu,Nat.shiftLeft_eq,Nat.mul_assoc,← ei]
    congr 2; omega
  · have e1:(-(k:Int) - ((a.log2:Int) - 52)).toNat=0:=by omega
    have e2:(((a.log2:Int) - 52) - -(k:Int)).toNat=k+a.log2 - 52:=by omega
    rw [e1,e2,Nat.shiftLeft_zero]
    have e3:a * 2 ^ k=a * 2 ^ (52 - a.log2) * 2 ^ (k+a.log2 - 52):=by
     rw [Nat.mul_assoc,← ei]; congr 2; omega
    rw [e3]
    exact tB s _ _ (Nat.mul_ne_zero h0 (Nat.ne_of_gt (dd _)))
 have hk1:2 ^ 52≤a * 2 ^ (52 - a.log2):=by
  have h1:=Nat.log2_self_le h0
  have:2 ^ 52=2 ^ a.log2 * 2 ^ (52 - a.log2):=by rw [← ei]; congr 1; omega
  rw [this]; exact bJ _ h1
 have hk2:a * 2 ^ (52 - a.log2)<2 ^ 53:=by
  have h2:a<2 ^ (a.log2+1):=Nat.lt_log2_self
  have:2 ^ 53=2 ^ (a.log2+1) * 2 ^ (52 - a.log2):=by rw [← ei]; congr 1; omega
  rw [this]; exact Nat.mul_lt_mul_of_pos_right h2 (dd _)
 have hn:double.nearest s (a * 2 ^ k) (-(k:Int))=double.word s (min (((a.log2:Int) - 52 - -1074).toNat * 4503599627370496+a * 2 ^ (52 - a.log2)) 9218868437227405312):=by
  unfold Format.nearest
  rw [if_neg hne]
  dsimp only
  rw [hlast,hkept,iq,nv,mq]
 rw [hn]
 clear hn hkept hlast
 have p52:(2:Nat) ^ 52=4503599627370496:=by decide
 have p53:(2:Nat) ^ 53=9007199254740992:=by decide
 rw [p52] at hk1
 rw [p53] at hk2
 generalize a * 2 ^ (52 - a.log2)=m at hk1 hk2 ⊢
 have e4:((a.log2:Int) - 52 - -1074).toNat=a.log2+1022:=by omega
 rw [e4]
 have e5:min ((a.log2+1022) * 4503599627370496+m) 9218868437227405312=(a.log2+1023) * 4503599627370496+(m - 4503599627370496):=by omega
 rw [e5,Ft s (a.log2+1023) (m - 4503599627370496) (by omega) (by omega) (by omega)]
 have e6:4503599627370496+(m - 4503599627370496)=m:=by omega
 have e7:(-1074:Int)+((a.log2+1023 - 1:Nat):Int)=(a.log2:Int) - 52:=by omega
 rw [e6,e7]
theorem yW (s:Bool) (p:Int):double.read (double.nearest s 0 p) = .number s 0 (-1074):=by
 have:double.nearest s 0 p=double.word s 0:=by unfold Format.nearest; rw [if_pos rfl]
 obtain ⟨h1,h2⟩:=q9 s 0 (by omega)
 rw [this,AY,h1,h2,if_pos (by omega)]
 cases s <;> rfl
end Go.Ev
namespace Go.Ev
open Ieee
def isI (x:Nat) (n:Int):Prop:=∃ (s:Bool) (k:Nat),double.read x = .number s (n.natAbs * 2 ^ k) (-(k:Int))∧(n<0→s=true)∧(0<n→s=false)
theorem Av (s:Bool) (n:Int) (k:Nat) (h:n.natAbs<2 ^ 53) (h1:n<0→s=true) (h2:0<n→s=false):isI (double.nearest s (n.natAbs * 2 ^ k) (-(k:Int))) n:=by
 by_cases h0:n.natAbs=0
 · obtain ⟨q,hq⟩:∃ q:Nat,(-1074:Int) = -(q:Int):=⟨1074,rfl⟩
   refine ⟨s,q,?_,h1,h2⟩
   rw [h0,Nat.zero_mul,Nat.zero_mul,yW,hq]
 · have hlt:=log2_lt h0 h
   refine ⟨s,52 - n.natAbs.log2,?_,h1,h2⟩
   rw [wU s _ k h0 h]
   congr 1
   omega
theorem j6 (n:Int) (h:n.natAbs<2 ^ 53):isI (FloatKind.f64.nearest n) n:=by
 have:=Av (decide (n<0)) n 0 h (fun h=>by simpa using h) (fun h=>by simp; omega)
 simpa [FloatKind.nearest,FloatKind.encode,FloatKind.format,Format.write] using this
theorem mU (s:Bool) (n:Int) (j:Nat) (h1:n<0→s=true) (h2:0<n→s=false) (m:Nat) (hm:m=n.natAbs * 2 ^ j) (u:Nat):signed s m u=n * 2 ^ (j+u):=by
 subst hm
 unfold signed
 rw [Nat.shiftLeft_eq,Nat.mul_assoc,← ei]
 cases s
 · have:0≤n:=by
    rcases Int.lt_or_le n 0 with h | h
    · exact absurd (h1 h) (by simp)
    · exact h
   simp only [da,if_false,Int.natCast_mul,Int.natCast_pow]
   congr 1; omega
 · have:n≤0:=by
    rcases Int.lt_or_le 0 n with h | h
    · exact absurd (h2 h) (by simp)
    · exact h
   simp only [if_true,Int.natCast_mul,Int.natCast_pow]
   rw [← Int.neg_mul]
   congr 1; omega
theorem tf (k l:Nat):min (-(k:Int)) (-(l:Int)) = -((max k l:Nat):Int):=by omega
end Go.Ev
namespace Go.Ev
open Ieee
theorem vo (a b c:Int) (hc:0<c):compare (a * c) (b * c)=compare a b:=by
 rcases Int.lt_trichotomy a b with h | h | h
 · rw [Int.compare_eq_lt.2 h,Int.compare_eq_lt.2 (Int.mul_lt_mul_of_pos_right h hc)]
 · subst h; simp
 · rw [Int.compare_eq_gt.2 h,Int.compare_eq_gt.2 (Int.mul_lt_mul_of_pos_right h hc)]
theorem s6 {x y:Nat} {n m:Int} (hx:isI x n) (hy:isI y m):eU x y=some (compare n m):=by
 obtain ⟨s,k,e1,a1,a2⟩:=hx
 obtain ⟨t,l,e2,b1,b2⟩:=hy
 have g1:=mU s n k a1 a2 _ rfl ((-(k:Int)) - -((max k l:Nat):Int)).toNat
 have g2:=mU t m l b1 b2 _ rfl ((-(l:Int)) - -((max k l:Nat):Int)).toNat
 have u1:k+((-(k:Int)) - -((max k l:Nat):Int)).toNat=max k l:=by omega
 have u2:l+((-(l:Int)) - -((max k l:Nat):Int)).toNat=max k l:=by omega
 rw [u1] at g1
 rw [u2] at g2
 have hpos:(0:Int)<2 ^ (max k l):=Int.pow_pos (by decide)
 simp only [eU,FloatKind.format,Format.order,e1,e2,Datum.order,tf,g1,g2,vo _ _ _ hpos]
theorem F1 {x:Nat} {n:Int} (hx:isI x n):(FloatKind.f64.decode x).toInt .zero=some n:=by
 obtain ⟨s,k,e1,a1,a2⟩:=hx
 have hcut:Toward.zero.cut s (n.natAbs * 2 ^ k) k=n.natAbs:=by
  by_cases h0:n.natAbs=0
  · rw [h0]; simp [Toward.cut]
  · have hl:=ll h0 k
    have hmin:min k ((n.natAbs * 2 ^ k).log2+2)=k:=by rw [hl]; omega
    have hg:(1:Nat) <<< k=2 ^ k:=by rw [Nat.shiftLeft_eq,Nat.one_mul]
    simp only [Toward.cut,hmin,hg,Nat.mul_div_cancel _ (dd k)]
    simp
 have e2:(FloatKind.f64.decode x) = .number s (n.natAbs * 2 ^ k) (-(k:Int)):=e1
 have u1:(-(k:Int)).toNat=0:=by omega
 have u2:(- -(k:Int)).toNat=k:=by omega
 simp only [e2,Datum.toInt,Datum.integral,u1,u2,Nat.shiftLeft_zero,hcut]
 have:=mU s n 0 a1 a2 n.natAbs (by simp) 0
 simp only [cb] at this
 rw [this]; simp
theorem Jn {x:Nat} {n:Int} (hx:isI x n):oK x=n:=by simp [oK,F1 hx]
end Go.Ev
namespace Go.Ev
open Ieee
def inB (x:Nat):Bool:=(eU x 13920626448202203136==some .gt||eU x 13920626448202203136==some .eq)&&(eU x 4697254411347427328==some .lt||eU x 4697254411347427328==some .eq)
def qZ (x:Nat):Bool:=inB x&&eU x (FloatKind.f64.nearest (oK x))==some .eq
def pIn (a:Int):Bool:=decide (-1048576≤a)&&decide (a≤1048576)
theorem Ii:FloatKind.f64.nearest (-1048576)=13920626448202203136:=by decide
theorem Eu:FloatKind.f64.nearest 1048576=4697254411347427328:=by decide
theorem MJ:isI 13920626448202203136 (-1048576):=Ii ▸ j6 (-1048576) (by decide)
theorem HI:isI 4697254411347427328 1048576:=Eu ▸ j6 1048576 (by decide)
theorem eg {x:Nat}:inB x=true↔(eU x 13920626448202203136=some .gt∨eU x 13920626448202203136=some .eq)∧(eU x 4697254411347427328=some .lt∨eU x 4697254411347427328=some .eq):=by
 simp [inB]
theorem tK {a:Int} (h:pIn a=true):a.natAbs≤1048576:=by
 simp only [pIn,af,decide_eq_true_eq] at h; omega
theorem MA {x:Nat} {n:Int} (h:isI x n):inB x=pIn n:=by
 unfold inB
 rw [s6 h MJ,s6 h HI]
 rw [bn]
 simp only [pIn,af,aO,beq_iff_eq,aa,decide_eq_true_eq,Int.compare_eq_gt,Int.compare_eq_lt,Int.compare_eq_eq]
 omega
theorem rO {x:Nat} {n:Int} (h:isI x n):qZ x=pIn n:=by
 unfold qZ
 rw [MA h]
 cases hp:pIn n
 · rfl
 · have:=tK hp
   rw [Jn h,s6 h (j6 n (by omega))]
   simp
/-! ### points, by the bits of their parts -/
def wA (p:Nat×Nat):Bool:=qZ p.1&&qZ p.2
def num (n:Int):Nat:=FloatKind.f64.nearest n
def kD (a b:Int):Nat×Nat:=if pIn a&&pIn b then (num a,num b) else (0,0)
def kJ (a b:Int):Int:=if pIn a&&pIn b then 0 else 5
def isP (p:Nat×Nat) (a b:Int):Prop:=isI p.1 a∧isI p.2 b
theorem Gd {p:Nat×Nat} {a b:Int} (h:isP p a b):wA p=(pIn a&&pIn b):=by
 simp only [wA,rO h.1,rO h.2]
theorem LB {a b:Int} (ha:a.natAbs<2 ^ 53) (hb:b.natAbs<2 ^ 53):isP (num a,num b) a b:=⟨j6 a ha,j6 b hb⟩
end Go.Ev
