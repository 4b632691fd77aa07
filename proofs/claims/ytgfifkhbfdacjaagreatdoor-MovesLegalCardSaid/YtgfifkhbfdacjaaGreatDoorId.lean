/- Contracts: lists of cells alike; two rules of the executor. Conditions: none. Contracts: the document's blocks that may be, blocks alike. Conditions: sizes. Contracts: valid: small functions. Conditions: sizes. Plain laws: floats that are whole numbers, their sums and products; parts of points. Conditions: each theorem's own. -/
import Derived.Test.YtgfifkhbfdacjaaGreatDoorKb
import Derived.Test.YtgfifkhbfdacjaaGreatDoorXb
import Derived.Test.YtgfifkhbfdacjaaGreatDoorUz
import Derived.Laws.ComplexArith
import Derived.Test.YtgfifkhbfdacjaaGreatDoorPD
import Derived.Test.YtgfifkhbfdacjaaGreatDoorVb
namespace Go.Proofs.YtgfifkhbfdacjaaGreatDoor
open Go Go.Ev
set_option maxRecDepth 100000
theorem J.settle {P:Program} {f:FuncId} {root:Code} {Γ:Ctx} {Q:Out} {todo:List PI} {st:ST} {t s:Nat} {want:Bool} {v:SX} (hm:(t,SV.grd s want v)∈st.fr) (hb:lookup st.fr s=some (.x (.c (.pd (.bool want))))) {fr':List (Nat×SV)} (hf:∀ p∈fr',p∈st.fr∨p=(t,.x v))
 (hk:J P f root Γ Q todo { st with fr:=fr' }):J P f root Γ Q todo st:=by
 intro hT V a w r
 have hon:a.tmps.getD s undef = .bool want:=by
  have:=r.slots s _ (b3 hb)
  have h2:SX.R V (.c (.pd (.bool want))) (a.tmps.getD s undef):=this
  generalize a.tmps.getD s undef=u at h2 ⊢
  cases h2; rfl
 have hv:cb V a t (.x v):=(r.slots t _ hm).1 hon
 refine hk hT V a w ⟨r.1,r.2,fun t' sv h'=>?_,r.4,r.5⟩
 rcases hf _ h' with h | h
 · exact r.slots _ _ h
 · simp only [ae] at h
   obtain ⟨rfl,rfl⟩:=h; exact hv
def Bj (P:Program) (cfg:Cfg) (root:Code) (p:List Nat) (i:Nat) (st:ST):Option (Option Prop×ST) :=
 match (opsOf (sub root p))[i]? with
 | some o=>match o.guard with
   | none=>pa P cfg o st
   | some _=>none
 | none=>none
theorem J.step {P:Program} {cfg:Cfg} {f:FuncId} {root:Code} {Γ:Ctx} {Q:Out} {st st':ST} (ht:ag P cfg.tab) {p:List Nat} {i:Nat} {k:List PI} {q:Option Prop} (h:Bj P cfg root p i st=some (q,st')) (hq:Holds q) (hk:J P f root Γ Q (.ops p (i+1)::k) st'):J P f root Γ Q (.ops p i::k) st:=by
 unfold Bj at h
 split at h
 · rename_i o ho
   split at h
   · rename_i hg
     intro hT V a w r
     have hi:i<(opsOf (sub root p)).size:=(Array.getElem?_eq_some_iff.1 ho).1
     have hsz:(opsOf (sub root p)).size - i=((opsOf (sub root p)).size - (i+1))+1:=by omega
     simp only [az,PI.den]
     rw [hsz,bC]
     exact jm ⟨ht,hT⟩ r ho (by simp only [Region.wanted,hg]) h hq fun V' a' w' r'=>hk hT V' a' w' r'
   · cases h
 · cases h
/-! ### lists, alike -/
abbrev zUr2:List PI:=[.code [1,0,1,0,0],.inLoop [1,0,1,0,0],.inBlock 0,.code [1,1]]
theorem LM (l:List Cell) (Γ:Ctx) (hl:l.length≤maxLen)  : ∀ (n k:Nat),l.length - k≤n→k≤l.length →
 J Tryz.prog 199 (au Tryz.f199) Γ (Eq2 (.x (.b (jM (l.drop k)))) []) zUr2 ({ n:=16,fr:=[(0,.p (.lst .cell l)),(2,.p (.bool false)),(3,.i k)],ck:=[],kn:=[2] }):=by
 intro n
 induction n with
 | zero=>?_
 | succ n ih=>?_
 all_goals
  intro k hn hk
  refine jg a6 Tryz.func199 (.ite (decide ((k:Int)<(l.length:Int))) (.need (inRg k l.length) (.ite (Cell.op (ETy.get .cell l k)==(6:Int)) (.ret (.p (.bool true)) []) (.stop zUr2 { n:=16,fr:=[(0,.p (.lst .cell l)),(2,.p (.bool false)),(3,.i (IntKind.wrap .i64 ((k:Int)+1)))],ck:=[],kn:=[2] }))) (.ret (.p (.bool false)) [])) ?_
  refine ⟨fun hlt=>?_,fun hge=>?_⟩
  · have hk':k<l.length:=by have:=of_decide_eq_true hlt; omega
    rw [bz (t:=.cell) (l:=l) hk']
    refine ⟨by omega,?_⟩
    generalize ETy.get .cell l k=v
    have e:jM (v::l.drop (k+1))=(v.op==6||jM (l.drop (k+1))):=c5
    rw [e]
    refine ⟨fun hb=>⟨?_,rfl⟩,fun hb=>?_⟩
    · have hb':(v.op==6)=true:=hb
      rw [hb']; rfl
    · have hb':(v.op==6)=false:=hb
      rw [hb',ba]; (rw [aW (aA hk' hl)]; first | (exfalso; omega) | exact J.kn [2] (ih (k+1) (by omega) (by omega)))
  · rw [bN (l:=l) (by have:=of_decide_eq_false hge; omega)]
    exact ⟨rfl,rfl⟩
theorem Lm (l:List Cell):ah Tryz.prog 199 [.l .cell (l)] [] (.x (.b (jM l))) []:=by
 refine dg a6 Tryz.func199 (.stop zUr2 { n:=16,fr:=[(0,.p (.lst .cell l)),(2,.p (.bool false)),(3,.i 0)],ck:=[],kn:=[2] }) fun Γ=>?_
 exact J.len 0 rfl fun hl=>LM l Γ hl l.length 0 (by omega) (by omega)
def rE:Ent:=(199,fun
 | [.c (.pd (.lst .cell l))],[]=>some (none,.x (.c (.pd (.bool (jM l)))),[])
 | _,_=>none)
theorem EI:EntOk Tryz.prog rE:=entOk fun vs ck=>by
 unfold rE; dsimp only; split
 · rename_i l; exact entS fun hp=>Lm l
 · exact entN
def Br:Cfg:=⟨aZ,[oK,mv,rE,lP]⟩
theorem BX:ag Tryz.prog Br.tab:=(ag.cons mN (ag.cons sw (ag.cons EI (ag.cons yn ag.nil))))
theorem D4 (d:Deed):ah Tryz.prog 169 [.e .deed d] [] (.x (.b (eR d))) []:=by
 refine dg BX Tryz.func169 (.ite (d.kind==(1:Int)) (.ret (.p (.bool (bf d.name&&dQ d.expr && !jM d.expr))) []) (.ret (.p (.bool ((d.kind==(2:Int)||d.kind==(3:Int))&&gr d.name&&(d.expr.length:Int)==0))) [])) fun Γ=>?_
 unfold eR oI
 refine ⟨fun h=>?_,fun h=>?_⟩
 · rw [h,cond_true,← Bool.and_assoc]; exact ⟨rfl,rfl⟩
 · rw [h,cond_false]
   cases h2:(d.kind==2||d.kind==3)
   · rw [aO,aO]; exact ⟨rfl,rfl⟩
   · rw [aU]; exact ⟨rfl,rfl⟩
def vN:Ent:=(169,fun
 | [.agg [.pd (.int .i64 a),.pd (.str b),.pd (.lst .cell d)]],[]=>some (none,.x (.c (.pd (.bool (eR ⟨a,b,d⟩)))),[])
 | _,_=>none)
theorem HR:EntOk Tryz.prog vN:=entOk fun vs ck=>by
 unfold vN; dsimp only; split
 · rename_i a b d; exact entS fun hp=>D4 ⟨a,b,d⟩
 · exact entN
def oF:Cfg:=⟨aZ,[vN]⟩
theorem oj:ag Tryz.prog oF.tab:=(ag.cons HR ag.nil)
abbrev zUr1:List PI:=[.code [1,1,0,1,0,0],.inLoop [1,1,0,1,0,0],.inBlock 0,.code [1,1,1]]
theorem Ia (l:List Deed) (Γ:Ctx) (hl:l.length≤maxLen)  : ∀ (n k:Nat),l.length - k≤n→k≤l.length →
 J Tryz.prog 128 (au Tryz.f128) Γ (Eq2 (.x (.b ((l.drop k).all eR))) []) zUr1 ({ n:=24,fr:=[(0,.p (.lst .deed l)),(2,.p (.bool false)),(3,.i k)],ck:=[],kn:=[2] }):=by
 intro n
 induction n with
 | zero=>?_
 | succ n ih=>?_
 all_goals
  intro k hn hk
  refine jg oj Tryz.func128 (.ite (decide ((k:Int)<(l.length:Int))) (.need (inRg k l.length) (.ite (!eR (ETy.get .deed l k)) (.ret (.p (.bool false)) []) (.stop zUr1 { n:=24,fr:=[(0,.p (.lst .deed l)),(2,.p (.bool false)),(3,.i (IntKind.wrap .i64 ((k:Int)+1)))],ck:=[],kn:=[2] }))) (.ret (.p (.bool true)) [])) ?_
  refine ⟨fun hlt=>?_,fun hge=>?_⟩
  · have hk':k<l.length:=by have:=of_decide_eq_true hlt; omega
    rw [bz (t:=.deed) (l:=l) hk']
    refine ⟨by omega,?_⟩
    generalize ETy.get .deed l k=v
    rw [dE]
    refine ⟨fun hb=>⟨?_,rfl⟩,fun hb=>?_⟩
    · have hb':eR v=false:=nt hb
      rw [hb']; rfl
    · have hb':eR v=true:=nf hb
      rw [hb',aU]; (rw [aW (aA hk' hl)]; first | (exfalso; omega) | exact J.kn [2] (ih (k+1) (by omega) (by omega)))
  · rw [bN (l:=l) (by have:=of_decide_eq_false hge; omega)]
    exact ⟨rfl,rfl⟩
theorem Az (l:List Deed):ah Tryz.prog 128 [.l .deed l] [] (.x (.b (fE l))) []:=by
 refine dg oj Tryz.func128 (.ite (decide ((l.length:Int)<1)||decide ((l.length:Int)>8)) (.ret (.p (.bool false)) []) (.stop zUr1 { n:=24,fr:=[(0,.p (.lst .deed l)),(2,.p (.bool false)),(3,.i 0)],ck:=[],kn:=[2] })) fun Γ=>?_
 refine ⟨fun h=>⟨?_,rfl⟩,fun h=>?_⟩
 · have:fE l=false:=by
    unfold fE
    simp only [aL,decide_eq_true_eq] at h
    cases l.all eR
    · rfl
    · rw [aU,cB]
      rcases h with h | h
      · left; exact decide_eq_false (by omega)
      · right; exact decide_eq_false (by omega)
   rw [this]
 · simp only [ay,decide_eq_false_iff_not] at h
   have:fE l=(l.drop 0).all eR:=by
    unfold fE
    rw [decide_eq_true (show (l.length:Int)>0 by omega),decide_eq_true (show (l.length:Int)≤8 by omega)]; simp
   rw [this]
   exact J.len 0 rfl fun hl=>Ia l Γ hl l.length 0 (by omega) (by omega)
def pA:Ent:=(128,fun
 | [.c (.pd (.lst .deed l))],[]=>some (none,.x (.c (.pd (.bool (fE l)))),[])
 | _,_=>none)
theorem CZ:EntOk Tryz.prog pA:=entOk fun vs ck=>by
 unfold pA; dsimp only; split
 · rename_i l; exact entS fun hp=>Az l
 · exact entN
theorem Cr (k:Int):ah Tryz.prog 76 [.i k] [] (.x (.b (aM k))) []:=by
 refine dg a6 Tryz.func76 (.ret (.p (.bool (k==(5:Int)||k==(6:Int)))) []) fun Γ=>?_
 exact ⟨rfl,rfl⟩
def mD:Ent:=(76,fun
 | [.c (.pd (.int .i64 k))],[]=>some (none,.x (.c (.pd (.bool (aM k)))),[])
 | _,_=>none)
theorem oD:EntOk Tryz.prog mD:=entOk fun vs ck=>by
 unfold mD; dsimp only; split
 · rename_i k; exact entS fun hp=>Cr k
 · exact entN
variable (l:List Ev.Stat) (b:Bool) (e:Int) (n s:Str)
def bU:Int:=if b=true then 0 else e
def av:Int:=aE (fun s:Ev.Stat=>s.name==n) l 0
theorem Dv:ah Tryz.prog 80 [.b b,.i e] [] (.x (.i (bU b e))) []:=by
 refine dg a6 Tryz.func80 (.ite b (.ret (.i 0) []) (.ret (.i e) [])) fun Γ=>?_
 refine ⟨fun h=>?_,fun h=>?_⟩
 · unfold bU; rw [if_pos h]; exact ⟨rfl,rfl⟩
 · unfold bU; rw [if_neg (by rw [h]; decide)]; exact ⟨rfl,rfl⟩
def kK:Ent:=(80,fun
 | [.c (.pd (.bool b)),.c (.pd (.int .i64 e))],[]=>some (none,.x (.c (.pd (.int .i64 (bU b e)))),[])
 | _,_=>none)
theorem jy:EntOk Tryz.prog kK:=entOk fun vs ck=>by
 unfold kK; dsimp only; split
 · rename_i b e; exact entS fun hp=>Dv b e
 · exact entN
/-! ### a state's place -/
theorem Hu (s:Ev.Stat) (n:Str):ah Tryz.prog 98 [.e .stat s,.p (.ref .str n 0)] [] (.x (.b (s.name==n))) []:=by
 refine dg a6 Tryz.func98 (.ret (.p (.bool (s.name==n))) []) fun Γ=>⟨rfl,rfl⟩
def DN:Ent:=(98,fun
 | [.agg [.pd (.str a),.pd (.int .i64 b),.pd (.int .i64 c),.pd (.str d),.pd (.lst .deed e),.pd (.lst .deed f)],.c (.pd (.ref .str n 0))],[]=>some (none,.x (.c (.pd (.bool (a==n)))),[])
 | _,_=>none)
theorem L0:EntOk Tryz.prog DN:=entOk fun vs ck=>by
 unfold DN; dsimp only; split
 · rename_i a b c d e f n; exact entS fun hp=>Hu ⟨a,b,c,d,e,f⟩ n
 · exact entN
def yO:Cfg:=⟨aZ,[DN]⟩
theorem vl:ag Tryz.prog yO.tab:=(ag.cons L0 ag.nil)
abbrev zTf1:List PI:=[.code [1,0,1,0,0],.inLoop [1,0,1,0,0],.inBlock 0,.code [1,1]]
theorem JK (Γ:Ctx) (hl:l.length≤maxLen)  : ∀ (n k:Nat),l.length - k≤n→k≤l.length →
 J Tryz.prog 97 (au Tryz.f97) Γ (Eq2 (.x (.i (aE (fun v:Ev.Stat=>v.name==s) (l.drop k) k))) []) zTf1 ({ n:=19,fr:=[(0,.p (.lst .stat l)),(1,.x (.c (.fn (.func 98) [] [.pd (.ref .str s 0)]))),(4,.i 0),(7,.i l.length),(8,.i k)],ck:=[] }):=by
 intro n
 induction n with
 | zero=>?_
 | succ n ih=>?_
 all_goals
  intro k hn hk
  refine jg vl Tryz.func97 (.ite (decide ((k:Int)<(l.length:Int))) (.need (inRg k l.length) (.ite (Stat.name (ETy.get .stat l k)==s) (.ret (.i k) []) (.stop zTf1 { n:=19,fr:=[(0,.p (.lst .stat l)),(1,.x (.c (.fn (.func 98) [] [.pd (.ref .str s 0)]))),(4,.i 0),(7,.i l.length),(8,.i (IntKind.wrap .i64 ((k:Int)+1)))],ck:=[] }))) (.ret (.i (-1:Int)) [])) ?_
  refine ⟨fun hlt=>?_,fun hge=>?_⟩
  · have hk':k<l.length:=by have:=of_decide_eq_true hlt; omega
    rw [bz (t:=.stat) (l:=l) hk']
    refine ⟨by omega,?_⟩
    generalize ETy.get .stat l k=v
    refine ⟨fun hb=>⟨?_,rfl⟩,fun hb=>?_⟩
    · simp only [aE,hb,cond_true]
    · simp only [aE,hb,cond_false]; (rw [aW (aA hk' hl)]; first | (exfalso; omega) | exact ih (k+1) (by omega) (by omega))
  · rw [bN (l:=l) (by have:=of_decide_eq_false hge; omega)]
    exact ⟨rfl,rfl⟩
theorem Hx:ah Tryz.prog 97 [.l .stat (l),SX.c (SC.fn (Fn.func 98) [] [RC.pd (PD.ref ETy.str s 0)])] [] (.x (.i (aE (fun v:Ev.Stat=>v.name==s) l 0))) []:=by
 refine dg vl Tryz.func97 (.stop zTf1 { n:=19,fr:=[(0,.p (.lst .stat l)),(1,.x (.c (.fn (.func 98) [] [.pd (.ref .str s 0)]))),(4,.i 0),(7,.i l.length),(8,.i 0)],ck:=[] }) fun Γ=>?_
 exact J.len 0 rfl fun hl=>JK l s Γ hl l.length 0 (by omega) (by omega)
def Cu:Ent:=(97,fun
 | [.c (.pd (.lst .stat l)),.c (.fn (.func 98) [] [.pd (.ref .str s 0)])],[]=>some (none,.x (.c (.pd (.int .i64 (aE (fun v:Ev.Stat=>v.name==s) l 0)))),[])
 | _,_=>none)
theorem MM:EntOk Tryz.prog Cu:=entOk fun vs ck=>by
 unfold Cu; dsimp only; split
 · rename_i l s; exact entS fun hp=>Hx l s
 · exact entN
def G1:Cfg:=⟨aZ,[Cu]⟩
theorem Er:ag Tryz.prog G1.tab:=(ag.cons MM ag.nil)
theorem DY (c:Chart) (n:Str):ah Tryz.prog 36 [.e .chart c,.s n] [] (.x (.i (av c.states n))) []:=by
 refine dg Er Tryz.func36 (.ret (.i (aE (fun v=>v.name==n) c.states (0:Int))) []) fun Γ=>?_
 exact ⟨rfl,rfl⟩
def ki:Ent:=(36,fun
 | [.agg [.pd (.str a),.pd (.lst .str b),.pd (.lst .var c),.pd (.lst .stat d),.pd (.lst .tran e)],.c (.pd (.str n))],[]=>some (none,.x (.c (.pd (.int .i64 (av d n)))),[])
 | _,_=>none)
theorem j3:EntOk Tryz.prog ki:=entOk fun vs ck=>by
 unfold ki; dsimp only; split
 · rename_i a b c d e n; exact entS fun hp=>DY ⟨a,b,c,d,e⟩ n
 · exact entN
end Go.Proofs.YtgfifkhbfdacjaaGreatDoor
namespace Go.Ev
open Ieee
theorem log2_lt {a n:Nat} (h0:a≠0) (h:a<2 ^ n):a.log2<n:=(Nat.log2_lt h0).2 h
theorem ld {a:Nat} (h0:a≠0) (k:Nat):(a * 2 ^ k).log2=a.log2+k:=by
 have h1:=Nat.log2_self_le h0
 have h2:a<2 ^ (a.log2+1):=Nat.lt_log2_self
 have hne:a * 2 ^ k≠0:=Nat.mul_ne_zero h0 (Nat.ne_of_gt (dn k))
 have ha:2 ^ (a.log2+k)≤a * 2 ^ k:=by rw [ez]; exact bI _ h1
 have hb:a * 2 ^ k<2 ^ (a.log2+k+1):=by
  rw [show a.log2+k+1=a.log2+1+k from by omega,ez]
  exact Nat.mul_lt_mul_of_pos_right h2 (dn k)
 have g1:a.log2+k≤(a * 2 ^ k).log2:=(Nat.le_log2 hne).2 ha
 have g2:(a * 2 ^ k).log2<a.log2+k+1:=(Nat.log2_lt hne).2 hb
 omega
theorem vv (neg:Bool) (n:Nat):Toward.even.cut neg n 0=n:=by
 simp [Toward.cut,Nat.mod_one]
theorem s9 (neg:Bool) (b d:Nat) (hb:b≠0):Toward.even.cut neg (b * 2 ^ d) d=b:=by
 have hl:=ld hb d
 have hmin:min d ((b * 2 ^ d).log2+2)=d:=by rw [hl]; omega
 have hg:(1:Nat) <<< d=2 ^ d:=by rw [Nat.shiftLeft_eq,Nat.one_mul]
 have hpos:=dn d
 simp only [Toward.cut,hmin,hg,Nat.mul_div_cancel _ hpos,Nat.mul_mod_left]
 have h2:(2 ^ d==2 * 0)=false:=by simp
 simp [h2]
theorem iw:double.leastPlace = -1074:=by decide
theorem nK:double.binade=4503599627370496:=by decide
theorem mM:double.infRung=9218868437227405312:=by decide
theorem kE:double.signWeight=9223372036854775808:=by decide
theorem sO (neg:Bool) (r:Nat) (hr:r<9223372036854775808):double.word neg r / 9223372036854775808 % 2=neg.toNat∧double.word neg r % 9223372036854775808=r:=by
 have hw:double.word neg r=if neg then 9223372036854775808+r else r:=by unfold Format.word; rw [kE]
 rw [hw]
 cases neg
 · simp only [cP,if_false,Bool.toNat_false]; omega
 · simp only [if_true,Bool.toNat_true]; omega
theorem Bf (x:Nat):double.read x=if x % 9223372036854775808<4503599627370496 then .number (x / 9223372036854775808 % 2==1) (x % 9223372036854775808) (-1074)
 else if x % 9223372036854775808<9218868437227405312 then .number (x / 9223372036854775808 % 2==1) (4503599627370496+x % 9223372036854775808 % 4503599627370496) (-1074+(x % 9223372036854775808 / 4503599627370496 - 1:Nat))
 else if x % 9223372036854775808=9218868437227405312 then .infinity (x / 9223372036854775808 % 2==1) else .nan (x / 9223372036854775808 % 2==1) (x % 9223372036854775808 - 9218868437227405312):=by
 unfold Format.read
 simp only [kE,nK,mM,iw]
theorem Fq (neg:Bool) (q f:Nat) (hq:1≤q) (hq2:q<2047) (hf:f<4503599627370496):double.read (double.word neg (q * 4503599627370496+f)) = .number neg (4503599627370496+f) (-1074+((q - 1:Nat):Int)):=by
 have hr:q * 4503599627370496+f<9223372036854775808:=by omega
 obtain ⟨h1,h2⟩:=sO neg _ hr
 have c1:¬(q * 4503599627370496+f<4503599627370496):=by omega
 have c2:q * 4503599627370496+f<9218868437227405312:=by omega
 have c3:(q * 4503599627370496+f) % 4503599627370496=f:=by omega
 have c4:(q * 4503599627370496+f) / 4503599627370496=q:=by omega
 rw [Bf,h1,h2,if_neg c1,if_pos c2,c3,c4]
 cases neg <;> rfl
theorem xK (s:Bool) (a k:Nat) (h0:a≠0) (h:a<2 ^ 53):double.read (double.nearest s (a * 2 ^ k) (-(k:Int))) = .number s (a * 2 ^ (52 - a.log2)) ((a.log2:Int) - 52):=by
 have hl:=ld h0 k
 have hlt:=log2_lt h0 h
 have hne:a * 2 ^ k≠0:=Nat.mul_ne_zero h0 (Nat.ne_of_gt (dn k))
 have hlast:max (-(k:Int)+((a * 2 ^ k).log2:Int) - (double.fractionBits:Int)) double.leastPlace=(a.log2:Int) - 52:=by
  rw [hl,iw]
  have:(double.fractionBits:Int)=52:=rfl
  rw [this]; omega
 have hkept:Toward.even.cut s ((a * 2 ^ k) <<< (-(k:Int) - ((a.log2:Int) - 52)).toNat) (((a.log2:Int) - 52) - -(k:Int)).toNat=a * 2 ^ (52 - a.log2):=by
  rcases Nat.le_total (k+a.log2) 52 with hc | hc
  · have e1:(-(k:Int) - ((a.log2:Int) - 52)).toNat=52 - a.log2 - k:=by omega
    have e2:(((a.log2:Int) - 52) - -(k:Int)).toNat=0:=by omega
    rw [e1,e2,vv,Nat.shiftLeft_eq,Nat.mul_assoc,← ez]
    congr 2; omega
  · have e1:(-(k:Int) - ((a.log2:Int) - 52)).toNat=0:=by omega
    have e2:(((a.log2:Int) - 52) - -(k:Int)).toNat=k+a.log2 - 52:=by omega
    rw [e1,e2,Nat.shiftLeft_zero]
    have e3:a * 2 ^ k=a * 2 ^ (52 - a.log2) * 2 ^ (k+a.log2 - 52):=by
     rw [Nat.mul_assoc,← ez]; congr 2; omega
    rw [e3]
    exact s9 s _ _ (Nat.mul_ne_zero h0 (Nat.ne_of_gt (dn _)))
 have hk1:2 ^ 52≤a * 2 ^ (52 - a.log2):=by
  have h1:=Nat.log2_self_le h0
  have:2 ^ 52=2 ^ a.log2 * 2 ^ (52 - a.log2):=by rw [← ez]; congr 1; omega
  rw [this]; exact bI _ h1
 have hk2:a * 2 ^ (52 - a.log2)<2 ^ 53:=by
  have h2:a<2 ^ (a.log2+1):=Nat.lt_log2_self
  have:2 ^ 53=2 ^ (a.log2+1) * 2 ^ (52 - a.log2):=by rw [← ez]; congr 1; omega
  rw [this]; exact Nat.mul_lt_mul_of_pos_right h2 (dn _)
 have hn:double.nearest s (a * 2 ^ k) (-(k:Int))=double.word s (min (((a.log2:Int) - 52 - -1074).toNat * 4503599627370496+a * 2 ^ (52 - a.log2)) 9218868437227405312):=by
  unfold Format.nearest
  rw [if_neg hne]
  dsimp only
  rw [hlast,hkept,iw,nK,mM]
 rw [hn]
 clear hn hkept hlast
 have p52:(2:Nat) ^ 52=4503599627370496:=by decide
 have p53:(2:Nat) ^ 53=9007199254740992:=by decide
 rw [p52] at hk1
 rw [p53] at hk2
 generalize a * 2 ^ (52 - a.log2)=m at hk1 hk2 ⊢
 have e4:((a.log2:Int) - 52 - -1074).toNat=a.log2+1022:=by omega
 rw [e4]
 have e5:min ((a.log2+1022) * 4503599627370496+m) 9218868437227405312=(a.log2+1023) * 4503599627370496+(m - 4503599627370496):=by omega
 rw [e5,Fq s (a.log2+1023) (m - 4503599627370496) (by omega) (by omega) (by omega)]
 have e6:4503599627370496+(m - 4503599627370496)=m:=by omega
 have e7:(-1074:Int)+((a.log2+1023 - 1:Nat):Int)=(a.log2:Int) - 52:=by omega
 rw [e6,e7]
theorem Ad (s:Bool) (p:Int):double.read (double.nearest s 0 p) = .number s 0 (-1074):=by
 have:double.nearest s 0 p=double.word s 0:=by unfold Format.nearest; rw [if_pos rfl]
 obtain ⟨h1,h2⟩:=sO s 0 (by omega)
 rw [this,Bf,h1,h2,if_pos (by omega)]
 cases s <;> rfl
end Go.Ev
namespace Go.Ev
open Ieee
def isI (x:Nat) (n:Int):Prop:=∃ (s:Bool) (k:Nat),double.read x = .number s (n.natAbs * 2 ^ k) (-(k:Int))∧(n<0→s=true)∧(0<n→s=false)
theorem Av (s:Bool) (n:Int) (k:Nat) (h:n.natAbs<2 ^ 53) (h1:n<0→s=true) (h2:0<n→s=false):isI (double.nearest s (n.natAbs * 2 ^ k) (-(k:Int))) n:=by
 by_cases h0:n.natAbs=0
 · obtain ⟨q,hq⟩:∃ q:Nat,(-1074:Int) = -(q:Int):=⟨1074,rfl⟩
   refine ⟨s,q,?_,h1,h2⟩
   rw [h0,Nat.zero_mul,Nat.zero_mul,Ad,hq]
 · have hlt:=log2_lt h0 h
   refine ⟨s,52 - n.natAbs.log2,?_,h1,h2⟩
   rw [xK s _ k h0 h]
   congr 1
   omega
theorem j7 (n:Int) (h:n.natAbs<2 ^ 53):isI (FloatKind.f64.nearest n) n:=by
 have:=Av (decide (n<0)) n 0 h (fun h=>by simpa using h) (fun h=>by simp; omega)
 simpa [FloatKind.nearest,FloatKind.encode,FloatKind.format,Format.write] using this
theorem nB (s:Bool) (n:Int) (j:Nat) (h1:n<0→s=true) (h2:0<n→s=false) (m:Nat) (hm:m=n.natAbs * 2 ^ j) (u:Nat):signed s m u=n * 2 ^ (j+u):=by
 subst hm
 unfold signed
 rw [Nat.shiftLeft_eq,Nat.mul_assoc,← ez]
 cases s
 · have:0≤n:=by
    rcases Int.lt_or_le n 0 with h | h
    · exact absurd (h1 h) (by simp)
    · exact h
   simp only [cP,if_false,Int.natCast_mul,Int.natCast_pow]
   congr 1; omega
 · have:n≤0:=by
    rcases Int.lt_or_le 0 n with h | h
    · exact absurd (h2 h) (by simp)
    · exact h
   simp only [if_true,Int.natCast_mul,Int.natCast_pow]
   rw [← Int.neg_mul]
   congr 1; omega
theorem tz (k l:Nat):min (-(k:Int)) (-(l:Int)) = -((max k l:Nat):Int):=by omega
end Go.Ev
namespace Go.Ev
open Ieee
theorem vH (a b c:Int) (hc:0<c):compare (a * c) (b * c)=compare a b:=by
 rcases Int.lt_trichotomy a b with h | h | h
 · rw [Int.compare_eq_lt.2 h,Int.compare_eq_lt.2 (Int.mul_lt_mul_of_pos_right h hc)]
 · subst h; simp
 · rw [Int.compare_eq_gt.2 h,Int.compare_eq_gt.2 (Int.mul_lt_mul_of_pos_right h hc)]
theorem s7 {x y:Nat} {n m:Int} (hx:isI x n) (hy:isI y m):fc x y=some (compare n m):=by
 obtain ⟨s,k,e1,a1,a2⟩:=hx
 obtain ⟨t,l,e2,b1,b2⟩:=hy
 have g1:=nB s n k a1 a2 _ rfl ((-(k:Int)) - -((max k l:Nat):Int)).toNat
 have g2:=nB t m l b1 b2 _ rfl ((-(l:Int)) - -((max k l:Nat):Int)).toNat
 have u1:k+((-(k:Int)) - -((max k l:Nat):Int)).toNat=max k l:=by omega
 have u2:l+((-(l:Int)) - -((max k l:Nat):Int)).toNat=max k l:=by omega
 rw [u1] at g1
 rw [u2] at g2
 have hpos:(0:Int)<2 ^ (max k l):=Int.pow_pos (by decide)
 simp only [fc,FloatKind.format,Format.order,e1,e2,Datum.order,tz,g1,g2,vH _ _ _ hpos]
theorem GB {x:Nat} {n:Int} (hx:isI x n):(FloatKind.f64.decode x).toInt .zero=some n:=by
 obtain ⟨s,k,e1,a1,a2⟩:=hx
 have hcut:Toward.zero.cut s (n.natAbs * 2 ^ k) k=n.natAbs:=by
  by_cases h0:n.natAbs=0
  · rw [h0]; simp [Toward.cut]
  · have hl:=ld h0 k
    have hmin:min k ((n.natAbs * 2 ^ k).log2+2)=k:=by rw [hl]; omega
    have hg:(1:Nat) <<< k=2 ^ k:=by rw [Nat.shiftLeft_eq,Nat.one_mul]
    simp only [Toward.cut,hmin,hg,Nat.mul_div_cancel _ (dn k)]
    simp
 have e2:(FloatKind.f64.decode x) = .number s (n.natAbs * 2 ^ k) (-(k:Int)):=e1
 have u1:(-(k:Int)).toNat=0:=by omega
 have u2:(- -(k:Int)).toNat=k:=by omega
 simp only [e2,Datum.toInt,Datum.integral,u1,u2,Nat.shiftLeft_zero,hcut]
 have:=nB s n 0 a1 a2 n.natAbs (by simp) 0
 simp only [cc] at this
 rw [this]; simp
theorem Kf {x:Nat} {n:Int} (hx:isI x n):nX x=n:=by simp [nX,GB hx]
end Go.Ev
namespace Go.Ev
open Ieee
def inB (x:Nat):Bool:=(fc x 13920626448202203136==some .gt||fc x 13920626448202203136==some .eq)&&(fc x 4697254411347427328==some .lt||fc x 4697254411347427328==some .eq)
def rR (x:Nat):Bool:=inB x&&fc x (FloatKind.f64.nearest (nX x))==some .eq
def pIn (a:Int):Bool:=decide (-1048576≤a)&&decide (a≤1048576)
theorem HT:FloatKind.f64.nearest (-1048576)=13920626448202203136:=by decide
theorem EW:FloatKind.f64.nearest 1048576=4697254411347427328:=by decide
theorem K9:isI 13920626448202203136 (-1048576):=HT ▸ j7 (-1048576) (by decide)
theorem JR:isI 4697254411347427328 1048576:=EW ▸ j7 1048576 (by decide)
theorem cu {x:Nat}:inB x=true↔(fc x 13920626448202203136=some .gt∨fc x 13920626448202203136=some .eq)∧(fc x 4697254411347427328=some .lt∨fc x 4697254411347427328=some .eq):=by
 simp [inB]
theorem tP {a:Int} (h:pIn a=true):a.natAbs≤1048576:=by
 simp only [pIn,af,decide_eq_true_eq] at h; omega
theorem Lb {x:Nat} {n:Int} (h:isI x n):inB x=pIn n:=by
 unfold inB
 rw [s7 h K9,s7 h JR]
 rw [bn]
 simp only [pIn,af,aL,beq_iff_eq,aa,decide_eq_true_eq,Int.compare_eq_gt,Int.compare_eq_lt,Int.compare_eq_eq]
 omega
theorem sW {x:Nat} {n:Int} (h:isI x n):rR x=pIn n:=by
 unfold rR
 rw [Lb h]
 cases hp:pIn n
 · rfl
 · have:=tP hp
   rw [Kf h,s7 h (j7 n (by omega))]
   simp
/-! ### points, by the bits of their parts -/
def xP (p:Nat×Nat):Bool:=rR p.1&&rR p.2
def num (n:Int):Nat:=FloatKind.f64.nearest n
def kM (a b:Int):Nat×Nat:=if pIn a&&pIn b then (num a,num b) else (0,0)
def kJ (a b:Int):Int:=if pIn a&&pIn b then 0 else 5
def isP (p:Nat×Nat) (a b:Int):Prop:=isI p.1 a∧isI p.2 b
theorem Gq {p:Nat×Nat} {a b:Int} (h:isP p a b):xP p=(pIn a&&pIn b):=by
 simp only [xP,sW h.1,sW h.2]
theorem MH {a b:Int} (ha:a.natAbs<2 ^ 53) (hb:b.natAbs<2 ^ 53):isP (num a,num b) a b:=⟨j7 a ha,j7 b hb⟩
end Go.Ev
