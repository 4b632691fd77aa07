/- Contracts: valid.Check's questions. Conditions: sizes. Contracts: valid.Check: each's loops. Conditions: sizes. -/
import Derived.Test.YtgfifkhbfdacjaaGreatDoorTm
namespace Go.Proofs.YtgfifkhbfdacjaaGreatDoor
open Go Go.Ev
set_option maxRecDepth 100000
def I1:Cfg:=⟨aY,[oM]⟩
theorem GB:ag Tryz.prog I1.tab:=(ag.cons AU ag.nil)
variable (c:Chart) (a:List Str) (i:Int) (b l:List Str)
def fF:List Str:=gJ [[c.name],c.events,a,b]
theorem KR (h:(fF c a b).length≤1000000):ah Tryz.prog 77 [.p (.ref .chart c 0),.p (.ref .strs a 0),.p (.ref .strs b 0)] [] (.x (.c (.own 0))) [.own 9 .str (fF c a b)]:=by
 refine dg GB Tryz.func77 (.need ((gJ [[c.name],c.events,a,b]).length≤1000000) (.ret (.x (.c (.own 0))) [.own 9 .str (gJ [[c.name],c.events,a,b])])) fun Γ=>?_
 exact ⟨h,rfl,rfl⟩
def eQ2:Ent:=(77,fun
 | [.c (.pd (.ref .chart c 0)),.c (.pd (.ref .strs a 0)),.c (.pd (.ref .strs b 0))],[]=>some (some ((fF c a b).length≤1000000),.x (.c (.own 0)),[.own 9 .str (fF c a b)])
 | _,_=>none)
theorem Ml:EntOk Tryz.prog eQ2:=entOk fun vs ck=>by
 unfold eQ2; dsimp only; split
 · rename_i c a b; exact entS fun hp=>KR c a b hp
 · exact entN
def EX:Cfg:=⟨aY,[jq]⟩
theorem De:ag Tryz.prog EX.tab:=(ag.cons ir ag.nil)
theorem Hx (s:Str):ah Tryz.prog 83 [.s s] [] (.x (.b (!aZ s))) []:=by
 refine dg De Tryz.func83 (.ret (.p (.bool !aZ s)) []) fun Γ=>⟨rfl,rfl⟩
def Ct:Ent:=(83,fun
 | [.c (.pd (.str s))],[]=>some (none,.x (.c (.pd (.bool (!aZ s)))),[])
 | _,_=>none)
theorem KT:EntOk Tryz.prog Ct:=entOk fun vs ck=>by
 unfold Ct; dsimp only; split
 · rename_i s; exact entS fun hp=>Hx s
 · exact entN
def Cx:Cfg:=⟨aY,[Ct]⟩
theorem vH:ag Tryz.prog Cx.tab:=(ag.cons KT ag.nil)
abbrev zTo1:List PI:=[.code [1,0,1,0,0],.inLoop [1,0,1,0,0],.inBlock 0,.code [1,1]]
theorem GT (Γ:Ctx) (hl:l.length≤maxLen)  : ∀ (n k:Nat),l.length - k≤n→k≤l.length →
 J Tryz.prog 133 (au Tryz.f133) Γ (Eq2 (.x (.i (aC (fun s:Str=>!aZ s) (l.drop k) k))) []) zTo1 ({ n:=19,fr:=[(0,.p (.lst .str l)),(1,.x (.c (.fn (.func 83) [] []))),(4,.i 0),(7,.i l.length),(8,.i k)],ck:=[] }):=by
 intro n
 induction n with
 | zero=>?_
 | succ n ih=>?_
 all_goals
  intro k hn hk
  refine jg vH Tryz.func133 (.ite (decide ((k:Int)<(l.length:Int))) (.need (inRg k l.length) (.ite (!aZ (ETy.get .str l k)) (.ret (.i k) []) (.stop zTo1 { n:=19,fr:=[(0,.p (.lst .str l)),(1,.x (.c (.fn (.func 83) [] []))),(4,.i 0),(7,.i l.length),(8,.i (IntKind.wrap .i64 ((k:Int)+1)))],ck:=[] }))) (.ret (.i (-1:Int)) [])) ?_
  refine ⟨fun hlt=>?_,fun hge=>?_⟩
  · have hk':k<l.length:=by have:=of_decide_eq_true hlt; omega
    rw [bD (t:=.str) (l:=l) hk']
    refine ⟨by omega,?_⟩
    generalize ETy.get .str l k=v
    refine ⟨fun hb=>⟨?_,rfl⟩,fun hb=>?_⟩
    · simp only [aC,hb,cond_true]
    · simp only [aC,hb,cond_false]; (rw [aX (aE hk' hl)]; first | (exfalso; omega) | exact ih (k+1) (by omega) (by omega))
  · rw [bO (l:=l) (by have:=of_decide_eq_false hge; omega)]
    exact ⟨rfl,rfl⟩
theorem GX:ah Tryz.prog 133 [.l .str (l),SX.c (SC.fn (Fn.func 83) [] [])] [] (.x (.i (aC (fun s:Str=>!aZ s) l 0))) []:=by
 refine dg vH Tryz.func133 (.stop zTo1 { n:=19,fr:=[(0,.p (.lst .str l)),(1,.x (.c (.fn (.func 83) [] []))),(4,.i 0),(7,.i l.length),(8,.i 0)],ck:=[] }) fun Γ=>?_
 exact J.len 0 rfl fun hl=>GT l Γ hl l.length 0 (by omega) (by omega)
def Bm:Ent:=(133,fun
 | [.c (.pd (.lst .str l)),.c (.fn (.func 83) [] [])],[]=>some (none,.x (.c (.pd (.int .i64 (aC (fun s:Str=>!aZ s) l 0)))),[])
 | _,_=>none)
theorem JM:EntOk Tryz.prog Bm:=entOk fun vs ck=>by
 unfold Bm; dsimp only; split
 · rename_i l; exact entS fun hp=>GX l
 · exact entN
def I7:Cfg:=⟨aY,[Bm]⟩
theorem IB:ag Tryz.prog I7.tab:=(ag.cons JM ag.nil)
theorem Lg:ah Tryz.prog 82 [.l .str l,.c (.fn (.func 83) [] [])] [] (.x (.b (l.any fun s:Str=>!aZ s))) []:=by
 refine dg IB Tryz.func82 (.ret (.p (.bool (decide (aC (fun s=>!aZ s) l (0:Int)≥0)))) []) fun Γ=>⟨?_,rfl⟩
 rw [hP _ _ _ (by omega)]
def eCf:Ent:=(82,fun
 | [.c (.pd (.lst .str l)),.c (.fn (.func 83) [] [])],[]=>some (none,.x (.c (.pd (.bool (l.any fun s:Str=>!aZ s)))),[])
 | _,_=>none)
theorem Mf:EntOk Tryz.prog eCf:=entOk fun vs ck=>by
 unfold eCf; dsimp only; split
 · rename_i l; exact entS fun hp=>Lg l
 · exact entN
def IY:Cfg:=⟨aY,[eQ2,eCf,ko]⟩
theorem GN:ag Tryz.prog IY.tab:=(ag.cons Ml (ag.cons Mf (ag.cons ji ag.nil)))
theorem Lc (h:(fF c a b).length≤1000000):ah Tryz.prog 81 [.p (.fnAt [(77,[.ref .chart c 0,.ref .strs a 0,.ref .strs b 0])] 0)] [] (.x (.i (bT (!(fF c a b).any fun s:Str=>!aZ s) 2))) []:=by
 refine dg GN Tryz.func81 (.need ((fF c a b).length≤1000000) (.ret (.i (bT (!List.any (fF c a b) fun s=>!aZ s) (2:Int))) [])) fun Γ=>?_
 exact ⟨h,rfl,rfl⟩
def eQ4:Ent:=(81,fun
 | [.c (.pd (.fnAt [(77,[.ref .chart c 0,.ref .strs a 0,.ref .strs b 0])] 0))],[]=>some (some ((fF c a b).length≤1000000),.x (.c (.pd (.int .i64 (bT (!(fF c a b).any fun s:Str=>!aZ s) 2)))),[])
 | _,_=>none)
theorem Mi:EntOk Tryz.prog eQ4:=entOk fun vs ck=>by
 unfold eQ4; dsimp only; split
 · rename_i c a b; exact entS fun hp=>Lc c a b hp
 · exact entN
def gW:Bool:=decide ((c.events.length:Int)≤12)&&decide ((c.vars.length:Int)≤8)&&decide ((c.states.length:Int)≤40)&&decide ((c.trans.length:Int)≤48)
def iV:Bool:=gu c.events&&gu a&&gu b
def Jh:Cfg:=⟨aY,[ko]⟩
theorem HG:ag Tryz.prog Jh.tab:=(ag.cons ji ag.nil)
theorem Kl:ah Tryz.prog 79 [.p (.ref .chart c 0)] [] (.x (.i (bT (gW c) 4))) []:=by
 refine dg HG Tryz.func79 (.ret (.i (bT (decide ((c.events.length:Int)≤12)&&decide ((c.vars.length:Int)≤8)&&decide ((c.states.length:Int)≤40)&&decide ((c.trans.length:Int)≤48)) (4:Int))) []) fun Γ=>⟨rfl,rfl⟩
def eQ3:Ent:=(79,fun
 | [.c (.pd (.ref .chart c 0))],[]=>some (none,.x (.c (.pd (.int .i64 (bT (gW c) 4)))),[])
 | _,_=>none)
theorem Ly:EntOk Tryz.prog eQ3:=entOk fun vs ck=>by
 unfold eQ3; dsimp only; split
 · rename_i c; exact entS fun hp=>Kl c
 · exact entN
def II:Cfg:=⟨aY,[uO,ko]⟩
theorem Iq:ag Tryz.prog II.tab:=(ag.cons HY (ag.cons ji ag.nil))
theorem K8 (h:c.events.length≤1000000∧a.length≤1000000∧b.length≤1000000):ah Tryz.prog 84 [.p (.ref .chart c 0),.p (.ref .strs a 0),.p (.ref .strs b 0)] [] (.x (.i (bT (iV c a b) 3))) []:=by
 refine dg Iq Tryz.func84 (.need (c.events.length≤1000000) (.need (gu c.events=true→a.length≤1000000) (.need ((gu c.events&&gu a)=true→b.length≤1000000) (.ret (.i (bT (gu c.events&&gu a&&gu b) (3:Int))) [])))) fun Γ=>?_
 exact ⟨h.1,fun _=>h.2.1,fun _=>h.2.2,rfl,rfl⟩
def eQ5:Ent:=(84,fun
 | [.c (.pd (.ref .chart c 0)),.c (.pd (.ref .strs a 0)),.c (.pd (.ref .strs b 0))],[]=>some (some (c.events.length≤1000000∧a.length≤1000000∧b.length≤1000000),.x (.c (.pd (.int .i64 (bT (iV c a b) 3)))),[])
 | _,_=>none)
theorem LA:EntOk Tryz.prog eQ5:=entOk fun vs ck=>by
 unfold eQ5; dsimp only; split
 · rename_i c a b; exact entS fun hp=>K8 c a b hp
 · exact entN
def I4:Cfg:=⟨aY,[mn,ko]⟩
theorem HS:ag Tryz.prog I4.tab:=(ag.cons qf (ag.cons ji ag.nil))
theorem KU (h:c.states.length≤maxLen):ah Tryz.prog 86 [.p (.ref .chart c 0)] [] (.x (.i (bT (bZ c.states) 9))) []:=by
 refine dg HS Tryz.func86 (.need (c.states.length≤maxLen) (.ret (.i (bT (bZ c.states) (9:Int))) [])) fun Γ=>?_
 exact ⟨h,rfl,rfl⟩
def eQ6:Ent:=(86,fun
 | [.c (.pd (.ref .chart c 0))],[]=>some (some (c.states.length≤maxLen),.x (.c (.pd (.int .i64 (bT (bZ c.states) 9)))),[])
 | _,_=>none)
theorem Mc:EntOk Tryz.prog eQ6:=entOk fun vs ck=>by
 unfold eQ6; dsimp only; split
 · rename_i c; exact entS fun hp=>KU c hp
 · exact entN
def qF:Cfg:=⟨aY,[qH,uI,uP,Bz]⟩
theorem mH:ag Tryz.prog qF.tab:=(ag.cons DJ (ag.cons Ho (ag.cons F8 (ag.cons Kz ag.nil))))
theorem JH (h:0≤i∧i<(c.states.length:Int)∧c.states.length≤maxLen):ah Tryz.prog 88 [.i i,.p (.ref .chart c 0)] [] (.x (.i (dd c.states i.toNat))) []:=by
 refine dg mH Tryz.func88 (.need ((0:Int)≤i∧i<(c.states.length:Int)∧c.states.length≤maxLen) (.ret (.i (dd c.states (Int.toNat i))) [])) fun Γ=>⟨h,rfl,rfl⟩
def eQ7:Ent:=(88,fun
 | [.c (.pd (.int .i64 i)),.c (.pd (.ref .chart c 0))],[]=>some (some (0≤i∧i<(c.states.length:Int)∧c.states.length≤maxLen),.x (.c (.pd (.int .i64 (dd c.states i.toNat)))),[])
 | _,_=>none)
theorem L9:EntOk Tryz.prog eQ7:=entOk fun vs ck=>by
 unfold eQ7; dsimp only; split
 · rename_i i c; exact entS fun hp=>JH c i hp
 · exact entN
theorem Lf (h:0≤i∧i<(c.vars.length:Int)):ah Tryz.prog 90 [.i i,.p (.ref .chart c 0)] [] (.x (.i (dY (ETy.get .var c.vars i.toNat)))) []:=by
 refine dg mH Tryz.func90 (.need ((0:Int)≤i∧i<(c.vars.length:Int)) (.ret (.i (dY (ETy.get .var c.vars (Int.toNat i)))) [])) fun Γ=>⟨h,rfl,rfl⟩
def eQ8:Ent:=(90,fun
 | [.c (.pd (.int .i64 i)),.c (.pd (.ref .chart c 0))],[]=>some (some (0≤i∧i<(c.vars.length:Int)),.x (.c (.pd (.int .i64 (dY (ETy.get .var c.vars i.toNat))))),[])
 | _,_=>none)
theorem L0:EntOk Tryz.prog eQ8:=entOk fun vs ck=>by
 unfold eQ8; dsimp only; split
 · rename_i i c; exact entS fun hp=>Lf c i hp
 · exact entN
theorem Js (h:0≤i∧i<(c.states.length:Int)):ah Tryz.prog 92 [.i i,.p (.ref .chart c 0)] [] (.x (.i (cQ c (ETy.get .stat c.states i.toNat)))) []:=by
 refine dg mH Tryz.func92 (.need ((0:Int)≤i∧i<(c.states.length:Int)) (.ret (.i (cQ c (ETy.get .stat c.states (Int.toNat i)))) [])) fun Γ=>⟨h,rfl,rfl⟩
def eQ9:Ent:=(92,fun
 | [.c (.pd (.int .i64 i)),.c (.pd (.ref .chart c 0))],[]=>some (some (0≤i∧i<(c.states.length:Int)),.x (.c (.pd (.int .i64 (cQ c (ETy.get .stat c.states i.toNat))))),[])
 | _,_=>none)
theorem LO:EntOk Tryz.prog eQ9:=entOk fun vs ck=>by
 unfold eQ9; dsimp only; split
 · rename_i i c; exact entS fun hp=>Js c i hp
 · exact entN
theorem Hi (h:0≤i∧i<(c.trans.length:Int)∧c.states.length≤maxLen∧c.trans.length≤maxLen):ah Tryz.prog 94 [.i i,.p (.ref .chart c 0),.p (.ref .strs l 0)] [] (.x (.i (cK c i.toNat l (ETy.get .tran c.trans i.toNat)))) []:=by
 refine dg mH Tryz.func94 (.need ((0:Int)≤i∧i<(c.trans.length:Int)∧c.states.length≤maxLen∧c.trans.length≤maxLen) (.ret (.i (cK c (Int.toNat i) l (ETy.get .tran c.trans (Int.toNat i)))) [])) fun Γ=>⟨h,rfl,rfl⟩
def AY:Ent:=(94,fun
 | [.c (.pd (.int .i64 i)),.c (.pd (.ref .chart c 0)),.c (.pd (.ref .strs l 0))],[]=>some (some (0≤i∧i<(c.trans.length:Int)∧c.states.length≤maxLen∧c.trans.length≤maxLen),.x (.c (.pd (.int .i64 (cK c i.toNat l (ETy.get .tran c.trans i.toNat))))),[])
 | _,_=>none)
theorem JA:EntOk Tryz.prog AY:=entOk fun vs ck=>by
 unfold AY; dsimp only; split
 · rename_i i c l; exact entS fun hp=>Hi c i l hp
 · exact entN
end Go.Proofs.YtgfifkhbfdacjaaGreatDoor
namespace Go.Proofs.YtgfifkhbfdacjaaGreatDoor
open Go Go.Ev
set_option maxRecDepth 100000
abbrev zJ75Tp:=J Tryz.prog 75 (au Tryz.f75)
def bQ (f:Nat→Int):Nat→Nat→Int
 | _,0=>0
 | k,m+1=>if (f k != 0)=true then f k else bQ f (k+1) m
theorem ju (f:Nat→Int) {k n:Nat} (h:k<n):bQ f k (n - k)=if (f k != 0)=true then f k else bQ f (k+1) (n - (k+1)):=by
 obtain ⟨m,hm⟩:∃ m,n - k=m+1:=⟨n - k - 1,by omega⟩
 rw [hm,show n - (k+1)=m by omega]; rfl
def BR:Cfg:=⟨aY,[eQ7]⟩
theorem xu:ag Tryz.prog BR.tab:=(ag.cons L9 ag.nil)
abbrev zTp1:List PI:=[.code [1,0,1,0,0],.inLoop [1,0,1,0,0],.inBlock 0,.code [1,1]]
variable (c:Chart) (l:List Str) (n:Nat) (Γ:Ctx)
theorem JT (hn:n≤c.states.length) (h0:c.states.length≤maxLen) (hm:n≤maxLen):∀ (m k:Nat),n - k≤m→k≤n →
 zJ75Tp Γ (Eq2 (.x (.i (bQ (fun k:Nat=>dd c.states k) k (n - k)))) []) zTp1 ({ n:=16,fr:=[(1,.p (PD.fnAt [(88,[.ref .chart c 0])] 0)),(2,.i 0),(5,.i n),(6,.i ((k:Int)))],ck:=[] }):=by
 intro m
 induction m with
 | zero=>?_
 | succ m ih=>?_
 all_goals
  intro k hmk hk
  refine jg xu Tryz.func75 (.ite (decide ((k:Int)<(n:Int))) (.need ((0:Int)≤(k:Int)∧(k:Int)<(c.states.length:Int)∧c.states.length≤maxLen) (.ite (dd c.states k != (0:Int)) (.ret (.i (dd c.states k)) []) (.stop zTp1 { n:=16,fr:=[(1,.p (PD.fnAt [(88,[.ref .chart c 0])] 0)),(2,.i 0),(5,.i n),(6,.i (IntKind.wrap .i64 ((k:Int)+1)))],ck:=[] }))) (.ret (.i 0) [])) ?_
  refine ⟨fun hlt=>?_,fun hge=>?_⟩
  · have hk':k<n:=by have:=of_decide_eq_true hlt; omega
    rw [ju _ hk']
    refine ⟨⟨by omega,by omega,h0⟩,fun hb=>?_,fun hb=>?_⟩
    · rw [if_pos (by exact hb)]; exact ⟨rfl,rfl⟩
    · rw [if_neg (by rw [show _=false from hb]; decide)]
      rw [aX (aE hk' hm)]
      first | (exfalso; omega) | exact ih (k+1) (by omega) (by omega)
  · have hke:n - k=0:=by have:=of_decide_eq_false hge; omega
    rw [hke]; exact ⟨rfl,rfl⟩
theorem LR (hn:n≤c.states.length) (h0:c.states.length≤maxLen) (hm:n≤maxLen):ah Tryz.prog 75 [.p (.ref .int (n:Int) 0),.p (.fnAt [(88,[.ref .chart c 0])] 0)] [] (.x (.i (bQ (fun k:Nat=>dd c.states k) 0 n))) []:=by
 refine dg xu Tryz.func75 (.stop zTp1 { n:=16,fr:=[(1,.p (PD.fnAt [(88,[.ref .chart c 0])] 0)),(2,.i 0),(5,.i n),(6,.i 0)],ck:=[] }) fun Γ=>?_
 exact JT c n Γ hn h0 hm n 0 (by omega) (by omega)
theorem Kf (n:Int) (h:n=(c.states.length:Int)) (h0:c.states.length≤maxLen) (hm:c.states.length≤maxLen):ah Tryz.prog 75 [.p (.ref .int n 0),.p (.fnAt [(88,[.ref .chart c 0])] 0)] [] (.x (.i (bQ (fun k:Nat=>dd c.states k) 0 c.states.length))) []:=by
 subst h
 exact LR c _ (aq _) h0 hm
def Bk:Cfg:=⟨aY,[eQ8]⟩
theorem vO:ag Tryz.prog Bk.tab:=(ag.cons L0 ag.nil)
theorem J1 (hn:n≤c.vars.length) (hm:n≤maxLen):∀ (m k:Nat),n - k≤m→k≤n →
 zJ75Tp Γ (Eq2 (.x (.i (bQ (fun k:Nat=>dY (ETy.get .var c.vars k)) k (n - k)))) []) zTp1 ({ n:=16,fr:=[(1,.p (PD.fnAt [(90,[.ref .chart c 0])] 0)),(2,.i 0),(5,.i n),(6,.i ((k:Int)))],ck:=[] }):=by
 intro m
 induction m with
 | zero=>?_
 | succ m ih=>?_
 all_goals
  intro k hmk hk
  refine jg vO Tryz.func75 (.ite (decide ((k:Int)<(n:Int))) (.need (inRg k c.vars.length) (.ite (dY (ETy.get .var c.vars k) != (0:Int)) (.ret (.i (dY (ETy.get .var c.vars k))) []) (.stop zTp1 { n:=16,fr:=[(1,.p (PD.fnAt [(90,[.ref .chart c 0])] 0)),(2,.i 0),(5,.i n),(6,.i (IntKind.wrap .i64 ((k:Int)+1)))],ck:=[] }))) (.ret (.i 0) [])) ?_
  refine ⟨fun hlt=>?_,fun hge=>?_⟩
  · have hk':k<n:=by have:=of_decide_eq_true hlt; omega
    rw [ju _ hk']
    refine ⟨⟨by omega,by omega⟩,fun hb=>?_,fun hb=>?_⟩
    · rw [if_pos (by exact hb)]; exact ⟨rfl,rfl⟩
    · rw [if_neg (by rw [show _=false from hb]; decide)]
      rw [aX (aE hk' hm)]
      first | (exfalso; omega) | exact ih (k+1) (by omega) (by omega)
  · have hke:n - k=0:=by have:=of_decide_eq_false hge; omega
    rw [hke]; exact ⟨rfl,rfl⟩
theorem Lt (hn:n≤c.vars.length) (hm:n≤maxLen):ah Tryz.prog 75 [.p (.ref .int (n:Int) 0),.p (.fnAt [(90,[.ref .chart c 0])] 0)] [] (.x (.i (bQ (fun k:Nat=>dY (ETy.get .var c.vars k)) 0 n))) []:=by
 refine dg vO Tryz.func75 (.stop zTp1 { n:=16,fr:=[(1,.p (PD.fnAt [(90,[.ref .chart c 0])] 0)),(2,.i 0),(5,.i n),(6,.i 0)],ck:=[] }) fun Γ=>?_
 exact J1 c n Γ hn hm n 0 (by omega) (by omega)
theorem KC (n:Int) (h:n=(c.vars.length:Int)) (hm:c.vars.length≤maxLen):ah Tryz.prog 75 [.p (.ref .int n 0),.p (.fnAt [(90,[.ref .chart c 0])] 0)] [] (.x (.i (bQ (fun k:Nat=>dY (ETy.get .var c.vars k)) 0 c.vars.length))) []:=by
 subst h
 exact Lt c _ (aq _) hm
def Bh:Cfg:=⟨aY,[eQ9]⟩
theorem xD:ag Tryz.prog Bh.tab:=(ag.cons LO ag.nil)
theorem KV (hn:n≤c.states.length) (hm:n≤maxLen):∀ (m k:Nat),n - k≤m→k≤n →
 zJ75Tp Γ (Eq2 (.x (.i (bQ (fun k:Nat=>cQ c (ETy.get .stat c.states k)) k (n - k)))) []) zTp1 ({ n:=16,fr:=[(1,.p (PD.fnAt [(92,[.ref .chart c 0])] 0)),(2,.i 0),(5,.i n),(6,.i ((k:Int)))],ck:=[] }):=by
 intro m
 induction m with
 | zero=>?_
 | succ m ih=>?_
 all_goals
  intro k hmk hk
  refine jg xD Tryz.func75 (.ite (decide ((k:Int)<(n:Int))) (.need (inRg k c.states.length) (.ite (cQ c (ETy.get .stat c.states k) != (0:Int)) (.ret (.i (cQ c (ETy.get .stat c.states k))) []) (.stop zTp1 { n:=16,fr:=[(1,.p (PD.fnAt [(92,[.ref .chart c 0])] 0)),(2,.i 0),(5,.i n),(6,.i (IntKind.wrap .i64 ((k:Int)+1)))],ck:=[] }))) (.ret (.i 0) [])) ?_
  refine ⟨fun hlt=>?_,fun hge=>?_⟩
  · have hk':k<n:=by have:=of_decide_eq_true hlt; omega
    rw [ju _ hk']
    refine ⟨⟨by omega,by omega⟩,fun hb=>?_,fun hb=>?_⟩
    · rw [if_pos (by exact hb)]; exact ⟨rfl,rfl⟩
    · rw [if_neg (by rw [show _=false from hb]; decide)]
      rw [aX (aE hk' hm)]
      first | (exfalso; omega) | exact ih (k+1) (by omega) (by omega)
  · have hke:n - k=0:=by have:=of_decide_eq_false hge; omega
    rw [hke]; exact ⟨rfl,rfl⟩
theorem LZ (hn:n≤c.states.length) (hm:n≤maxLen):ah Tryz.prog 75 [.p (.ref .int (n:Int) 0),.p (.fnAt [(92,[.ref .chart c 0])] 0)] [] (.x (.i (bQ (fun k:Nat=>cQ c (ETy.get .stat c.states k)) 0 n))) []:=by
 refine dg xD Tryz.func75 (.stop zTp1 { n:=16,fr:=[(1,.p (PD.fnAt [(92,[.ref .chart c 0])] 0)),(2,.i 0),(5,.i n),(6,.i 0)],ck:=[] }) fun Γ=>?_
 exact KV c n Γ hn hm n 0 (by omega) (by omega)
theorem KS (n:Int) (h:n=(c.states.length:Int)) (hm:c.states.length≤maxLen):ah Tryz.prog 75 [.p (.ref .int n 0),.p (.fnAt [(92,[.ref .chart c 0])] 0)] [] (.x (.i (bQ (fun k:Nat=>cQ c (ETy.get .stat c.states k)) 0 c.states.length))) []:=by
 subst h
 exact LZ c _ (aq _) hm
def vr:Cfg:=⟨aY,[AY]⟩
theorem tj:ag Tryz.prog vr.tab:=(ag.cons JA ag.nil)
theorem GW (hn:n≤c.trans.length) (h0:c.states.length≤maxLen) (h1:c.trans.length≤maxLen) (hm:n≤maxLen):∀ (m k:Nat),n - k≤m→k≤n →
 zJ75Tp Γ (Eq2 (.x (.i (bQ (fun k:Nat=>cK c k l (ETy.get .tran c.trans k)) k (n - k)))) []) zTp1 ({ n:=16,fr:=[(1,.p (PD.fnAt [(94,[.ref .chart c 0,.ref .strs l 0])] 0)),(2,.i 0),(5,.i n),(6,.i ((k:Int)))],ck:=[] }):=by
 intro m
 induction m with
 | zero=>?_
 | succ m ih=>?_
 all_goals
  intro k hmk hk
  refine jg tj Tryz.func75 (.ite (decide ((k:Int)<(n:Int))) (.need ((0:Int)≤(k:Int)∧(k:Int)<(c.trans.length:Int)∧c.states.length≤maxLen∧c.trans.length≤maxLen) (.ite (cK c k l (ETy.get .tran c.trans k) != (0:Int)) (.ret (.i (cK c k l (ETy.get .tran c.trans k))) []) (.stop zTp1 { n:=16,fr:=[(1,.p (PD.fnAt [(94,[.ref .chart c 0,.ref .strs l 0])] 0)),(2,.i 0),(5,.i n),(6,.i (IntKind.wrap .i64 ((k:Int)+1)))],ck:=[] }))) (.ret (.i 0) [])) ?_
  refine ⟨fun hlt=>?_,fun hge=>?_⟩
  · have hk':k<n:=by have:=of_decide_eq_true hlt; omega
    rw [ju _ hk']
    refine ⟨⟨by omega,by omega,h0,h1⟩,fun hb=>?_,fun hb=>?_⟩
    · rw [if_pos (by exact hb)]; exact ⟨rfl,rfl⟩
    · rw [if_neg (by rw [show _=false from hb]; decide)]
      rw [aX (aE hk' hm)]
      first | (exfalso; omega) | exact ih (k+1) (by omega) (by omega)
  · have hke:n - k=0:=by have:=of_decide_eq_false hge; omega
    rw [hke]; exact ⟨rfl,rfl⟩
theorem Kn (hn:n≤c.trans.length) (h0:c.states.length≤maxLen) (h1:c.trans.length≤maxLen) (hm:n≤maxLen):ah Tryz.prog 75 [.p (.ref .int (n:Int) 0),.p (.fnAt [(94,[.ref .chart c 0,.ref .strs l 0])] 0)] [] (.x (.i (bQ (fun k:Nat=>cK c k l (ETy.get .tran c.trans k)) 0 n))) []:=by
 refine dg tj Tryz.func75 (.stop zTp1 { n:=16,fr:=[(1,.p (PD.fnAt [(94,[.ref .chart c 0,.ref .strs l 0])] 0)),(2,.i 0),(5,.i n),(6,.i 0)],ck:=[] }) fun Γ=>?_
 exact GW c l n Γ hn h0 h1 hm n 0 (by omega) (by omega)
theorem IG (n:Int) (h:n=(c.trans.length:Int)) (h0:c.states.length≤maxLen) (h1:c.trans.length≤maxLen) (hm:c.trans.length≤maxLen):ah Tryz.prog 75 [.p (.ref .int n 0),.p (.fnAt [(94,[.ref .chart c 0,.ref .strs l 0])] 0)] [] (.x (.i (bQ (fun k:Nat=>cK c k l (ETy.get .tran c.trans k)) 0 c.trans.length))) []:=by
 subst h
 exact Kn c l _ (aq _) h0 h1 hm
def eE7:Ent:=(75,fun
 | [.c (.pd (.ref .int n 0)),.c (.pd (.fnAt [(88,[.ref .chart c 0])] 0))],[]=>some (some (n=(c.states.length:Int)∧c.states.length≤maxLen),.x (.c (.pd (.int .i64 (bQ (fun k:Nat=>dd c.states k) 0 c.states.length)))),[])
 | _,_=>none)
theorem LP:EntOk Tryz.prog eE7:=entOk fun vs ck=>by
 unfold eE7; dsimp only; split
 · rename_i n c; exact entS fun hp=>Kf c n hp.1 hp.2 hp.2
 · exact entN
def eE8:Ent:=(75,fun
 | [.c (.pd (.ref .int n 0)),.c (.pd (.fnAt [(90,[.ref .chart c 0])] 0))],[]=>some (some (n=(c.vars.length:Int)∧c.vars.length≤maxLen),.x (.c (.pd (.int .i64 (bQ (fun k:Nat=>dY (ETy.get .var c.vars k)) 0 c.vars.length)))),[])
 | _,_=>none)
theorem LG:EntOk Tryz.prog eE8:=entOk fun vs ck=>by
 unfold eE8; dsimp only; split
 · rename_i n c; exact entS fun hp=>KC c n hp.1 hp.2
 · exact entN
def eE9:Ent:=(75,fun
 | [.c (.pd (.ref .int n 0)),.c (.pd (.fnAt [(92,[.ref .chart c 0])] 0))],[]=>some (some (n=(c.states.length:Int)∧c.states.length≤maxLen),.x (.c (.pd (.int .i64 (bQ (fun k:Nat=>cQ c (ETy.get .stat c.states k)) 0 c.states.length)))),[])
 | _,_=>none)
theorem Mb:EntOk Tryz.prog eE9:=entOk fun vs ck=>by
 unfold eE9; dsimp only; split
 · rename_i n c; exact entS fun hp=>KS c n hp.1 hp.2
 · exact entN
def BE:Ent:=(75,fun
 | [.c (.pd (.ref .int n 0)),.c (.pd (.fnAt [(94,[.ref .chart c 0,.ref .strs l 0])] 0))],[]=>some (some (n=(c.trans.length:Int)∧c.states.length≤maxLen∧c.trans.length≤maxLen),.x (.c (.pd (.int .i64 (bQ (fun k:Nat=>cK c k l (ETy.get .tran c.trans k)) 0 c.trans.length)))),[])
 | _,_=>none)
theorem Kc:EntOk Tryz.prog BE:=entOk fun vs ck=>by
 unfold BE; dsimp only; split
 · rename_i n c l; exact entS fun hp=>IG c l n hp.1 hp.2.1 hp.2.2 hp.2.2
 · exact entN
end Go.Proofs.YtgfifkhbfdacjaaGreatDoor
