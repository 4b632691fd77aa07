/- Contracts: valid.Check's questions. Conditions: sizes. Contracts: valid.Check: each's loops. Conditions: sizes. -/
import Derived.Test.YtgfifkhbfdacjaaGreatDoorTm
namespace Go.Proofs.YtgfifkhbfdacjaaGreatDoor
open Go Go.Ev
set_option maxRecDepth 100000
def Kq:Cfg:=⟨aX,[pg]⟩
theorem Jv:ag Tryz.prog Kq.tab:=(ag.cons Ck ag.nil)
variable (c:Chart) (a:List Str) (i:Int) (b l:List Str)
def fO:List Str:=gU [[c.name],c.events,a,b]
theorem K7 (h:(fO c a b).length≤1000000):ah Tryz.prog 77 [.p (.ref .chart c 0),.p (.ref .strs a 0),.p (.ref .strs b 0)] [] (.x (.c (.own 0))) [.own 9 .str (fO c a b)]:=by
 refine dg Jv Tryz.func77 (.need ((gU [[c.name],c.events,a,b]).length≤1000000) (.ret (.x (.c (.own 0))) [.own 9 .str (gU [[c.name],c.events,a,b])])) fun Γ=>?_
 exact ⟨h,rfl,rfl⟩
def eQ2:Ent:=(77,fun
 | [.c (.pd (.ref .chart c 0)),.c (.pd (.ref .strs a 0)),.c (.pd (.ref .strs b 0))],[]=>some (some ((fO c a b).length≤1000000),.x (.c (.own 0)),[.own 9 .str (fO c a b)])
 | _,_=>none)
theorem M7:EntOk Tryz.prog eQ2:=entOk fun vs ck=>by
 unfold eQ2; dsimp only; split
 · rename_i c a b; exact entS fun hp=>K7 c a b hp
 · exact entN
def F7:Cfg:=⟨aX,[jI]⟩
theorem EA:ag Tryz.prog F7.tab:=(ag.cons iO ag.nil)
theorem JM (s:Str):ah Tryz.prog 83 [.s s] [] (.x (.b (!a7 s))) []:=by
 refine dg EA Tryz.func83 (.ret (.p (.bool !a7 s)) []) fun Γ=>⟨rfl,rfl⟩
def BB:Ent:=(83,fun
 | [.c (.pd (.str s))],[]=>some (none,.x (.c (.pd (.bool (!a7 s)))),[])
 | _,_=>none)
theorem K2:EntOk Tryz.prog BB:=entOk fun vs ck=>by
 unfold BB; dsimp only; split
 · rename_i s; exact entS fun hp=>JM s
 · exact entN
def CZ:Cfg:=⟨aX,[BB]⟩
theorem wX:ag Tryz.prog CZ.tab:=(ag.cons K2 ag.nil)
abbrev zTo1:List PI:=[.code [1,0,1,0,0],.inLoop [1,0,1,0,0],.inBlock 0,.code [1,1]]
theorem II (Γ:Ctx) (hl:l.length≤maxLen)  : ∀ (n k:Nat),l.length - k≤n→k≤l.length →
 J Tryz.prog 133 (au Tryz.f133) Γ (Eq2 (.x (.i (aE (fun s:Str=>!a7 s) (l.drop k) k))) []) zTo1 ({ n:=19,fr:=[(0,.p (.lst .str l)),(1,.x (.c (.fn (.func 83) [] []))),(4,.i 0),(7,.i l.length),(8,.i k)],ck:=[] }):=by
 intro n
 induction n with
 | zero=>?_
 | succ n ih=>?_
 all_goals
  intro k hn hk
  refine jg wX Tryz.func133 (.ite (decide ((k:Int)<(l.length:Int))) (.need (inRg k l.length) (.ite (!a7 (ETy.get .str l k)) (.ret (.i k) []) (.stop zTo1 { n:=19,fr:=[(0,.p (.lst .str l)),(1,.x (.c (.fn (.func 83) [] []))),(4,.i 0),(7,.i l.length),(8,.i (IntKind.wrap .i64 ((k:Int)+1)))],ck:=[] }))) (.ret (.i (-1:Int)) [])) ?_
  refine ⟨fun hlt=>?_,fun hge=>?_⟩
  · have hk':k<l.length:=by have:=of_decide_eq_true hlt; omega
    rw [bx (t:=.str) (l:=l) hk']
    refine ⟨by omega,?_⟩
    generalize ETy.get .str l k=v
    refine ⟨fun hb=>⟨?_,rfl⟩,fun hb=>?_⟩
    · simp only [aE,hb,cond_true]
    · simp only [aE,hb,cond_false]; (rw [aV (aC hk' hl)]; first | (exfalso; omega) | exact ih (k+1) (by omega) (by omega))
  · rw [bL (l:=l) (by have:=of_decide_eq_false hge; omega)]
    exact ⟨rfl,rfl⟩
theorem JR:ah Tryz.prog 133 [.l .str (l),SX.c (SC.fn (Fn.func 83) [] [])] [] (.x (.i (aE (fun s:Str=>!a7 s) l 0))) []:=by
 refine dg wX Tryz.func133 (.stop zTo1 { n:=19,fr:=[(0,.p (.lst .str l)),(1,.x (.c (.fn (.func 83) [] []))),(4,.i 0),(7,.i l.length),(8,.i 0)],ck:=[] }) fun Γ=>?_
 exact J.len 0 rfl fun hl=>II l Γ hl l.length 0 (by omega) (by omega)
def C3:Ent:=(133,fun
 | [.c (.pd (.lst .str l)),.c (.fn (.func 83) [] [])],[]=>some (none,.x (.c (.pd (.int .i64 (aE (fun s:Str=>!a7 s) l 0)))),[])
 | _,_=>none)
theorem Lg:EntOk Tryz.prog C3:=entOk fun vs ck=>by
 unfold C3; dsimp only; split
 · rename_i l; exact entS fun hp=>JR l
 · exact entN
def Ks:Cfg:=⟨aX,[C3]⟩
theorem Hs:ag Tryz.prog Ks.tab:=(ag.cons Lg ag.nil)
theorem MD:ah Tryz.prog 82 [.l .str l,.c (.fn (.func 83) [] [])] [] (.x (.b (l.any fun s:Str=>!a7 s))) []:=by
 refine dg Hs Tryz.func82 (.ret (.p (.bool (decide (aE (fun s=>!a7 s) l (0:Int)≥0)))) []) fun Γ=>⟨?_,rfl⟩
 rw [iy _ _ _ (by omega)]
def eCf:Ent:=(82,fun
 | [.c (.pd (.lst .str l)),.c (.fn (.func 83) [] [])],[]=>some (none,.x (.c (.pd (.bool (l.any fun s:Str=>!a7 s)))),[])
 | _,_=>none)
theorem NP:EntOk Tryz.prog eCf:=entOk fun vs ck=>by
 unfold eCf; dsimp only; split
 · rename_i l; exact entS fun hp=>MD l
 · exact entN
def Ky:Cfg:=⟨aX,[eQ2,eCf,kC]⟩
theorem Ha:ag Tryz.prog Ky.tab:=(ag.cons M7 (ag.cons NP (ag.cons jy ag.nil)))
theorem MU (h:(fO c a b).length≤1000000):ah Tryz.prog 81 [.p (.fnAt [(77,[.ref .chart c 0,.ref .strs a 0,.ref .strs b 0])] 0)] [] (.x (.i (bV (!(fO c a b).any fun s:Str=>!a7 s) 2))) []:=by
 refine dg Ha Tryz.func81 (.need ((fO c a b).length≤1000000) (.ret (.i (bV (!List.any (fO c a b) fun s=>!a7 s) (2:Int))) [])) fun Γ=>?_
 exact ⟨h,rfl,rfl⟩
def eQ4:Ent:=(81,fun
 | [.c (.pd (.fnAt [(77,[.ref .chart c 0,.ref .strs a 0,.ref .strs b 0])] 0))],[]=>some (some ((fO c a b).length≤1000000),.x (.c (.pd (.int .i64 (bV (!(fO c a b).any fun s:Str=>!a7 s) 2)))),[])
 | _,_=>none)
theorem M1:EntOk Tryz.prog eQ4:=entOk fun vs ck=>by
 unfold eQ4; dsimp only; split
 · rename_i c a b; exact entS fun hp=>MU c a b hp
 · exact entN
def gY:Bool:=decide ((c.events.length:Int)≤12)&&decide ((c.vars.length:Int)≤8)&&decide ((c.states.length:Int)≤40)&&decide ((c.trans.length:Int)≤48)
def jc:Bool:=gG c.events&&gG a&&gG b
def KC:Cfg:=⟨aX,[kC]⟩
theorem IB:ag Tryz.prog KC.tab:=(ag.cons jy ag.nil)
theorem MF:ah Tryz.prog 79 [.p (.ref .chart c 0)] [] (.x (.i (bV (gY c) 4))) []:=by
 refine dg IB Tryz.func79 (.ret (.i (bV (decide ((c.events.length:Int)≤12)&&decide ((c.vars.length:Int)≤8)&&decide ((c.states.length:Int)≤40)&&decide ((c.trans.length:Int)≤48)) (4:Int))) []) fun Γ=>⟨rfl,rfl⟩
def eQ3:Ent:=(79,fun
 | [.c (.pd (.ref .chart c 0))],[]=>some (none,.x (.c (.pd (.int .i64 (bV (gY c) 4)))),[])
 | _,_=>none)
theorem NW:EntOk Tryz.prog eQ3:=entOk fun vs ck=>by
 unfold eQ3; dsimp only; split
 · rename_i c; exact entS fun hp=>MF c
 · exact entN
def Ku:Cfg:=⟨aX,[wc,kC]⟩
theorem J7:ag Tryz.prog Ku.tab:=(ag.cons Ic (ag.cons jy ag.nil))
theorem Li (h:c.events.length≤1000000∧a.length≤1000000∧b.length≤1000000):ah Tryz.prog 84 [.p (.ref .chart c 0),.p (.ref .strs a 0),.p (.ref .strs b 0)] [] (.x (.i (bV (jc c a b) 3))) []:=by
 refine dg J7 Tryz.func84 (.need (c.events.length≤1000000) (.need (gG c.events=true→a.length≤1000000) (.need ((gG c.events&&gG a)=true→b.length≤1000000) (.ret (.i (bV (gG c.events&&gG a&&gG b) (3:Int))) [])))) fun Γ=>?_
 exact ⟨h.1,fun _=>h.2.1,fun _=>h.2.2,rfl,rfl⟩
def eQ5:Ent:=(84,fun
 | [.c (.pd (.ref .chart c 0)),.c (.pd (.ref .strs a 0)),.c (.pd (.ref .strs b 0))],[]=>some (some (c.events.length≤1000000∧a.length≤1000000∧b.length≤1000000),.x (.c (.pd (.int .i64 (bV (jc c a b) 3)))),[])
 | _,_=>none)
theorem Nm:EntOk Tryz.prog eQ5:=entOk fun vs ck=>by
 unfold eQ5; dsimp only; split
 · rename_i c a b; exact entS fun hp=>Li c a b hp
 · exact entN
def Kz:Cfg:=⟨aX,[ma,kC]⟩
theorem JV:ag Tryz.prog Kz.tab:=(ag.cons qV (ag.cons jy ag.nil))
theorem KW (h:c.states.length≤maxLen):ah Tryz.prog 86 [.p (.ref .chart c 0)] [] (.x (.i (bV (b5 c.states) 9))) []:=by
 refine dg JV Tryz.func86 (.need (c.states.length≤maxLen) (.ret (.i (bV (b5 c.states) (9:Int))) [])) fun Γ=>?_
 exact ⟨h,rfl,rfl⟩
def eQ6:Ent:=(86,fun
 | [.c (.pd (.ref .chart c 0))],[]=>some (some (c.states.length≤maxLen),.x (.c (.pd (.int .i64 (bV (b5 c.states) 9)))),[])
 | _,_=>none)
theorem MW:EntOk Tryz.prog eQ6:=entOk fun vs ck=>by
 unfold eQ6; dsimp only; split
 · rename_i c; exact entS fun hp=>KW c hp
 · exact entN
def r8:Cfg:=⟨aX,[ry,v8,wt,Dr]⟩
theorem mN:ag Tryz.prog r8.tab:=(ag.cons Ey (ag.cons JU (ag.cons Ju (ag.cons L2 ag.nil))))
theorem KQ (h:0≤i∧i<(c.states.length:Int)∧c.states.length≤maxLen):ah Tryz.prog 88 [.i i,.p (.ref .chart c 0)] [] (.x (.i (df c.states i.toNat))) []:=by
 refine dg mN Tryz.func88 (.need ((0:Int)≤i∧i<(c.states.length:Int)∧c.states.length≤maxLen) (.ret (.i (df c.states (Int.toNat i))) [])) fun Γ=>⟨h,rfl,rfl⟩
def eQ7:Ent:=(88,fun
 | [.c (.pd (.int .i64 i)),.c (.pd (.ref .chart c 0))],[]=>some (some (0≤i∧i<(c.states.length:Int)∧c.states.length≤maxLen),.x (.c (.pd (.int .i64 (df c.states i.toNat)))),[])
 | _,_=>none)
theorem Nn:EntOk Tryz.prog eQ7:=entOk fun vs ck=>by
 unfold eQ7; dsimp only; split
 · rename_i i c; exact entS fun hp=>KQ c i hp
 · exact entN
theorem L7 (h:0≤i∧i<(c.vars.length:Int)):ah Tryz.prog 90 [.i i,.p (.ref .chart c 0)] [] (.x (.i (ee (ETy.get .var c.vars i.toNat)))) []:=by
 refine dg mN Tryz.func90 (.need ((0:Int)≤i∧i<(c.vars.length:Int)) (.ret (.i (ee (ETy.get .var c.vars (Int.toNat i)))) [])) fun Γ=>⟨h,rfl,rfl⟩
def eQ8:Ent:=(90,fun
 | [.c (.pd (.int .i64 i)),.c (.pd (.ref .chart c 0))],[]=>some (some (0≤i∧i<(c.vars.length:Int)),.x (.c (.pd (.int .i64 (ee (ETy.get .var c.vars i.toNat))))),[])
 | _,_=>none)
theorem NG:EntOk Tryz.prog eQ8:=entOk fun vs ck=>by
 unfold eQ8; dsimp only; split
 · rename_i i c; exact entS fun hp=>L7 c i hp
 · exact entN
theorem LU (h:0≤i∧i<(c.states.length:Int)):ah Tryz.prog 92 [.i i,.p (.ref .chart c 0)] [] (.x (.i (cR c (ETy.get .stat c.states i.toNat)))) []:=by
 refine dg mN Tryz.func92 (.need ((0:Int)≤i∧i<(c.states.length:Int)) (.ret (.i (cR c (ETy.get .stat c.states (Int.toNat i)))) [])) fun Γ=>⟨h,rfl,rfl⟩
def eQ9:Ent:=(92,fun
 | [.c (.pd (.int .i64 i)),.c (.pd (.ref .chart c 0))],[]=>some (some (0≤i∧i<(c.states.length:Int)),.x (.c (.pd (.int .i64 (cR c (ETy.get .stat c.states i.toNat))))),[])
 | _,_=>none)
theorem Nt:EntOk Tryz.prog eQ9:=entOk fun vs ck=>by
 unfold eQ9; dsimp only; split
 · rename_i i c; exact entS fun hp=>LU c i hp
 · exact entN
theorem HR (h:0≤i∧i<(c.trans.length:Int)∧c.states.length≤maxLen∧c.trans.length≤maxLen):ah Tryz.prog 94 [.i i,.p (.ref .chart c 0),.p (.ref .strs l 0)] [] (.x (.i (cL c i.toNat l (ETy.get .tran c.trans i.toNat)))) []:=by
 refine dg mN Tryz.func94 (.need ((0:Int)≤i∧i<(c.trans.length:Int)∧c.states.length≤maxLen∧c.trans.length≤maxLen) (.ret (.i (cL c (Int.toNat i) l (ETy.get .tran c.trans (Int.toNat i)))) [])) fun Γ=>⟨h,rfl,rfl⟩
def Dp:Ent:=(94,fun
 | [.c (.pd (.int .i64 i)),.c (.pd (.ref .chart c 0)),.c (.pd (.ref .strs l 0))],[]=>some (some (0≤i∧i<(c.trans.length:Int)∧c.states.length≤maxLen∧c.trans.length≤maxLen),.x (.c (.pd (.int .i64 (cL c i.toNat l (ETy.get .tran c.trans i.toNat))))),[])
 | _,_=>none)
theorem LX:EntOk Tryz.prog Dp:=entOk fun vs ck=>by
 unfold Dp; dsimp only; split
 · rename_i i c l; exact entS fun hp=>HR c i l hp
 · exact entN
end Go.Proofs.YtgfifkhbfdacjaaGreatDoor
namespace Go.Proofs.YtgfifkhbfdacjaaGreatDoor
open Go Go.Ev
set_option maxRecDepth 100000
abbrev zJ75Tp:=J Tryz.prog 75 (au Tryz.f75)
def bT (f:Nat→Int):Nat→Nat→Int
 | _,0=>0
 | k,m+1=>if (f k != 0)=true then f k else bT f (k+1) m
theorem jH (f:Nat→Int) {k n:Nat} (h:k<n):bT f k (n - k)=if (f k != 0)=true then f k else bT f (k+1) (n - (k+1)):=by
 obtain ⟨m,hm⟩:∃ m,n - k=m+1:=⟨n - k - 1,by omega⟩
 rw [hm,show n - (k+1)=m by omega]; rfl
def Dh:Cfg:=⟨aX,[eQ7]⟩
theorem yl:ag Tryz.prog Dh.tab:=(ag.cons Nn ag.nil)
abbrev zTp1:List PI:=[.code [1,0,1,0,0],.inLoop [1,0,1,0,0],.inBlock 0,.code [1,1]]
variable (c:Chart) (l:List Str) (n:Nat) (Γ:Ctx)
theorem Lm (hn:n≤c.states.length) (h0:c.states.length≤maxLen) (hm:n≤maxLen):∀ (m k:Nat),n - k≤m→k≤n →
 zJ75Tp Γ (Eq2 (.x (.i (bT (fun k:Nat=>df c.states k) k (n - k)))) []) zTp1 ({ n:=16,fr:=[(1,.p (PD.fnAt [(88,[.ref .chart c 0])] 0)),(2,.i 0),(5,.i n),(6,.i ((k:Int)))],ck:=[] }):=by
 intro m
 induction m with
 | zero=>?_
 | succ m ih=>?_
 all_goals
  intro k hmk hk
  refine jg yl Tryz.func75 (.ite (decide ((k:Int)<(n:Int))) (.need ((0:Int)≤(k:Int)∧(k:Int)<(c.states.length:Int)∧c.states.length≤maxLen) (.ite (df c.states k != (0:Int)) (.ret (.i (df c.states k)) []) (.stop zTp1 { n:=16,fr:=[(1,.p (PD.fnAt [(88,[.ref .chart c 0])] 0)),(2,.i 0),(5,.i n),(6,.i (IntKind.wrap .i64 ((k:Int)+1)))],ck:=[] }))) (.ret (.i 0) [])) ?_
  refine ⟨fun hlt=>?_,fun hge=>?_⟩
  · have hk':k<n:=by have:=of_decide_eq_true hlt; omega
    rw [jH _ hk']
    refine ⟨⟨by omega,by omega,h0⟩,fun hb=>?_,fun hb=>?_⟩
    · rw [if_pos (by exact hb)]; exact ⟨rfl,rfl⟩
    · rw [if_neg (by rw [show _=false from hb]; decide)]
      rw [aV (aC hk' hm)]
      first | (exfalso; omega) | exact ih (k+1) (by omega) (by omega)
  · have hke:n - k=0:=by have:=of_decide_eq_false hge; omega
    rw [hke]; exact ⟨rfl,rfl⟩
theorem NB (hn:n≤c.states.length) (h0:c.states.length≤maxLen) (hm:n≤maxLen):ah Tryz.prog 75 [.p (.ref .int (n:Int) 0),.p (.fnAt [(88,[.ref .chart c 0])] 0)] [] (.x (.i (bT (fun k:Nat=>df c.states k) 0 n))) []:=by
 refine dg yl Tryz.func75 (.stop zTp1 { n:=16,fr:=[(1,.p (PD.fnAt [(88,[.ref .chart c 0])] 0)),(2,.i 0),(5,.i n),(6,.i 0)],ck:=[] }) fun Γ=>?_
 exact Lm c n Γ hn h0 hm n 0 (by omega) (by omega)
theorem Ms (n:Int) (h:n=(c.states.length:Int)) (h0:c.states.length≤maxLen) (hm:c.states.length≤maxLen):ah Tryz.prog 75 [.p (.ref .int n 0),.p (.fnAt [(88,[.ref .chart c 0])] 0)] [] (.x (.i (bT (fun k:Nat=>df c.states k) 0 c.states.length))) []:=by
 subst h
 exact NB c _ (ar _) h0 hm
def B8:Cfg:=⟨aX,[eQ8]⟩
theorem ya:ag Tryz.prog B8.tab:=(ag.cons NG ag.nil)
theorem MR (hn:n≤c.vars.length) (hm:n≤maxLen):∀ (m k:Nat),n - k≤m→k≤n →
 zJ75Tp Γ (Eq2 (.x (.i (bT (fun k:Nat=>ee (ETy.get .var c.vars k)) k (n - k)))) []) zTp1 ({ n:=16,fr:=[(1,.p (PD.fnAt [(90,[.ref .chart c 0])] 0)),(2,.i 0),(5,.i n),(6,.i ((k:Int)))],ck:=[] }):=by
 intro m
 induction m with
 | zero=>?_
 | succ m ih=>?_
 all_goals
  intro k hmk hk
  refine jg ya Tryz.func75 (.ite (decide ((k:Int)<(n:Int))) (.need (inRg k c.vars.length) (.ite (ee (ETy.get .var c.vars k) != (0:Int)) (.ret (.i (ee (ETy.get .var c.vars k))) []) (.stop zTp1 { n:=16,fr:=[(1,.p (PD.fnAt [(90,[.ref .chart c 0])] 0)),(2,.i 0),(5,.i n),(6,.i (IntKind.wrap .i64 ((k:Int)+1)))],ck:=[] }))) (.ret (.i 0) [])) ?_
  refine ⟨fun hlt=>?_,fun hge=>?_⟩
  · have hk':k<n:=by have:=of_decide_eq_true hlt; omega
    rw [jH _ hk']
    refine ⟨⟨by omega,by omega⟩,fun hb=>?_,fun hb=>?_⟩
    · rw [if_pos (by exact hb)]; exact ⟨rfl,rfl⟩
    · rw [if_neg (by rw [show _=false from hb]; decide)]
      rw [aV (aC hk' hm)]
      first | (exfalso; omega) | exact ih (k+1) (by omega) (by omega)
  · have hke:n - k=0:=by have:=of_decide_eq_false hge; omega
    rw [hke]; exact ⟨rfl,rfl⟩
theorem Nk (hn:n≤c.vars.length) (hm:n≤maxLen):ah Tryz.prog 75 [.p (.ref .int (n:Int) 0),.p (.fnAt [(90,[.ref .chart c 0])] 0)] [] (.x (.i (bT (fun k:Nat=>ee (ETy.get .var c.vars k)) 0 n))) []:=by
 refine dg ya Tryz.func75 (.stop zTp1 { n:=16,fr:=[(1,.p (PD.fnAt [(90,[.ref .chart c 0])] 0)),(2,.i 0),(5,.i n),(6,.i 0)],ck:=[] }) fun Γ=>?_
 exact MR c n Γ hn hm n 0 (by omega) (by omega)
theorem LP (n:Int) (h:n=(c.vars.length:Int)) (hm:c.vars.length≤maxLen):ah Tryz.prog 75 [.p (.ref .int n 0),.p (.fnAt [(90,[.ref .chart c 0])] 0)] [] (.x (.i (bT (fun k:Nat=>ee (ETy.get .var c.vars k)) 0 c.vars.length))) []:=by
 subst h
 exact Nk c _ (ar _) hm
def Ct:Cfg:=⟨aX,[eQ9]⟩
theorem wV:ag Tryz.prog Ct.tab:=(ag.cons Nt ag.nil)
theorem Lp (hn:n≤c.states.length) (hm:n≤maxLen):∀ (m k:Nat),n - k≤m→k≤n →
 zJ75Tp Γ (Eq2 (.x (.i (bT (fun k:Nat=>cR c (ETy.get .stat c.states k)) k (n - k)))) []) zTp1 ({ n:=16,fr:=[(1,.p (PD.fnAt [(92,[.ref .chart c 0])] 0)),(2,.i 0),(5,.i n),(6,.i ((k:Int)))],ck:=[] }):=by
 intro m
 induction m with
 | zero=>?_
 | succ m ih=>?_
 all_goals
  intro k hmk hk
  refine jg wV Tryz.func75 (.ite (decide ((k:Int)<(n:Int))) (.need (inRg k c.states.length) (.ite (cR c (ETy.get .stat c.states k) != (0:Int)) (.ret (.i (cR c (ETy.get .stat c.states k))) []) (.stop zTp1 { n:=16,fr:=[(1,.p (PD.fnAt [(92,[.ref .chart c 0])] 0)),(2,.i 0),(5,.i n),(6,.i (IntKind.wrap .i64 ((k:Int)+1)))],ck:=[] }))) (.ret (.i 0) [])) ?_
  refine ⟨fun hlt=>?_,fun hge=>?_⟩
  · have hk':k<n:=by have:=of_decide_eq_true hlt; omega
    rw [jH _ hk']
    refine ⟨⟨by omega,by omega⟩,fun hb=>?_,fun hb=>?_⟩
    · rw [if_pos (by exact hb)]; exact ⟨rfl,rfl⟩
    · rw [if_neg (by rw [show _=false from hb]; decide)]
      rw [aV (aC hk' hm)]
      first | (exfalso; omega) | exact ih (k+1) (by omega) (by omega)
  · have hke:n - k=0:=by have:=of_decide_eq_false hge; omega
    rw [hke]; exact ⟨rfl,rfl⟩
theorem NF (hn:n≤c.states.length) (hm:n≤maxLen):ah Tryz.prog 75 [.p (.ref .int (n:Int) 0),.p (.fnAt [(92,[.ref .chart c 0])] 0)] [] (.x (.i (bT (fun k:Nat=>cR c (ETy.get .stat c.states k)) 0 n))) []:=by
 refine dg wV Tryz.func75 (.stop zTp1 { n:=16,fr:=[(1,.p (PD.fnAt [(92,[.ref .chart c 0])] 0)),(2,.i 0),(5,.i n),(6,.i 0)],ck:=[] }) fun Γ=>?_
 exact Lp c n Γ hn hm n 0 (by omega) (by omega)
theorem Lt (n:Int) (h:n=(c.states.length:Int)) (hm:c.states.length≤maxLen):ah Tryz.prog 75 [.p (.ref .int n 0),.p (.fnAt [(92,[.ref .chart c 0])] 0)] [] (.x (.i (bT (fun k:Nat=>cR c (ETy.get .stat c.states k)) 0 c.states.length))) []:=by
 subst h
 exact NF c _ (ar _) hm
def xf:Cfg:=⟨aX,[Dp]⟩
theorem ug:ag Tryz.prog xf.tab:=(ag.cons LX ag.nil)
theorem Jw (hn:n≤c.trans.length) (h0:c.states.length≤maxLen) (h1:c.trans.length≤maxLen) (hm:n≤maxLen):∀ (m k:Nat),n - k≤m→k≤n →
 zJ75Tp Γ (Eq2 (.x (.i (bT (fun k:Nat=>cL c k l (ETy.get .tran c.trans k)) k (n - k)))) []) zTp1 ({ n:=16,fr:=[(1,.p (PD.fnAt [(94,[.ref .chart c 0,.ref .strs l 0])] 0)),(2,.i 0),(5,.i n),(6,.i ((k:Int)))],ck:=[] }):=by
 intro m
 induction m with
 | zero=>?_
 | succ m ih=>?_
 all_goals
  intro k hmk hk
  refine jg ug Tryz.func75 (.ite (decide ((k:Int)<(n:Int))) (.need ((0:Int)≤(k:Int)∧(k:Int)<(c.trans.length:Int)∧c.states.length≤maxLen∧c.trans.length≤maxLen) (.ite (cL c k l (ETy.get .tran c.trans k) != (0:Int)) (.ret (.i (cL c k l (ETy.get .tran c.trans k))) []) (.stop zTp1 { n:=16,fr:=[(1,.p (PD.fnAt [(94,[.ref .chart c 0,.ref .strs l 0])] 0)),(2,.i 0),(5,.i n),(6,.i (IntKind.wrap .i64 ((k:Int)+1)))],ck:=[] }))) (.ret (.i 0) [])) ?_
  refine ⟨fun hlt=>?_,fun hge=>?_⟩
  · have hk':k<n:=by have:=of_decide_eq_true hlt; omega
    rw [jH _ hk']
    refine ⟨⟨by omega,by omega,h0,h1⟩,fun hb=>?_,fun hb=>?_⟩
    · rw [if_pos (by exact hb)]; exact ⟨rfl,rfl⟩
    · rw [if_neg (by rw [show _=false from hb]; decide)]
      rw [aV (aC hk' hm)]
      first | (exfalso; omega) | exact ih (k+1) (by omega) (by omega)
  · have hke:n - k=0:=by have:=of_decide_eq_false hge; omega
    rw [hke]; exact ⟨rfl,rfl⟩
theorem L5 (hn:n≤c.trans.length) (h0:c.states.length≤maxLen) (h1:c.trans.length≤maxLen) (hm:n≤maxLen):ah Tryz.prog 75 [.p (.ref .int (n:Int) 0),.p (.fnAt [(94,[.ref .chart c 0,.ref .strs l 0])] 0)] [] (.x (.i (bT (fun k:Nat=>cL c k l (ETy.get .tran c.trans k)) 0 n))) []:=by
 refine dg ug Tryz.func75 (.stop zTp1 { n:=16,fr:=[(1,.p (PD.fnAt [(94,[.ref .chart c 0,.ref .strs l 0])] 0)),(2,.i 0),(5,.i n),(6,.i 0)],ck:=[] }) fun Γ=>?_
 exact Jw c l n Γ hn h0 h1 hm n 0 (by omega) (by omega)
theorem J4 (n:Int) (h:n=(c.trans.length:Int)) (h0:c.states.length≤maxLen) (h1:c.trans.length≤maxLen) (hm:c.trans.length≤maxLen):ah Tryz.prog 75 [.p (.ref .int n 0),.p (.fnAt [(94,[.ref .chart c 0,.ref .strs l 0])] 0)] [] (.x (.i (bT (fun k:Nat=>cL c k l (ETy.get .tran c.trans k)) 0 c.trans.length))) []:=by
 subst h
 exact L5 c l _ (ar _) h0 h1 hm
def eE7:Ent:=(75,fun
 | [.c (.pd (.ref .int n 0)),.c (.pd (.fnAt [(88,[.ref .chart c 0])] 0))],[]=>some (some (n=(c.states.length:Int)∧c.states.length≤maxLen),.x (.c (.pd (.int .i64 (bT (fun k:Nat=>df c.states k) 0 c.states.length)))),[])
 | _,_=>none)
theorem Nh:EntOk Tryz.prog eE7:=entOk fun vs ck=>by
 unfold eE7; dsimp only; split
 · rename_i n c; exact entS fun hp=>Ms c n hp.1 hp.2 hp.2
 · exact entN
def eE8:Ent:=(75,fun
 | [.c (.pd (.ref .int n 0)),.c (.pd (.fnAt [(90,[.ref .chart c 0])] 0))],[]=>some (some (n=(c.vars.length:Int)∧c.vars.length≤maxLen),.x (.c (.pd (.int .i64 (bT (fun k:Nat=>ee (ETy.get .var c.vars k)) 0 c.vars.length)))),[])
 | _,_=>none)
theorem NX:EntOk Tryz.prog eE8:=entOk fun vs ck=>by
 unfold eE8; dsimp only; split
 · rename_i n c; exact entS fun hp=>LP c n hp.1 hp.2
 · exact entN
def eE9:Ent:=(75,fun
 | [.c (.pd (.ref .int n 0)),.c (.pd (.fnAt [(92,[.ref .chart c 0])] 0))],[]=>some (some (n=(c.states.length:Int)∧c.states.length≤maxLen),.x (.c (.pd (.int .i64 (bT (fun k:Nat=>cR c (ETy.get .stat c.states k)) 0 c.states.length)))),[])
 | _,_=>none)
theorem Nd:EntOk Tryz.prog eE9:=entOk fun vs ck=>by
 unfold eE9; dsimp only; split
 · rename_i n c; exact entS fun hp=>Lt c n hp.1 hp.2
 · exact entN
def Bw:Ent:=(75,fun
 | [.c (.pd (.ref .int n 0)),.c (.pd (.fnAt [(94,[.ref .chart c 0,.ref .strs l 0])] 0))],[]=>some (some (n=(c.trans.length:Int)∧c.states.length≤maxLen∧c.trans.length≤maxLen),.x (.c (.pd (.int .i64 (bT (fun k:Nat=>cL c k l (ETy.get .tran c.trans k)) 0 c.trans.length)))),[])
 | _,_=>none)
theorem MM:EntOk Tryz.prog Bw:=entOk fun vs ck=>by
 unfold Bw; dsimp only; split
 · rename_i n c l; exact entS fun hp=>J4 c l n hp.1 hp.2.1 hp.2.2 hp.2.2
 · exact entN
end Go.Proofs.YtgfifkhbfdacjaaGreatDoor
