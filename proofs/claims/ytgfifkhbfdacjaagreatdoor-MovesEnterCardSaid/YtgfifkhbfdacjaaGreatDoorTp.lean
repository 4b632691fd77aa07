/- Contracts: valid.Check's questions. Conditions: sizes. Contracts: valid.Check: each's loops. Conditions: sizes. -/
import Derived.Test.YtgfifkhbfdacjaaGreatDoorTm
namespace Go.Proofs.YtgfifkhbfdacjaaGreatDoor
open Go Go.Ev
set_option maxRecDepth 100000
def KX:Cfg:=⟨aW,[pr]⟩
theorem JQ:ag Tryz.prog KX.tab:=(ag.cons Cq ag.nil)
variable (c:Chart) (a:List Str) (i:Int) (b l:List Str)
def fR:List Str:=gX [[c.name],c.events,a,b]
theorem Mt (h:(fR c a b).length≤1000000):ah Tryz.prog 77 [.p (.ref .chart c 0),.p (.ref .strs a 0),.p (.ref .strs b 0)] [] (.x (.c (.own 0))) [.own 9 .str (fR c a b)]:=by
 refine dg JQ Tryz.func77 (.need ((gX [[c.name],c.events,a,b]).length≤1000000) (.ret (.x (.c (.own 0))) [.own 9 .str (gX [[c.name],c.events,a,b])])) fun Γ=>?_
 exact ⟨h,rfl,rfl⟩
def eQ2:Ent:=(77,fun
 | [.c (.pd (.ref .chart c 0)),.c (.pd (.ref .strs a 0)),.c (.pd (.ref .strs b 0))],[]=>some (some ((fR c a b).length≤1000000),.x (.c (.own 0)),[.own 9 .str (fR c a b)])
 | _,_=>none)
theorem Om:EntOk Tryz.prog eQ2:=entOk fun vs ck=>by
 unfold eQ2; dsimp only; split
 · rename_i c a b; exact entS fun hp=>Mt c a b hp
 · exact entN
def Es:Cfg:=⟨aW,[jK]⟩
theorem GL:ag Tryz.prog Es.tab:=(ag.cons iI ag.nil)
theorem IC (s:Str):ah Tryz.prog 83 [.s s] [] (.x (.b (!a8 s))) []:=by
 refine dg GL Tryz.func83 (.ret (.p (.bool !a8 s)) []) fun Γ=>⟨rfl,rfl⟩
def B6:Ent:=(83,fun
 | [.c (.pd (.str s))],[]=>some (none,.x (.c (.pd (.bool (!a8 s)))),[])
 | _,_=>none)
theorem Ng:EntOk Tryz.prog B6:=entOk fun vs ck=>by
 unfold B6; dsimp only; split
 · rename_i s; exact entS fun hp=>IC s
 · exact entN
def Cp:Cfg:=⟨aW,[B6]⟩
theorem yN:ag Tryz.prog Cp.tab:=(ag.cons Ng ag.nil)
abbrev zTo1:List PI:=[.code [1,0,1,0,0],.inLoop [1,0,1,0,0],.inBlock 0,.code [1,1]]
theorem J0 (Γ:Ctx) (hl:l.length≤maxLen)  : ∀ (n k:Nat),l.length - k≤n→k≤l.length →
 J Tryz.prog 133 (av Tryz.f133) Γ (Eq2 (.x (.i (aE (fun s:Str=>!a8 s) (l.drop k) k))) []) zTo1 ({ n:=19,fr:=[(0,.p (.lst .str l)),(1,.x (.c (.fn (.func 83) [] []))),(4,.i 0),(7,.i l.length),(8,.i k)],ck:=[] }):=by
 intro n
 induction n with
 | zero=>?_
 | succ n ih=>?_
 all_goals
  intro k hn hk
  refine jg yN Tryz.func133 (.ite (decide ((k:Int)<(l.length:Int))) (.need (inRg k l.length) (.ite (!a8 (ETy.get .str l k)) (.ret (.i k) []) (.stop zTo1 { n:=19,fr:=[(0,.p (.lst .str l)),(1,.x (.c (.fn (.func 83) [] []))),(4,.i 0),(7,.i l.length),(8,.i (IntKind.wrap .i64 ((k:Int)+1)))],ck:=[] }))) (.ret (.i (-1:Int)) [])) ?_
  refine ⟨fun hlt=>?_,fun hge=>?_⟩
  · have hk':k<l.length:=by have:=of_decide_eq_true hlt; omega
    rw [br (t:=.str) (l:=l) hk']
    refine ⟨by omega,?_⟩
    generalize ETy.get .str l k=v
    refine ⟨fun hb=>⟨?_,rfl⟩,fun hb=>?_⟩
    · simp only [aE,hb,cond_true]
    · simp only [aE,hb,cond_false]; (rw [aU (aB hk' hl)]; first | (exfalso; omega) | exact ih (k+1) (by omega) (by omega))
  · rw [bE (l:=l) (by have:=of_decide_eq_false hge; omega)]
    exact ⟨rfl,rfl⟩
theorem J2:ah Tryz.prog 133 [.l .str (l),SX.c (SC.fn (Fn.func 83) [] [])] [] (.x (.i (aE (fun s:Str=>!a8 s) l 0))) []:=by
 refine dg yN Tryz.func133 (.stop zTo1 { n:=19,fr:=[(0,.p (.lst .str l)),(1,.x (.c (.fn (.func 83) [] []))),(4,.i 0),(7,.i l.length),(8,.i 0)],ck:=[] }) fun Γ=>?_
 exact J.len 0 rfl fun hl=>J0 l Γ hl l.length 0 (by omega) (by omega)
def BY:Ent:=(133,fun
 | [.c (.pd (.lst .str l)),.c (.fn (.func 83) [] [])],[]=>some (none,.x (.c (.pd (.int .i64 (aE (fun s:Str=>!a8 s) l 0)))),[])
 | _,_=>none)
theorem Mm:EntOk Tryz.prog BY:=entOk fun vs ck=>by
 unfold BY; dsimp only; split
 · rename_i l; exact entS fun hp=>J2 l
 · exact entN
def K1:Cfg:=⟨aW,[BY]⟩
theorem Km:ag Tryz.prog K1.tab:=(ag.cons Mm ag.nil)
theorem Nh:ah Tryz.prog 82 [.l .str l,.c (.fn (.func 83) [] [])] [] (.x (.b (l.any fun s:Str=>!a8 s))) []:=by
 refine dg Km Tryz.func82 (.ret (.p (.bool (decide (aE (fun s=>!a8 s) l (0:Int)≥0)))) []) fun Γ=>⟨?_,rfl⟩
 rw [iA _ _ _ (by omega)]
def eCf:Ent:=(82,fun
 | [.c (.pd (.lst .str l)),.c (.fn (.func 83) [] [])],[]=>some (none,.x (.c (.pd (.bool (l.any fun s:Str=>!a8 s)))),[])
 | _,_=>none)
theorem Ns:EntOk Tryz.prog eCf:=entOk fun vs ck=>by
 unfold eCf; dsimp only; split
 · rename_i l; exact entS fun hp=>Nh l
 · exact entN
def KH:Cfg:=⟨aW,[eQ2,eCf,kB]⟩
theorem IB:ag Tryz.prog KH.tab:=(ag.cons Om (ag.cons Ns (ag.cons jB ag.nil)))
theorem Mj (h:(fR c a b).length≤1000000):ah Tryz.prog 81 [.p (.fnAt [(77,[.ref .chart c 0,.ref .strs a 0,.ref .strs b 0])] 0)] [] (.x (.i (bU (!(fR c a b).any fun s:Str=>!a8 s) 2))) []:=by
 refine dg IB Tryz.func81 (.need ((fR c a b).length≤1000000) (.ret (.i (bU (!List.any (fR c a b) fun s=>!a8 s) (2:Int))) [])) fun Γ=>?_
 exact ⟨h,rfl,rfl⟩
def eQ4:Ent:=(81,fun
 | [.c (.pd (.fnAt [(77,[.ref .chart c 0,.ref .strs a 0,.ref .strs b 0])] 0))],[]=>some (some ((fR c a b).length≤1000000),.x (.c (.pd (.int .i64 (bU (!(fR c a b).any fun s:Str=>!a8 s) 2)))),[])
 | _,_=>none)
theorem Oq:EntOk Tryz.prog eQ4:=entOk fun vs ck=>by
 unfold eQ4; dsimp only; split
 · rename_i c a b; exact entS fun hp=>Mj c a b hp
 · exact entN
def ig:Bool:=decide ((c.events.length:Int)≤12)&&decide ((c.vars.length:Int)≤8)&&decide ((c.states.length:Int)≤40)&&decide ((c.trans.length:Int)≤48)
def iX:Bool:=gC c.events&&gC a&&gC b
def KI:Cfg:=⟨aW,[kB]⟩
theorem Iv:ag Tryz.prog KI.tab:=(ag.cons jB ag.nil)
theorem Nk:ah Tryz.prog 79 [.p (.ref .chart c 0)] [] (.x (.i (bU (ig c) 4))) []:=by
 refine dg Iv Tryz.func79 (.ret (.i (bU (decide ((c.events.length:Int)≤12)&&decide ((c.vars.length:Int)≤8)&&decide ((c.states.length:Int)≤40)&&decide ((c.trans.length:Int)≤48)) (4:Int))) []) fun Γ=>⟨rfl,rfl⟩
def eQ3:Ent:=(79,fun
 | [.c (.pd (.ref .chart c 0))],[]=>some (none,.x (.c (.pd (.int .i64 (bU (ig c) 4)))),[])
 | _,_=>none)
theorem NM:EntOk Tryz.prog eQ3:=entOk fun vs ck=>by
 unfold eQ3; dsimp only; split
 · rename_i c; exact entS fun hp=>Nk c
 · exact entN
def KC:Cfg:=⟨aW,[vW,kB]⟩
theorem HF:ag Tryz.prog KC.tab:=(ag.cons Kr (ag.cons jB ag.nil))
theorem M0 (h:c.events.length≤1000000∧a.length≤1000000∧b.length≤1000000):ah Tryz.prog 84 [.p (.ref .chart c 0),.p (.ref .strs a 0),.p (.ref .strs b 0)] [] (.x (.i (bU (iX c a b) 3))) []:=by
 refine dg HF Tryz.func84 (.need (c.events.length≤1000000) (.need (gC c.events=true→a.length≤1000000) (.need ((gC c.events&&gC a)=true→b.length≤1000000) (.ret (.i (bU (gC c.events&&gC a&&gC b) (3:Int))) [])))) fun Γ=>?_
 exact ⟨h.1,fun _=>h.2.1,fun _=>h.2.2,rfl,rfl⟩
def eQ5:Ent:=(84,fun
 | [.c (.pd (.ref .chart c 0)),.c (.pd (.ref .strs a 0)),.c (.pd (.ref .strs b 0))],[]=>some (some (c.events.length≤1000000∧a.length≤1000000∧b.length≤1000000),.x (.c (.pd (.int .i64 (bU (iX c a b) 3)))),[])
 | _,_=>none)
theorem NK:EntOk Tryz.prog eQ5:=entOk fun vs ck=>by
 unfold eQ5; dsimp only; split
 · rename_i c a b; exact entS fun hp=>M0 c a b hp
 · exact entN
def KA:Cfg:=⟨aW,[mA,kB]⟩
theorem Ka:ag Tryz.prog KA.tab:=(ag.cons rD (ag.cons jB ag.nil))
theorem Mi (h:c.states.length≤maxLen):ah Tryz.prog 86 [.p (.ref .chart c 0)] [] (.x (.i (bU (b6 c.states) 9))) []:=by
 refine dg Ka Tryz.func86 (.need (c.states.length≤maxLen) (.ret (.i (bU (b6 c.states) (9:Int))) [])) fun Γ=>?_
 exact ⟨h,rfl,rfl⟩
def eQ6:Ent:=(86,fun
 | [.c (.pd (.ref .chart c 0))],[]=>some (some (c.states.length≤maxLen),.x (.c (.pd (.int .i64 (bU (b6 c.states) 9)))),[])
 | _,_=>none)
theorem NT:EntOk Tryz.prog eQ6:=entOk fun vs ck=>by
 unfold eQ6; dsimp only; split
 · rename_i c; exact entS fun hp=>Mi c hp
 · exact entN
def rQ:Cfg:=⟨aW,[sb,vQ,wu,CA]⟩
theorem np:ag Tryz.prog rQ.tab:=(ag.cons FH (ag.cons IA (ag.cons Ig (ag.cons M5 ag.nil))))
theorem Mx (h:0≤i∧i<(c.states.length:Int)∧c.states.length≤maxLen):ah Tryz.prog 88 [.i i,.p (.ref .chart c 0)] [] (.x (.i (di c.states i.toNat))) []:=by
 refine dg np Tryz.func88 (.need ((0:Int)≤i∧i<(c.states.length:Int)∧c.states.length≤maxLen) (.ret (.i (di c.states (Int.toNat i))) [])) fun Γ=>⟨h,rfl,rfl⟩
def eQ7:Ent:=(88,fun
 | [.c (.pd (.int .i64 i)),.c (.pd (.ref .chart c 0))],[]=>some (some (0≤i∧i<(c.states.length:Int)∧c.states.length≤maxLen),.x (.c (.pd (.int .i64 (di c.states i.toNat)))),[])
 | _,_=>none)
theorem N4:EntOk Tryz.prog eQ7:=entOk fun vs ck=>by
 unfold eQ7; dsimp only; split
 · rename_i i c; exact entS fun hp=>Mx c i hp
 · exact entN
theorem Mw (h:0≤i∧i<(c.vars.length:Int)):ah Tryz.prog 90 [.i i,.p (.ref .chart c 0)] [] (.x (.i (eo (ETy.get .var c.vars i.toNat)))) []:=by
 refine dg np Tryz.func90 (.need ((0:Int)≤i∧i<(c.vars.length:Int)) (.ret (.i (eo (ETy.get .var c.vars (Int.toNat i)))) [])) fun Γ=>⟨h,rfl,rfl⟩
def eQ8:Ent:=(90,fun
 | [.c (.pd (.int .i64 i)),.c (.pd (.ref .chart c 0))],[]=>some (some (0≤i∧i<(c.vars.length:Int)),.x (.c (.pd (.int .i64 (eo (ETy.get .var c.vars i.toNat))))),[])
 | _,_=>none)
theorem Oe:EntOk Tryz.prog eQ8:=entOk fun vs ck=>by
 unfold eQ8; dsimp only; split
 · rename_i i c; exact entS fun hp=>Mw c i hp
 · exact entN
theorem LU (h:0≤i∧i<(c.states.length:Int)):ah Tryz.prog 92 [.i i,.p (.ref .chart c 0)] [] (.x (.i (cS c (ETy.get .stat c.states i.toNat)))) []:=by
 refine dg np Tryz.func92 (.need ((0:Int)≤i∧i<(c.states.length:Int)) (.ret (.i (cS c (ETy.get .stat c.states (Int.toNat i)))) [])) fun Γ=>⟨h,rfl,rfl⟩
def eQ9:Ent:=(92,fun
 | [.c (.pd (.int .i64 i)),.c (.pd (.ref .chart c 0))],[]=>some (some (0≤i∧i<(c.states.length:Int)),.x (.c (.pd (.int .i64 (cS c (ETy.get .stat c.states i.toNat))))),[])
 | _,_=>none)
theorem Nz:EntOk Tryz.prog eQ9:=entOk fun vs ck=>by
 unfold eQ9; dsimp only; split
 · rename_i i c; exact entS fun hp=>LU c i hp
 · exact entN
theorem J1 (h:0≤i∧i<(c.trans.length:Int)∧c.states.length≤maxLen∧c.trans.length≤maxLen):ah Tryz.prog 94 [.i i,.p (.ref .chart c 0),.p (.ref .strs l 0)] [] (.x (.i (cM c i.toNat l (ETy.get .tran c.trans i.toNat)))) []:=by
 refine dg np Tryz.func94 (.need ((0:Int)≤i∧i<(c.trans.length:Int)∧c.states.length≤maxLen∧c.trans.length≤maxLen) (.ret (.i (cM c (Int.toNat i) l (ETy.get .tran c.trans (Int.toNat i)))) [])) fun Γ=>⟨h,rfl,rfl⟩
def BM:Ent:=(94,fun
 | [.c (.pd (.int .i64 i)),.c (.pd (.ref .chart c 0)),.c (.pd (.ref .strs l 0))],[]=>some (some (0≤i∧i<(c.trans.length:Int)∧c.states.length≤maxLen∧c.trans.length≤maxLen),.x (.c (.pd (.int .i64 (cM c i.toNat l (ETy.get .tran c.trans i.toNat))))),[])
 | _,_=>none)
theorem LI:EntOk Tryz.prog BM:=entOk fun vs ck=>by
 unfold BM; dsimp only; split
 · rename_i i c l; exact entS fun hp=>J1 c i l hp
 · exact entN
end Go.Proofs.YtgfifkhbfdacjaaGreatDoor
namespace Go.Proofs.YtgfifkhbfdacjaaGreatDoor
open Go Go.Ev
set_option maxRecDepth 100000
abbrev zJ75Tp:=J Tryz.prog 75 (av Tryz.f75)
def bT (f:Nat→Int):Nat→Nat→Int
 | _,0=>0
 | k,m+1=>if (f k != 0)=true then f k else bT f (k+1) m
theorem jQ (f:Nat→Int) {k n:Nat} (h:k<n):bT f k (n - k)=if (f k != 0)=true then f k else bT f (k+1) (n - (k+1)):=by
 obtain ⟨m,hm⟩:∃ m,n - k=m+1:=⟨n - k - 1,by omega⟩
 rw [hm,show n - (k+1)=m by omega]; rfl
def B3:Cfg:=⟨aW,[eQ7]⟩
theorem yf:ag Tryz.prog B3.tab:=(ag.cons N4 ag.nil)
abbrev zTp1:List PI:=[.code [1,0,1,0,0],.inLoop [1,0,1,0,0],.inBlock 0,.code [1,1]]
variable (c:Chart) (l:List Str) (n:Nat) (Γ:Ctx)
theorem Nb (hn:n≤c.states.length) (h0:c.states.length≤maxLen) (hm:n≤maxLen):∀ (m k:Nat),n - k≤m→k≤n →
 zJ75Tp Γ (Eq2 (.x (.i (bT (fun k:Nat=>di c.states k) k (n - k)))) []) zTp1 ({ n:=16,fr:=[(1,.p (PD.fnAt [(88,[.ref .chart c 0])] 0)),(2,.i 0),(5,.i n),(6,.i ((k:Int)))],ck:=[] }):=by
 intro m
 induction m with
 | zero=>?_
 | succ m ih=>?_
 all_goals
  intro k hmk hk
  refine jg yf Tryz.func75 (.ite (decide ((k:Int)<(n:Int))) (.need ((0:Int)≤(k:Int)∧(k:Int)<(c.states.length:Int)∧c.states.length≤maxLen) (.ite (di c.states k != (0:Int)) (.ret (.i (di c.states k)) []) (.stop zTp1 { n:=16,fr:=[(1,.p (PD.fnAt [(88,[.ref .chart c 0])] 0)),(2,.i 0),(5,.i n),(6,.i (IntKind.wrap .i64 ((k:Int)+1)))],ck:=[] }))) (.ret (.i 0) [])) ?_
  refine ⟨fun hlt=>?_,fun hge=>?_⟩
  · have hk':k<n:=by have:=of_decide_eq_true hlt; omega
    rw [jQ _ hk']
    refine ⟨⟨by omega,by omega,h0⟩,fun hb=>?_,fun hb=>?_⟩
    · rw [if_pos (by exact hb)]; exact ⟨rfl,rfl⟩
    · rw [if_neg (by rw [show _=false from hb]; decide)]
      rw [aU (aB hk' hm)]
      first | (exfalso; omega) | exact ih (k+1) (by omega) (by omega)
  · have hke:n - k=0:=by have:=of_decide_eq_false hge; omega
    rw [hke]; exact ⟨rfl,rfl⟩
theorem Og (hn:n≤c.states.length) (h0:c.states.length≤maxLen) (hm:n≤maxLen):ah Tryz.prog 75 [.p (.ref .int (n:Int) 0),.p (.fnAt [(88,[.ref .chart c 0])] 0)] [] (.x (.i (bT (fun k:Nat=>di c.states k) 0 n))) []:=by
 refine dg yf Tryz.func75 (.stop zTp1 { n:=16,fr:=[(1,.p (PD.fnAt [(88,[.ref .chart c 0])] 0)),(2,.i 0),(5,.i n),(6,.i 0)],ck:=[] }) fun Γ=>?_
 exact Nb c n Γ hn h0 hm n 0 (by omega) (by omega)
theorem MZ (n:Int) (h:n=(c.states.length:Int)) (h0:c.states.length≤maxLen) (hm:c.states.length≤maxLen):ah Tryz.prog 75 [.p (.ref .int n 0),.p (.fnAt [(88,[.ref .chart c 0])] 0)] [] (.x (.i (bT (fun k:Nat=>di c.states k) 0 c.states.length))) []:=by
 subst h
 exact Og c _ (au _) h0 hm
def Ct:Cfg:=⟨aW,[eQ8]⟩
theorem wS:ag Tryz.prog Ct.tab:=(ag.cons Oe ag.nil)
theorem Lm (hn:n≤c.vars.length) (hm:n≤maxLen):∀ (m k:Nat),n - k≤m→k≤n →
 zJ75Tp Γ (Eq2 (.x (.i (bT (fun k:Nat=>eo (ETy.get .var c.vars k)) k (n - k)))) []) zTp1 ({ n:=16,fr:=[(1,.p (PD.fnAt [(90,[.ref .chart c 0])] 0)),(2,.i 0),(5,.i n),(6,.i ((k:Int)))],ck:=[] }):=by
 intro m
 induction m with
 | zero=>?_
 | succ m ih=>?_
 all_goals
  intro k hmk hk
  refine jg wS Tryz.func75 (.ite (decide ((k:Int)<(n:Int))) (.need (inRg k c.vars.length) (.ite (eo (ETy.get .var c.vars k) != (0:Int)) (.ret (.i (eo (ETy.get .var c.vars k))) []) (.stop zTp1 { n:=16,fr:=[(1,.p (PD.fnAt [(90,[.ref .chart c 0])] 0)),(2,.i 0),(5,.i n),(6,.i (IntKind.wrap .i64 ((k:Int)+1)))],ck:=[] }))) (.ret (.i 0) [])) ?_
  refine ⟨fun hlt=>?_,fun hge=>?_⟩
  · have hk':k<n:=by have:=of_decide_eq_true hlt; omega
    rw [jQ _ hk']
    refine ⟨⟨by omega,by omega⟩,fun hb=>?_,fun hb=>?_⟩
    · rw [if_pos (by exact hb)]; exact ⟨rfl,rfl⟩
    · rw [if_neg (by rw [show _=false from hb]; decide)]
      rw [aU (aB hk' hm)]
      first | (exfalso; omega) | exact ih (k+1) (by omega) (by omega)
  · have hke:n - k=0:=by have:=of_decide_eq_false hge; omega
    rw [hke]; exact ⟨rfl,rfl⟩
theorem Oi (hn:n≤c.vars.length) (hm:n≤maxLen):ah Tryz.prog 75 [.p (.ref .int (n:Int) 0),.p (.fnAt [(90,[.ref .chart c 0])] 0)] [] (.x (.i (bT (fun k:Nat=>eo (ETy.get .var c.vars k)) 0 n))) []:=by
 refine dg wS Tryz.func75 (.stop zTp1 { n:=16,fr:=[(1,.p (PD.fnAt [(90,[.ref .chart c 0])] 0)),(2,.i 0),(5,.i n),(6,.i 0)],ck:=[] }) fun Γ=>?_
 exact Lm c n Γ hn hm n 0 (by omega) (by omega)
theorem Mg (n:Int) (h:n=(c.vars.length:Int)) (hm:c.vars.length≤maxLen):ah Tryz.prog 75 [.p (.ref .int n 0),.p (.fnAt [(90,[.ref .chart c 0])] 0)] [] (.x (.i (bT (fun k:Nat=>eo (ETy.get .var c.vars k)) 0 c.vars.length))) []:=by
 subst h
 exact Oi c _ (au _) hm
def Ds:Cfg:=⟨aW,[eQ9]⟩
theorem yI:ag Tryz.prog Ds.tab:=(ag.cons Nz ag.nil)
theorem LK (hn:n≤c.states.length) (hm:n≤maxLen):∀ (m k:Nat),n - k≤m→k≤n →
 zJ75Tp Γ (Eq2 (.x (.i (bT (fun k:Nat=>cS c (ETy.get .stat c.states k)) k (n - k)))) []) zTp1 ({ n:=16,fr:=[(1,.p (PD.fnAt [(92,[.ref .chart c 0])] 0)),(2,.i 0),(5,.i n),(6,.i ((k:Int)))],ck:=[] }):=by
 intro m
 induction m with
 | zero=>?_
 | succ m ih=>?_
 all_goals
  intro k hmk hk
  refine jg yI Tryz.func75 (.ite (decide ((k:Int)<(n:Int))) (.need (inRg k c.states.length) (.ite (cS c (ETy.get .stat c.states k) != (0:Int)) (.ret (.i (cS c (ETy.get .stat c.states k))) []) (.stop zTp1 { n:=16,fr:=[(1,.p (PD.fnAt [(92,[.ref .chart c 0])] 0)),(2,.i 0),(5,.i n),(6,.i (IntKind.wrap .i64 ((k:Int)+1)))],ck:=[] }))) (.ret (.i 0) [])) ?_
  refine ⟨fun hlt=>?_,fun hge=>?_⟩
  · have hk':k<n:=by have:=of_decide_eq_true hlt; omega
    rw [jQ _ hk']
    refine ⟨⟨by omega,by omega⟩,fun hb=>?_,fun hb=>?_⟩
    · rw [if_pos (by exact hb)]; exact ⟨rfl,rfl⟩
    · rw [if_neg (by rw [show _=false from hb]; decide)]
      rw [aU (aB hk' hm)]
      first | (exfalso; omega) | exact ih (k+1) (by omega) (by omega)
  · have hke:n - k=0:=by have:=of_decide_eq_false hge; omega
    rw [hke]; exact ⟨rfl,rfl⟩
theorem NF (hn:n≤c.states.length) (hm:n≤maxLen):ah Tryz.prog 75 [.p (.ref .int (n:Int) 0),.p (.fnAt [(92,[.ref .chart c 0])] 0)] [] (.x (.i (bT (fun k:Nat=>cS c (ETy.get .stat c.states k)) 0 n))) []:=by
 refine dg yI Tryz.func75 (.stop zTp1 { n:=16,fr:=[(1,.p (PD.fnAt [(92,[.ref .chart c 0])] 0)),(2,.i 0),(5,.i n),(6,.i 0)],ck:=[] }) fun Γ=>?_
 exact LK c n Γ hn hm n 0 (by omega) (by omega)
theorem Lx (n:Int) (h:n=(c.states.length:Int)) (hm:c.states.length≤maxLen):ah Tryz.prog 75 [.p (.ref .int n 0),.p (.fnAt [(92,[.ref .chart c 0])] 0)] [] (.x (.i (bT (fun k:Nat=>cS c (ETy.get .stat c.states k)) 0 c.states.length))) []:=by
 subst h
 exact NF c _ (au _) hm
def wI:Cfg:=⟨aW,[BM]⟩
theorem uO:ag Tryz.prog wI.tab:=(ag.cons LI ag.nil)
theorem IX (hn:n≤c.trans.length) (h0:c.states.length≤maxLen) (h1:c.trans.length≤maxLen) (hm:n≤maxLen):∀ (m k:Nat),n - k≤m→k≤n →
 zJ75Tp Γ (Eq2 (.x (.i (bT (fun k:Nat=>cM c k l (ETy.get .tran c.trans k)) k (n - k)))) []) zTp1 ({ n:=16,fr:=[(1,.p (PD.fnAt [(94,[.ref .chart c 0,.ref .strs l 0])] 0)),(2,.i 0),(5,.i n),(6,.i ((k:Int)))],ck:=[] }):=by
 intro m
 induction m with
 | zero=>?_
 | succ m ih=>?_
 all_goals
  intro k hmk hk
  refine jg uO Tryz.func75 (.ite (decide ((k:Int)<(n:Int))) (.need ((0:Int)≤(k:Int)∧(k:Int)<(c.trans.length:Int)∧c.states.length≤maxLen∧c.trans.length≤maxLen) (.ite (cM c k l (ETy.get .tran c.trans k) != (0:Int)) (.ret (.i (cM c k l (ETy.get .tran c.trans k))) []) (.stop zTp1 { n:=16,fr:=[(1,.p (PD.fnAt [(94,[.ref .chart c 0,.ref .strs l 0])] 0)),(2,.i 0),(5,.i n),(6,.i (IntKind.wrap .i64 ((k:Int)+1)))],ck:=[] }))) (.ret (.i 0) [])) ?_
  refine ⟨fun hlt=>?_,fun hge=>?_⟩
  · have hk':k<n:=by have:=of_decide_eq_true hlt; omega
    rw [jQ _ hk']
    refine ⟨⟨by omega,by omega,h0,h1⟩,fun hb=>?_,fun hb=>?_⟩
    · rw [if_pos (by exact hb)]; exact ⟨rfl,rfl⟩
    · rw [if_neg (by rw [show _=false from hb]; decide)]
      rw [aU (aB hk' hm)]
      first | (exfalso; omega) | exact ih (k+1) (by omega) (by omega)
  · have hke:n - k=0:=by have:=of_decide_eq_false hge; omega
    rw [hke]; exact ⟨rfl,rfl⟩
theorem MM (hn:n≤c.trans.length) (h0:c.states.length≤maxLen) (h1:c.trans.length≤maxLen) (hm:n≤maxLen):ah Tryz.prog 75 [.p (.ref .int (n:Int) 0),.p (.fnAt [(94,[.ref .chart c 0,.ref .strs l 0])] 0)] [] (.x (.i (bT (fun k:Nat=>cM c k l (ETy.get .tran c.trans k)) 0 n))) []:=by
 refine dg uO Tryz.func75 (.stop zTp1 { n:=16,fr:=[(1,.p (PD.fnAt [(94,[.ref .chart c 0,.ref .strs l 0])] 0)),(2,.i 0),(5,.i n),(6,.i 0)],ck:=[] }) fun Γ=>?_
 exact IX c l n Γ hn h0 h1 hm n 0 (by omega) (by omega)
theorem JU (n:Int) (h:n=(c.trans.length:Int)) (h0:c.states.length≤maxLen) (h1:c.trans.length≤maxLen) (hm:c.trans.length≤maxLen):ah Tryz.prog 75 [.p (.ref .int n 0),.p (.fnAt [(94,[.ref .chart c 0,.ref .strs l 0])] 0)] [] (.x (.i (bT (fun k:Nat=>cM c k l (ETy.get .tran c.trans k)) 0 c.trans.length))) []:=by
 subst h
 exact MM c l _ (au _) h0 h1 hm
def eE7:Ent:=(75,fun
 | [.c (.pd (.ref .int n 0)),.c (.pd (.fnAt [(88,[.ref .chart c 0])] 0))],[]=>some (some (n=(c.states.length:Int)∧c.states.length≤maxLen),.x (.c (.pd (.int .i64 (bT (fun k:Nat=>di c.states k) 0 c.states.length)))),[])
 | _,_=>none)
theorem N0:EntOk Tryz.prog eE7:=entOk fun vs ck=>by
 unfold eE7; dsimp only; split
 · rename_i n c; exact entS fun hp=>MZ c n hp.1 hp.2 hp.2
 · exact entN
def eE8:Ent:=(75,fun
 | [.c (.pd (.ref .int n 0)),.c (.pd (.fnAt [(90,[.ref .chart c 0])] 0))],[]=>some (some (n=(c.vars.length:Int)∧c.vars.length≤maxLen),.x (.c (.pd (.int .i64 (bT (fun k:Nat=>eo (ETy.get .var c.vars k)) 0 c.vars.length)))),[])
 | _,_=>none)
theorem NC:EntOk Tryz.prog eE8:=entOk fun vs ck=>by
 unfold eE8; dsimp only; split
 · rename_i n c; exact entS fun hp=>Mg c n hp.1 hp.2
 · exact entN
def eE9:Ent:=(75,fun
 | [.c (.pd (.ref .int n 0)),.c (.pd (.fnAt [(92,[.ref .chart c 0])] 0))],[]=>some (some (n=(c.states.length:Int)∧c.states.length≤maxLen),.x (.c (.pd (.int .i64 (bT (fun k:Nat=>cS c (ETy.get .stat c.states k)) 0 c.states.length)))),[])
 | _,_=>none)
theorem Nv:EntOk Tryz.prog eE9:=entOk fun vs ck=>by
 unfold eE9; dsimp only; split
 · rename_i n c; exact entS fun hp=>Lx c n hp.1 hp.2
 · exact entN
def BD:Ent:=(75,fun
 | [.c (.pd (.ref .int n 0)),.c (.pd (.fnAt [(94,[.ref .chart c 0,.ref .strs l 0])] 0))],[]=>some (some (n=(c.trans.length:Int)∧c.states.length≤maxLen∧c.trans.length≤maxLen),.x (.c (.pd (.int .i64 (bT (fun k:Nat=>cM c k l (ETy.get .tran c.trans k)) 0 c.trans.length)))),[])
 | _,_=>none)
theorem MY:EntOk Tryz.prog BD:=entOk fun vs ck=>by
 unfold BD; dsimp only; split
 · rename_i n c l; exact entS fun hp=>JU c l n hp.1 hp.2.1 hp.2.2 hp.2.2
 · exact entN
end Go.Proofs.YtgfifkhbfdacjaaGreatDoor
