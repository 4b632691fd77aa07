/- Contracts: valid.Check's questions. Conditions: sizes. Contracts: valid.Check: each's loops. Conditions: sizes. -/
import Derived.Test.YtcopfgbbjdefbaaGreatDoorTm
namespace Go.Proofs.YtcopfgbbjdefbaaGreatDoor
open Go Go.Ev
set_option maxRecDepth 100000
def Jo:Cfg:=⟨aX,[ph]⟩
theorem GQ:ag Tryz.prog Jo.tab:=(ag.cons B2 ag.nil)
variable (c:Chart) (a:List Str) (i:Int) (b l:List Str)
def fF:List Str:=gG [[c.name],c.events,a,b]
theorem JU (h:(fF c a b).length≤1000000):ah Tryz.prog 85 [.p (.ref .chart c 0),.p (.ref .strs a 0),.p (.ref .strs b 0)] [] (.x (.c (.own 0))) [.own 9 .str (fF c a b)]:=by
 refine dg GQ Tryz.func85 (.need ((gG [[c.name],c.events,a,b]).length≤1000000) (.ret (.x (.c (.own 0))) [.own 9 .str (gG [[c.name],c.events,a,b])])) fun Γ=>?_
 exact ⟨h,rfl,rfl⟩
def eQ2:Ent:=(85,fun
 | [.c (.pd (.ref .chart c 0)),.c (.pd (.ref .strs a 0)),.c (.pd (.ref .strs b 0))],[]=>some (some ((fF c a b).length≤1000000),.x (.c (.own 0)),[.own 9 .str (fF c a b)])
 | _,_=>none)
theorem L2:EntOk Tryz.prog eQ2:=entOk fun vs ck=>by
 unfold eQ2; dsimp only; split
 · rename_i c a b; exact entS fun hp=>JU c a b hp
 · exact entN
def FI:Cfg:=⟨aX,[jv]⟩
theorem Fa:ag Tryz.prog FI.tab:=(ag.cons ij ag.nil)
theorem HX (s:Str):ah Tryz.prog 91 [.s s] [] (.x (.b (!ba s))) []:=by
 refine dg Fa Tryz.func91 (.ret (.p (.bool !ba s)) []) fun Γ=>⟨rfl,rfl⟩
def Ce:Ent:=(91,fun
 | [.c (.pd (.str s))],[]=>some (none,.x (.c (.pd (.bool (!ba s)))),[])
 | _,_=>none)
theorem Ks:EntOk Tryz.prog Ce:=entOk fun vs ck=>by
 unfold Ce; dsimp only; split
 · rename_i s; exact entS fun hp=>HX s
 · exact entN
def Be:Cfg:=⟨aX,[Ce]⟩
theorem xQ:ag Tryz.prog Be.tab:=(ag.cons Ks ag.nil)
abbrev zTo1:List PI:=[.code [1,0,1,0,0],.inLoop [1,0,1,0,0],.inBlock 0,.code [1,1]]
theorem GR (Γ:Ctx) (hl:l.length≤maxLen)  : ∀ (n k:Nat),l.length - k≤n→k≤l.length →
 J Tryz.prog 137 (aw Tryz.f137) Γ (Eq2 (.x (.i (aG (fun s:Str=>!ba s) (l.drop k) k))) []) zTo1 ({ n:=19,fr:=[(0,.p (.lst .str l)),(1,.x (.c (.fn (.func 91) [] []))),(4,.i 0),(7,.i l.length),(8,.i k)],ck:=[] }):=by
 intro n
 induction n with
 | zero=>?_
 | succ n ih=>?_
 all_goals
  intro k hn hk
  refine jg xQ Tryz.func137 (.ite (decide ((k:Int)<(l.length:Int))) (.need (inRg k l.length) (.ite (!ba (ETy.get .str l k)) (.ret (.i k) []) (.stop zTo1 { n:=19,fr:=[(0,.p (.lst .str l)),(1,.x (.c (.fn (.func 91) [] []))),(4,.i 0),(7,.i l.length),(8,.i (IntKind.wrap .i64 ((k:Int)+1)))],ck:=[] }))) (.ret (.i (-1:Int)) [])) ?_
  refine ⟨fun hlt=>?_,fun hge=>?_⟩
  · have hk':k<l.length:=by have:=of_decide_eq_true hlt; omega
    rw [bI (t:=.str) (l:=l) hk']
    refine ⟨by omega,?_⟩
    generalize ETy.get .str l k=v
    refine ⟨fun hb=>⟨?_,rfl⟩,fun hb=>?_⟩
    · simp only [aG,hb,cond_true]
    · simp only [aG,hb,cond_false]; (rw [aZ (aC hk' hl)]; first | (exfalso; omega) | exact ih (k+1) (by omega) (by omega))
  · rw [bT (l:=l) (by have:=of_decide_eq_false hge; omega)]
    exact ⟨rfl,rfl⟩
theorem Ik:ah Tryz.prog 137 [.l .str (l),SX.c (SC.fn (Fn.func 91) [] [])] [] (.x (.i (aG (fun s:Str=>!ba s) l 0))) []:=by
 refine dg xQ Tryz.func137 (.stop zTo1 { n:=19,fr:=[(0,.p (.lst .str l)),(1,.x (.c (.fn (.func 91) [] []))),(4,.i 0),(7,.i l.length),(8,.i 0)],ck:=[] }) fun Γ=>?_
 exact J.len 0 rfl fun hl=>GR l Γ hl l.length 0 (by omega) (by omega)
def A2:Ent:=(137,fun
 | [.c (.pd (.lst .str l)),.c (.fn (.func 91) [] [])],[]=>some (none,.x (.c (.pd (.int .i64 (aG (fun s:Str=>!ba s) l 0)))),[])
 | _,_=>none)
theorem KF:EntOk Tryz.prog A2:=entOk fun vs ck=>by
 unfold A2; dsimp only; split
 · rename_i l; exact entS fun hp=>Ik l
 · exact entN
def Jf:Cfg:=⟨aX,[A2]⟩
theorem Gi:ag Tryz.prog Jf.tab:=(ag.cons KF ag.nil)
theorem K5:ah Tryz.prog 90 [.l .str l,.c (.fn (.func 91) [] [])] [] (.x (.b (l.any fun s:Str=>!ba s))) []:=by
 refine dg Gi Tryz.func90 (.ret (.p (.bool (decide (aG (fun s=>!ba s) l (0:Int)≥0)))) []) fun Γ=>⟨?_,rfl⟩
 rw [gg _ _ _ (by omega)]
def eCf:Ent:=(90,fun
 | [.c (.pd (.lst .str l)),.c (.fn (.func 91) [] [])],[]=>some (none,.x (.c (.pd (.bool (l.any fun s:Str=>!ba s)))),[])
 | _,_=>none)
theorem Mf:EntOk Tryz.prog eCf:=entOk fun vs ck=>by
 unfold eCf; dsimp only; split
 · rename_i l; exact entS fun hp=>K5 l
 · exact entN
def Jh:Cfg:=⟨aX,[eQ2,eCf,j4]⟩
theorem G3:ag Tryz.prog Jh.tab:=(ag.cons L2 (ag.cons Mf (ag.cons jk ag.nil)))
theorem K9 (h:(fF c a b).length≤1000000):ah Tryz.prog 89 [.p (.fnAt [(85,[.ref .chart c 0,.ref .strs a 0,.ref .strs b 0])] 0)] [] (.x (.i (bW (!(fF c a b).any fun s:Str=>!ba s) 2))) []:=by
 refine dg G3 Tryz.func89 (.need ((fF c a b).length≤1000000) (.ret (.i (bW (!List.any (fF c a b) fun s=>!ba s) (2:Int))) [])) fun Γ=>?_
 exact ⟨h,rfl,rfl⟩
def eQ4:Ent:=(89,fun
 | [.c (.pd (.fnAt [(85,[.ref .chart c 0,.ref .strs a 0,.ref .strs b 0])] 0))],[]=>some (some ((fF c a b).length≤1000000),.x (.c (.pd (.int .i64 (bW (!(fF c a b).any fun s:Str=>!ba s) 2)))),[])
 | _,_=>none)
theorem Mr:EntOk Tryz.prog eQ4:=entOk fun vs ck=>by
 unfold eQ4; dsimp only; split
 · rename_i c a b; exact entS fun hp=>K9 c a b hp
 · exact entN
def gM:Bool:=decide ((c.events.length:Int)≤12)&&decide ((c.vars.length:Int)≤8)&&decide ((c.states.length:Int)≤40)&&decide ((c.trans.length:Int)≤48)
def iO:Bool:=gm c.events&&gm a&&gm b
def Jj:Cfg:=⟨aX,[j4]⟩
theorem HI:ag Tryz.prog Jj.tab:=(ag.cons jk ag.nil)
theorem JR:ah Tryz.prog 87 [.p (.ref .chart c 0)] [] (.x (.i (bW (gM c) 4))) []:=by
 refine dg HI Tryz.func87 (.ret (.i (bW (decide ((c.events.length:Int)≤12)&&decide ((c.vars.length:Int)≤8)&&decide ((c.states.length:Int)≤40)&&decide ((c.trans.length:Int)≤48)) (4:Int))) []) fun Γ=>⟨rfl,rfl⟩
def eQ3:Ent:=(87,fun
 | [.c (.pd (.ref .chart c 0))],[]=>some (none,.x (.c (.pd (.int .i64 (bW (gM c) 4)))),[])
 | _,_=>none)
theorem Mv:EntOk Tryz.prog eQ3:=entOk fun vs ck=>by
 unfold eQ3; dsimp only; split
 · rename_i c; exact entS fun hp=>JR c
 · exact entN
def Jn:Cfg:=⟨aX,[vg,j4]⟩
theorem IX:ag Tryz.prog Jn.tab:=(ag.cons H6 (ag.cons jk ag.nil))
theorem JZ (h:c.events.length≤1000000∧a.length≤1000000∧b.length≤1000000):ah Tryz.prog 92 [.p (.ref .chart c 0),.p (.ref .strs a 0),.p (.ref .strs b 0)] [] (.x (.i (bW (iO c a b) 3))) []:=by
 refine dg IX Tryz.func92 (.need (c.events.length≤1000000) (.need (gm c.events=true→a.length≤1000000) (.need ((gm c.events&&gm a)=true→b.length≤1000000) (.ret (.i (bW (gm c.events&&gm a&&gm b) (3:Int))) [])))) fun Γ=>?_
 exact ⟨h.1,fun _=>h.2.1,fun _=>h.2.2,rfl,rfl⟩
def eQ5:Ent:=(92,fun
 | [.c (.pd (.ref .chart c 0)),.c (.pd (.ref .strs a 0)),.c (.pd (.ref .strs b 0))],[]=>some (some (c.events.length≤1000000∧a.length≤1000000∧b.length≤1000000),.x (.c (.pd (.int .i64 (bW (iO c a b) 3)))),[])
 | _,_=>none)
theorem Mn:EntOk Tryz.prog eQ5:=entOk fun vs ck=>by
 unfold eQ5; dsimp only; split
 · rename_i c a b; exact entS fun hp=>JZ c a b hp
 · exact entN
def Jt:Cfg:=⟨aX,[mu,j4]⟩
theorem HB:ag Tryz.prog Jt.tab:=(ag.cons qE (ag.cons jk ag.nil))
theorem Lq (h:c.states.length≤maxLen):ah Tryz.prog 94 [.p (.ref .chart c 0)] [] (.x (.i (bW (bZ c.states) 9))) []:=by
 refine dg HB Tryz.func94 (.need (c.states.length≤maxLen) (.ret (.i (bW (bZ c.states) (9:Int))) [])) fun Γ=>?_
 exact ⟨h,rfl,rfl⟩
def eQ6:Ent:=(94,fun
 | [.c (.pd (.ref .chart c 0))],[]=>some (some (c.states.length≤maxLen),.x (.c (.pd (.int .i64 (bW (bZ c.states) 9)))),[])
 | _,_=>none)
theorem LR:EntOk Tryz.prog eQ6:=entOk fun vs ck=>by
 unfold eQ6; dsimp only; split
 · rename_i c; exact entS fun hp=>Lq c hp
 · exact entN
def r4:Cfg:=⟨aX,[r9,vp,vr,Bz]⟩
theorem nc:ag Tryz.prog r4.tab:=(ag.cons DH (ag.cons IU (ag.cons Ih (ag.cons Lf ag.nil))))
theorem KR (h:0≤i∧i<(c.states.length:Int)∧c.states.length≤maxLen):ah Tryz.prog 96 [.i i,.p (.ref .chart c 0)] [] (.x (.i (dp c.states i.toNat))) []:=by
 refine dg nc Tryz.func96 (.need ((0:Int)≤i∧i<(c.states.length:Int)∧c.states.length≤maxLen) (.ret (.i (dp c.states (Int.toNat i))) [])) fun Γ=>⟨h,rfl,rfl⟩
def eQ7:Ent:=(96,fun
 | [.c (.pd (.int .i64 i)),.c (.pd (.ref .chart c 0))],[]=>some (some (0≤i∧i<(c.states.length:Int)∧c.states.length≤maxLen),.x (.c (.pd (.int .i64 (dp c.states i.toNat)))),[])
 | _,_=>none)
theorem Ly:EntOk Tryz.prog eQ7:=entOk fun vs ck=>by
 unfold eQ7; dsimp only; split
 · rename_i i c; exact entS fun hp=>KR c i hp
 · exact entN
theorem Kj (h:0≤i∧i<(c.vars.length:Int)):ah Tryz.prog 98 [.i i,.p (.ref .chart c 0)] [] (.x (.i (dX (ETy.get .var c.vars i.toNat)))) []:=by
 refine dg nc Tryz.func98 (.need ((0:Int)≤i∧i<(c.vars.length:Int)) (.ret (.i (dX (ETy.get .var c.vars (Int.toNat i)))) [])) fun Γ=>⟨h,rfl,rfl⟩
def eQ8:Ent:=(98,fun
 | [.c (.pd (.int .i64 i)),.c (.pd (.ref .chart c 0))],[]=>some (some (0≤i∧i<(c.vars.length:Int)),.x (.c (.pd (.int .i64 (dX (ETy.get .var c.vars i.toNat))))),[])
 | _,_=>none)
theorem LM:EntOk Tryz.prog eQ8:=entOk fun vs ck=>by
 unfold eQ8; dsimp only; split
 · rename_i i c; exact entS fun hp=>Kj c i hp
 · exact entN
theorem J1 (h:0≤i∧i<(c.states.length:Int)):ah Tryz.prog 100 [.i i,.p (.ref .chart c 0)] [] (.x (.i (cR c (ETy.get .stat c.states i.toNat)))) []:=by
 refine dg nc Tryz.func100 (.need ((0:Int)≤i∧i<(c.states.length:Int)) (.ret (.i (cR c (ETy.get .stat c.states (Int.toNat i)))) [])) fun Γ=>⟨h,rfl,rfl⟩
def eQ9:Ent:=(100,fun
 | [.c (.pd (.int .i64 i)),.c (.pd (.ref .chart c 0))],[]=>some (some (0≤i∧i<(c.states.length:Int)),.x (.c (.pd (.int .i64 (cR c (ETy.get .stat c.states i.toNat))))),[])
 | _,_=>none)
theorem Mc:EntOk Tryz.prog eQ9:=entOk fun vs ck=>by
 unfold eQ9; dsimp only; split
 · rename_i i c; exact entS fun hp=>J1 c i hp
 · exact entN
theorem Gv (h:0≤i∧i<(c.trans.length:Int)∧c.states.length≤maxLen∧c.trans.length≤maxLen):ah Tryz.prog 102 [.i i,.p (.ref .chart c 0),.p (.ref .strs l 0)] [] (.x (.i (cX c i.toNat l (ETy.get .tran c.trans i.toNat)))) []:=by
 refine dg nc Tryz.func102 (.need ((0:Int)≤i∧i<(c.trans.length:Int)∧c.states.length≤maxLen∧c.trans.length≤maxLen) (.ret (.i (cX c (Int.toNat i) l (ETy.get .tran c.trans (Int.toNat i)))) [])) fun Γ=>⟨h,rfl,rfl⟩
def Cs:Ent:=(102,fun
 | [.c (.pd (.int .i64 i)),.c (.pd (.ref .chart c 0)),.c (.pd (.ref .strs l 0))],[]=>some (some (0≤i∧i<(c.trans.length:Int)∧c.states.length≤maxLen∧c.trans.length≤maxLen),.x (.c (.pd (.int .i64 (cX c i.toNat l (ETy.get .tran c.trans i.toNat))))),[])
 | _,_=>none)
theorem J7:EntOk Tryz.prog Cs:=entOk fun vs ck=>by
 unfold Cs; dsimp only; split
 · rename_i i c l; exact entS fun hp=>Gv c i l hp
 · exact entN
end Go.Proofs.YtcopfgbbjdefbaaGreatDoor
namespace Go.Proofs.YtcopfgbbjdefbaaGreatDoor
open Go Go.Ev
set_option maxRecDepth 100000
abbrev zJ83Tp:=J Tryz.prog 83 (aw Tryz.f83)
def bU (f:Nat→Int):Nat→Nat→Int
 | _,0=>0
 | k,m+1=>if (f k != 0)=true then f k else bU f (k+1) m
theorem jm (f:Nat→Int) {k n:Nat} (h:k<n):bU f k (n - k)=if (f k != 0)=true then f k else bU f (k+1) (n - (k+1)):=by
 obtain ⟨m,hm⟩:∃ m,n - k=m+1:=⟨n - k - 1,by omega⟩
 rw [hm,show n - (k+1)=m by omega]; rfl
def Bs:Cfg:=⟨aX,[eQ7]⟩
theorem wI:ag Tryz.prog Bs.tab:=(ag.cons Ly ag.nil)
abbrev zTp1:List PI:=[.code [1,0,1,0,0],.inLoop [1,0,1,0,0],.inBlock 0,.code [1,1]]
variable (c:Chart) (l:List Str) (n:Nat) (Γ:Ctx)
theorem Lk (hn:n≤c.states.length) (h0:c.states.length≤maxLen) (hm:n≤maxLen):∀ (m k:Nat),n - k≤m→k≤n →
 zJ83Tp Γ (Eq2 (.x (.i (bU (fun k:Nat=>dp c.states k) k (n - k)))) []) zTp1 ({ n:=16,fr:=[(1,.p (PD.fnAt [(96,[.ref .chart c 0])] 0)),(2,.i 0),(5,.i n),(6,.i ((k:Int)))],ck:=[] }):=by
 intro m
 induction m with
 | zero=>?_
 | succ m ih=>?_
 all_goals
  intro k hmk hk
  refine jg wI Tryz.func83 (.ite (decide ((k:Int)<(n:Int))) (.need ((0:Int)≤(k:Int)∧(k:Int)<(c.states.length:Int)∧c.states.length≤maxLen) (.ite (dp c.states k != (0:Int)) (.ret (.i (dp c.states k)) []) (.stop zTp1 { n:=16,fr:=[(1,.p (PD.fnAt [(96,[.ref .chart c 0])] 0)),(2,.i 0),(5,.i n),(6,.i (IntKind.wrap .i64 ((k:Int)+1)))],ck:=[] }))) (.ret (.i 0) [])) ?_
  refine ⟨fun hlt=>?_,fun hge=>?_⟩
  · have hk':k<n:=by have:=of_decide_eq_true hlt; omega
    rw [jm _ hk']
    refine ⟨⟨by omega,by omega,h0⟩,fun hb=>?_,fun hb=>?_⟩
    · rw [if_pos (by exact hb)]; exact ⟨rfl,rfl⟩
    · rw [if_neg (by rw [show _=false from hb]; decide)]
      rw [aZ (aC hk' hm)]
      first | (exfalso; omega) | exact ih (k+1) (by omega) (by omega)
  · have hke:n - k=0:=by have:=of_decide_eq_false hge; omega
    rw [hke]; exact ⟨rfl,rfl⟩
theorem L8 (hn:n≤c.states.length) (h0:c.states.length≤maxLen) (hm:n≤maxLen):ah Tryz.prog 83 [.p (.ref .int (n:Int) 0),.p (.fnAt [(96,[.ref .chart c 0])] 0)] [] (.x (.i (bU (fun k:Nat=>dp c.states k) 0 n))) []:=by
 refine dg wI Tryz.func83 (.stop zTp1 { n:=16,fr:=[(1,.p (PD.fnAt [(96,[.ref .chart c 0])] 0)),(2,.i 0),(5,.i n),(6,.i 0)],ck:=[] }) fun Γ=>?_
 exact Lk c n Γ hn h0 hm n 0 (by omega) (by omega)
theorem Lt (n:Int) (h:n=(c.states.length:Int)) (h0:c.states.length≤maxLen) (hm:c.states.length≤maxLen):ah Tryz.prog 83 [.p (.ref .int n 0),.p (.fnAt [(96,[.ref .chart c 0])] 0)] [] (.x (.i (bU (fun k:Nat=>dp c.states k) 0 c.states.length))) []:=by
 subst h
 exact L8 c _ (ar _) h0 hm
def Bx:Cfg:=⟨aX,[eQ8]⟩
theorem yh:ag Tryz.prog Bx.tab:=(ag.cons LM ag.nil)
theorem J2 (hn:n≤c.vars.length) (hm:n≤maxLen):∀ (m k:Nat),n - k≤m→k≤n →
 zJ83Tp Γ (Eq2 (.x (.i (bU (fun k:Nat=>dX (ETy.get .var c.vars k)) k (n - k)))) []) zTp1 ({ n:=16,fr:=[(1,.p (PD.fnAt [(98,[.ref .chart c 0])] 0)),(2,.i 0),(5,.i n),(6,.i ((k:Int)))],ck:=[] }):=by
 intro m
 induction m with
 | zero=>?_
 | succ m ih=>?_
 all_goals
  intro k hmk hk
  refine jg yh Tryz.func83 (.ite (decide ((k:Int)<(n:Int))) (.need (inRg k c.vars.length) (.ite (dX (ETy.get .var c.vars k) != (0:Int)) (.ret (.i (dX (ETy.get .var c.vars k))) []) (.stop zTp1 { n:=16,fr:=[(1,.p (PD.fnAt [(98,[.ref .chart c 0])] 0)),(2,.i 0),(5,.i n),(6,.i (IntKind.wrap .i64 ((k:Int)+1)))],ck:=[] }))) (.ret (.i 0) [])) ?_
  refine ⟨fun hlt=>?_,fun hge=>?_⟩
  · have hk':k<n:=by have:=of_decide_eq_true hlt; omega
    rw [jm _ hk']
    refine ⟨⟨by omega,by omega⟩,fun hb=>?_,fun hb=>?_⟩
    · rw [if_pos (by exact hb)]; exact ⟨rfl,rfl⟩
    · rw [if_neg (by rw [show _=false from hb]; decide)]
      rw [aZ (aC hk' hm)]
      first | (exfalso; omega) | exact ih (k+1) (by omega) (by omega)
  · have hke:n - k=0:=by have:=of_decide_eq_false hge; omega
    rw [hke]; exact ⟨rfl,rfl⟩
theorem LH (hn:n≤c.vars.length) (hm:n≤maxLen):ah Tryz.prog 83 [.p (.ref .int (n:Int) 0),.p (.fnAt [(98,[.ref .chart c 0])] 0)] [] (.x (.i (bU (fun k:Nat=>dX (ETy.get .var c.vars k)) 0 n))) []:=by
 refine dg yh Tryz.func83 (.stop zTp1 { n:=16,fr:=[(1,.p (PD.fnAt [(98,[.ref .chart c 0])] 0)),(2,.i 0),(5,.i n),(6,.i 0)],ck:=[] }) fun Γ=>?_
 exact J2 c n Γ hn hm n 0 (by omega) (by omega)
theorem KW (n:Int) (h:n=(c.vars.length:Int)) (hm:c.vars.length≤maxLen):ah Tryz.prog 83 [.p (.ref .int n 0),.p (.fnAt [(98,[.ref .chart c 0])] 0)] [] (.x (.i (bU (fun k:Nat=>dX (ETy.get .var c.vars k)) 0 c.vars.length))) []:=by
 subst h
 exact LH c _ (ar _) hm
def Cg:Cfg:=⟨aX,[eQ9]⟩
theorem wS:ag Tryz.prog Cg.tab:=(ag.cons Mc ag.nil)
theorem Kd (hn:n≤c.states.length) (hm:n≤maxLen):∀ (m k:Nat),n - k≤m→k≤n →
 zJ83Tp Γ (Eq2 (.x (.i (bU (fun k:Nat=>cR c (ETy.get .stat c.states k)) k (n - k)))) []) zTp1 ({ n:=16,fr:=[(1,.p (PD.fnAt [(100,[.ref .chart c 0])] 0)),(2,.i 0),(5,.i n),(6,.i ((k:Int)))],ck:=[] }):=by
 intro m
 induction m with
 | zero=>?_
 | succ m ih=>?_
 all_goals
  intro k hmk hk
  refine jg wS Tryz.func83 (.ite (decide ((k:Int)<(n:Int))) (.need (inRg k c.states.length) (.ite (cR c (ETy.get .stat c.states k) != (0:Int)) (.ret (.i (cR c (ETy.get .stat c.states k))) []) (.stop zTp1 { n:=16,fr:=[(1,.p (PD.fnAt [(100,[.ref .chart c 0])] 0)),(2,.i 0),(5,.i n),(6,.i (IntKind.wrap .i64 ((k:Int)+1)))],ck:=[] }))) (.ret (.i 0) [])) ?_
  refine ⟨fun hlt=>?_,fun hge=>?_⟩
  · have hk':k<n:=by have:=of_decide_eq_true hlt; omega
    rw [jm _ hk']
    refine ⟨⟨by omega,by omega⟩,fun hb=>?_,fun hb=>?_⟩
    · rw [if_pos (by exact hb)]; exact ⟨rfl,rfl⟩
    · rw [if_neg (by rw [show _=false from hb]; decide)]
      rw [aZ (aC hk' hm)]
      first | (exfalso; omega) | exact ih (k+1) (by omega) (by omega)
  · have hke:n - k=0:=by have:=of_decide_eq_false hge; omega
    rw [hke]; exact ⟨rfl,rfl⟩
theorem LC (hn:n≤c.states.length) (hm:n≤maxLen):ah Tryz.prog 83 [.p (.ref .int (n:Int) 0),.p (.fnAt [(100,[.ref .chart c 0])] 0)] [] (.x (.i (bU (fun k:Nat=>cR c (ETy.get .stat c.states k)) 0 n))) []:=by
 refine dg wS Tryz.func83 (.stop zTp1 { n:=16,fr:=[(1,.p (PD.fnAt [(100,[.ref .chart c 0])] 0)),(2,.i 0),(5,.i n),(6,.i 0)],ck:=[] }) fun Γ=>?_
 exact Kd c n Γ hn hm n 0 (by omega) (by omega)
theorem KU (n:Int) (h:n=(c.states.length:Int)) (hm:c.states.length≤maxLen):ah Tryz.prog 83 [.p (.ref .int n 0),.p (.fnAt [(100,[.ref .chart c 0])] 0)] [] (.x (.i (bU (fun k:Nat=>cR c (ETy.get .stat c.states k)) 0 c.states.length))) []:=by
 subst h
 exact LC c _ (ar _) hm
def xn:Cfg:=⟨aX,[Cs]⟩
theorem tR:ag Tryz.prog xn.tab:=(ag.cons J7 ag.nil)
theorem HO (hn:n≤c.trans.length) (h0:c.states.length≤maxLen) (h1:c.trans.length≤maxLen) (hm:n≤maxLen):∀ (m k:Nat),n - k≤m→k≤n →
 zJ83Tp Γ (Eq2 (.x (.i (bU (fun k:Nat=>cX c k l (ETy.get .tran c.trans k)) k (n - k)))) []) zTp1 ({ n:=16,fr:=[(1,.p (PD.fnAt [(102,[.ref .chart c 0,.ref .strs l 0])] 0)),(2,.i 0),(5,.i n),(6,.i ((k:Int)))],ck:=[] }):=by
 intro m
 induction m with
 | zero=>?_
 | succ m ih=>?_
 all_goals
  intro k hmk hk
  refine jg tR Tryz.func83 (.ite (decide ((k:Int)<(n:Int))) (.need ((0:Int)≤(k:Int)∧(k:Int)<(c.trans.length:Int)∧c.states.length≤maxLen∧c.trans.length≤maxLen) (.ite (cX c k l (ETy.get .tran c.trans k) != (0:Int)) (.ret (.i (cX c k l (ETy.get .tran c.trans k))) []) (.stop zTp1 { n:=16,fr:=[(1,.p (PD.fnAt [(102,[.ref .chart c 0,.ref .strs l 0])] 0)),(2,.i 0),(5,.i n),(6,.i (IntKind.wrap .i64 ((k:Int)+1)))],ck:=[] }))) (.ret (.i 0) [])) ?_
  refine ⟨fun hlt=>?_,fun hge=>?_⟩
  · have hk':k<n:=by have:=of_decide_eq_true hlt; omega
    rw [jm _ hk']
    refine ⟨⟨by omega,by omega,h0,h1⟩,fun hb=>?_,fun hb=>?_⟩
    · rw [if_pos (by exact hb)]; exact ⟨rfl,rfl⟩
    · rw [if_neg (by rw [show _=false from hb]; decide)]
      rw [aZ (aC hk' hm)]
      first | (exfalso; omega) | exact ih (k+1) (by omega) (by omega)
  · have hke:n - k=0:=by have:=of_decide_eq_false hge; omega
    rw [hke]; exact ⟨rfl,rfl⟩
theorem Ka (hn:n≤c.trans.length) (h0:c.states.length≤maxLen) (h1:c.trans.length≤maxLen) (hm:n≤maxLen):ah Tryz.prog 83 [.p (.ref .int (n:Int) 0),.p (.fnAt [(102,[.ref .chart c 0,.ref .strs l 0])] 0)] [] (.x (.i (bU (fun k:Nat=>cX c k l (ETy.get .tran c.trans k)) 0 n))) []:=by
 refine dg tR Tryz.func83 (.stop zTp1 { n:=16,fr:=[(1,.p (PD.fnAt [(102,[.ref .chart c 0,.ref .strs l 0])] 0)),(2,.i 0),(5,.i n),(6,.i 0)],ck:=[] }) fun Γ=>?_
 exact HO c l n Γ hn h0 h1 hm n 0 (by omega) (by omega)
theorem Ij (n:Int) (h:n=(c.trans.length:Int)) (h0:c.states.length≤maxLen) (h1:c.trans.length≤maxLen) (hm:c.trans.length≤maxLen):ah Tryz.prog 83 [.p (.ref .int n 0),.p (.fnAt [(102,[.ref .chart c 0,.ref .strs l 0])] 0)] [] (.x (.i (bU (fun k:Nat=>cX c k l (ETy.get .tran c.trans k)) 0 c.trans.length))) []:=by
 subst h
 exact Ka c l _ (ar _) h0 h1 hm
def eE7:Ent:=(83,fun
 | [.c (.pd (.ref .int n 0)),.c (.pd (.fnAt [(96,[.ref .chart c 0])] 0))],[]=>some (some (n=(c.states.length:Int)∧c.states.length≤maxLen),.x (.c (.pd (.int .i64 (bU (fun k:Nat=>dp c.states k) 0 c.states.length)))),[])
 | _,_=>none)
theorem Mh:EntOk Tryz.prog eE7:=entOk fun vs ck=>by
 unfold eE7; dsimp only; split
 · rename_i n c; exact entS fun hp=>Lt c n hp.1 hp.2 hp.2
 · exact entN
def eE8:Ent:=(83,fun
 | [.c (.pd (.ref .int n 0)),.c (.pd (.fnAt [(98,[.ref .chart c 0])] 0))],[]=>some (some (n=(c.vars.length:Int)∧c.vars.length≤maxLen),.x (.c (.pd (.int .i64 (bU (fun k:Nat=>dX (ETy.get .var c.vars k)) 0 c.vars.length)))),[])
 | _,_=>none)
theorem LA:EntOk Tryz.prog eE8:=entOk fun vs ck=>by
 unfold eE8; dsimp only; split
 · rename_i n c; exact entS fun hp=>KW c n hp.1 hp.2
 · exact entN
def eE9:Ent:=(83,fun
 | [.c (.pd (.ref .int n 0)),.c (.pd (.fnAt [(100,[.ref .chart c 0])] 0))],[]=>some (some (n=(c.states.length:Int)∧c.states.length≤maxLen),.x (.c (.pd (.int .i64 (bU (fun k:Nat=>cR c (ETy.get .stat c.states k)) 0 c.states.length)))),[])
 | _,_=>none)
theorem Mj:EntOk Tryz.prog eE9:=entOk fun vs ck=>by
 unfold eE9; dsimp only; split
 · rename_i n c; exact entS fun hp=>KU c n hp.1 hp.2
 · exact entN
def Bg:Ent:=(83,fun
 | [.c (.pd (.ref .int n 0)),.c (.pd (.fnAt [(102,[.ref .chart c 0,.ref .strs l 0])] 0))],[]=>some (some (n=(c.trans.length:Int)∧c.states.length≤maxLen∧c.trans.length≤maxLen),.x (.c (.pd (.int .i64 (bU (fun k:Nat=>cX c k l (ETy.get .tran c.trans k)) 0 c.trans.length)))),[])
 | _,_=>none)
theorem JP:EntOk Tryz.prog Bg:=entOk fun vs ck=>by
 unfold Bg; dsimp only; split
 · rename_i n c l; exact entS fun hp=>Ij c l n hp.1 hp.2.1 hp.2.2 hp.2.2
 · exact entN
end Go.Proofs.YtcopfgbbjdefbaaGreatDoor
