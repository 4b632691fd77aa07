/- Contracts: valid.Check's questions. Conditions: sizes. Contracts: valid.Check: each's loops. Conditions: sizes. -/
import Derived.Test.YtgfifkhbfdacjaaGreatDoorTm
namespace Go.Proofs.YtgfifkhbfdacjaaGreatDoor
open Go Go.Ev
set_option maxRecDepth 100000
def K7:Cfg:=⟨aX,[pH]⟩
theorem Ku:ag Tryz.prog K7.tab:=(ag.cons DF ag.nil)
variable (c:Chart) (a:List Str) (i:Int) (b l:List Str)
def fU:List Str:=gY [[c.name],c.events,a,b]
theorem Le (h:(fU c a b).length≤1000000):ah Tryz.prog 77 [.p (.ref .chart c 0),.p (.ref .strs a 0),.p (.ref .strs b 0)] [] (.x (.c (.own 0))) [.own 9 .str (fU c a b)]:=by
 refine dg Ku Tryz.func77 (.need ((gY [[c.name],c.events,a,b]).length≤1000000) (.ret (.x (.c (.own 0))) [.own 9 .str (gY [[c.name],c.events,a,b])])) fun Γ=>?_
 exact ⟨h,rfl,rfl⟩
def eQ2:Ent:=(77,fun
 | [.c (.pd (.ref .chart c 0)),.c (.pd (.ref .strs a 0)),.c (.pd (.ref .strs b 0))],[]=>some (some ((fU c a b).length≤1000000),.x (.c (.own 0)),[.own 9 .str (fU c a b)])
 | _,_=>none)
theorem Oh:EntOk Tryz.prog eQ2:=entOk fun vs ck=>by
 unfold eQ2; dsimp only; split
 · rename_i c a b; exact entS fun hp=>Le c a b hp
 · exact entN
def En:Cfg:=⟨aX,[jN]⟩
theorem Gh:ag Tryz.prog En.tab:=(ag.cons iM ag.nil)
theorem JS (s:Str):ah Tryz.prog 83 [.s s] [] (.x (.b (!ba s))) []:=by
 refine dg Gh Tryz.func83 (.ret (.p (.bool !ba s)) []) fun Γ=>⟨rfl,rfl⟩
def DI:Ent:=(83,fun
 | [.c (.pd (.str s))],[]=>some (none,.x (.c (.pd (.bool (!ba s)))),[])
 | _,_=>none)
theorem Ly:EntOk Tryz.prog DI:=entOk fun vs ck=>by
 unfold DI; dsimp only; split
 · rename_i s; exact entS fun hp=>JS s
 · exact entN
def CB:Cfg:=⟨aX,[DI]⟩
theorem xe:ag Tryz.prog CB.tab:=(ag.cons Ly ag.nil)
abbrev zTo1:List PI:=[.code [1,0,1,0,0],.inLoop [1,0,1,0,0],.inBlock 0,.code [1,1]]
theorem KC (Γ:Ctx) (hl:l.length≤maxLen)  : ∀ (n k:Nat),l.length - k≤n→k≤l.length →
 J Tryz.prog 133 (au Tryz.f133) Γ (Eq2 (.x (.i (aE (fun s:Str=>!ba s) (l.drop k) k))) []) zTo1 ({ n:=19,fr:=[(0,.p (.lst .str l)),(1,.x (.c (.fn (.func 83) [] []))),(4,.i 0),(7,.i l.length),(8,.i k)],ck:=[] }):=by
 intro n
 induction n with
 | zero=>?_
 | succ n ih=>?_
 all_goals
  intro k hn hk
  refine jg xe Tryz.func133 (.ite (decide ((k:Int)<(l.length:Int))) (.need (inRg k l.length) (.ite (!ba (ETy.get .str l k)) (.ret (.i k) []) (.stop zTo1 { n:=19,fr:=[(0,.p (.lst .str l)),(1,.x (.c (.fn (.func 83) [] []))),(4,.i 0),(7,.i l.length),(8,.i (IntKind.wrap .i64 ((k:Int)+1)))],ck:=[] }))) (.ret (.i (-1:Int)) [])) ?_
  refine ⟨fun hlt=>?_,fun hge=>?_⟩
  · have hk':k<l.length:=by have:=of_decide_eq_true hlt; omega
    rw [bt (t:=.str) (l:=l) hk']
    refine ⟨by omega,?_⟩
    generalize ETy.get .str l k=v
    refine ⟨fun hb=>⟨?_,rfl⟩,fun hb=>?_⟩
    · simp only [aE,hb,cond_true]
    · simp only [aE,hb,cond_false]; (rw [aU (aB hk' hl)]; first | (exfalso; omega) | exact ih (k+1) (by omega) (by omega))
  · rw [bH (l:=l) (by have:=of_decide_eq_false hge; omega)]
    exact ⟨rfl,rfl⟩
theorem Km:ah Tryz.prog 133 [.l .str (l),SX.c (SC.fn (Fn.func 83) [] [])] [] (.x (.i (aE (fun s:Str=>!ba s) l 0))) []:=by
 refine dg xe Tryz.func133 (.stop zTo1 { n:=19,fr:=[(0,.p (.lst .str l)),(1,.x (.c (.fn (.func 83) [] []))),(4,.i 0),(7,.i l.length),(8,.i 0)],ck:=[] }) fun Γ=>?_
 exact J.len 0 rfl fun hl=>KC l Γ hl l.length 0 (by omega) (by omega)
def CT:Ent:=(133,fun
 | [.c (.pd (.lst .str l)),.c (.fn (.func 83) [] [])],[]=>some (none,.x (.c (.pd (.int .i64 (aE (fun s:Str=>!ba s) l 0)))),[])
 | _,_=>none)
theorem Mm:EntOk Tryz.prog CT:=entOk fun vs ck=>by
 unfold CT; dsimp only; split
 · rename_i l; exact entS fun hp=>Km l
 · exact entN
def KZ:Cfg:=⟨aX,[CT]⟩
theorem J9:ag Tryz.prog KZ.tab:=(ag.cons Mm ag.nil)
theorem MY:ah Tryz.prog 82 [.l .str l,.c (.fn (.func 83) [] [])] [] (.x (.b (l.any fun s:Str=>!ba s))) []:=by
 refine dg J9 Tryz.func82 (.ret (.p (.bool (decide (aE (fun s=>!ba s) l (0:Int)≥0)))) []) fun Γ=>⟨?_,rfl⟩
 rw [iz _ _ _ (by omega)]
def eCf:Ent:=(82,fun
 | [.c (.pd (.lst .str l)),.c (.fn (.func 83) [] [])],[]=>some (none,.x (.c (.pd (.bool (l.any fun s:Str=>!ba s)))),[])
 | _,_=>none)
theorem OC:EntOk Tryz.prog eCf:=entOk fun vs ck=>by
 unfold eCf; dsimp only; split
 · rename_i l; exact entS fun hp=>MY l
 · exact entN
def K0:Cfg:=⟨aX,[eQ2,eCf,kH]⟩
theorem J2:ag Tryz.prog K0.tab:=(ag.cons Oh (ag.cons OC (ag.cons jB ag.nil)))
theorem Nu (h:(fU c a b).length≤1000000):ah Tryz.prog 81 [.p (.fnAt [(77,[.ref .chart c 0,.ref .strs a 0,.ref .strs b 0])] 0)] [] (.x (.i (bX (!(fU c a b).any fun s:Str=>!ba s) 2))) []:=by
 refine dg J2 Tryz.func81 (.need ((fU c a b).length≤1000000) (.ret (.i (bX (!List.any (fU c a b) fun s=>!ba s) (2:Int))) [])) fun Γ=>?_
 exact ⟨h,rfl,rfl⟩
def eQ4:Ent:=(81,fun
 | [.c (.pd (.fnAt [(77,[.ref .chart c 0,.ref .strs a 0,.ref .strs b 0])] 0))],[]=>some (some ((fU c a b).length≤1000000),.x (.c (.pd (.int .i64 (bX (!(fU c a b).any fun s:Str=>!ba s) 2)))),[])
 | _,_=>none)
theorem NL:EntOk Tryz.prog eQ4:=entOk fun vs ck=>by
 unfold eQ4; dsimp only; split
 · rename_i c a b; exact entS fun hp=>Nu c a b hp
 · exact entN
def ic:Bool:=decide ((c.events.length:Int)≤12)&&decide ((c.vars.length:Int)≤8)&&decide ((c.states.length:Int)≤40)&&decide ((c.trans.length:Int)≤48)
def ji:Bool:=gB c.events&&gB a&&gB b
def KV:Cfg:=⟨aX,[kH]⟩
theorem Kd:ag Tryz.prog KV.tab:=(ag.cons jB ag.nil)
theorem M6:ah Tryz.prog 79 [.p (.ref .chart c 0)] [] (.x (.i (bX (ic c) 4))) []:=by
 refine dg Kd Tryz.func79 (.ret (.i (bX (decide ((c.events.length:Int)≤12)&&decide ((c.vars.length:Int)≤8)&&decide ((c.states.length:Int)≤40)&&decide ((c.trans.length:Int)≤48)) (4:Int))) []) fun Γ=>⟨rfl,rfl⟩
def eQ3:Ent:=(79,fun
 | [.c (.pd (.ref .chart c 0))],[]=>some (none,.x (.c (.pd (.int .i64 (bX (ic c) 4)))),[])
 | _,_=>none)
theorem Oj:EntOk Tryz.prog eQ3:=entOk fun vs ck=>by
 unfold eQ3; dsimp only; split
 · rename_i c; exact entS fun hp=>M6 c
 · exact entN
def KJ:Cfg:=⟨aX,[vH,kH]⟩
theorem H3:ag Tryz.prog KJ.tab:=(ag.cons Js (ag.cons jB ag.nil))
theorem Nr (h:c.events.length≤1000000∧a.length≤1000000∧b.length≤1000000):ah Tryz.prog 84 [.p (.ref .chart c 0),.p (.ref .strs a 0),.p (.ref .strs b 0)] [] (.x (.i (bX (ji c a b) 3))) []:=by
 refine dg H3 Tryz.func84 (.need (c.events.length≤1000000) (.need (gB c.events=true→a.length≤1000000) (.need ((gB c.events&&gB a)=true→b.length≤1000000) (.ret (.i (bX (gB c.events&&gB a&&gB b) (3:Int))) [])))) fun Γ=>?_
 exact ⟨h.1,fun _=>h.2.1,fun _=>h.2.2,rfl,rfl⟩
def eQ5:Ent:=(84,fun
 | [.c (.pd (.ref .chart c 0)),.c (.pd (.ref .strs a 0)),.c (.pd (.ref .strs b 0))],[]=>some (some (c.events.length≤1000000∧a.length≤1000000∧b.length≤1000000),.x (.c (.pd (.int .i64 (bX (ji c a b) 3)))),[])
 | _,_=>none)
theorem N8:EntOk Tryz.prog eQ5:=entOk fun vs ck=>by
 unfold eQ5; dsimp only; split
 · rename_i c a b; exact entS fun hp=>Nr c a b hp
 · exact entN
def Lb:Cfg:=⟨aX,[mm,kH]⟩
theorem Kb:ag Tryz.prog Lb.tab:=(ag.cons qS (ag.cons jB ag.nil))
theorem Lx (h:c.states.length≤maxLen):ah Tryz.prog 86 [.p (.ref .chart c 0)] [] (.x (.i (bX (b8 c.states) 9))) []:=by
 refine dg Kb Tryz.func86 (.need (c.states.length≤maxLen) (.ret (.i (bX (b8 c.states) (9:Int))) [])) fun Γ=>?_
 exact ⟨h,rfl,rfl⟩
def eQ6:Ent:=(86,fun
 | [.c (.pd (.ref .chart c 0))],[]=>some (some (c.states.length≤maxLen),.x (.c (.pd (.int .i64 (bX (b8 c.states) 9)))),[])
 | _,_=>none)
theorem Ol:EntOk Tryz.prog eQ6:=entOk fun vs ck=>by
 unfold eQ6; dsimp only; split
 · rename_i c; exact entS fun hp=>Lx c hp
 · exact entN
def ry:Cfg:=⟨aX,[sj,wj,wk,BE]⟩
theorem nB:ag Tryz.prog ry.tab:=(ag.cons Fh (ag.cons J4 (ag.cons Kc (ag.cons MI ag.nil))))
theorem Nf (h:0≤i∧i<(c.states.length:Int)∧c.states.length≤maxLen):ah Tryz.prog 88 [.i i,.p (.ref .chart c 0)] [] (.x (.i (dj c.states i.toNat))) []:=by
 refine dg nB Tryz.func88 (.need ((0:Int)≤i∧i<(c.states.length:Int)∧c.states.length≤maxLen) (.ret (.i (dj c.states (Int.toNat i))) [])) fun Γ=>⟨h,rfl,rfl⟩
def eQ7:Ent:=(88,fun
 | [.c (.pd (.int .i64 i)),.c (.pd (.ref .chart c 0))],[]=>some (some (0≤i∧i<(c.states.length:Int)∧c.states.length≤maxLen),.x (.c (.pd (.int .i64 (dj c.states i.toNat)))),[])
 | _,_=>none)
theorem Ow:EntOk Tryz.prog eQ7:=entOk fun vs ck=>by
 unfold eQ7; dsimp only; split
 · rename_i i c; exact entS fun hp=>Nf c i hp
 · exact entN
theorem MA (h:0≤i∧i<(c.vars.length:Int)):ah Tryz.prog 90 [.i i,.p (.ref .chart c 0)] [] (.x (.i (eo (ETy.get .var c.vars i.toNat)))) []:=by
 refine dg nB Tryz.func90 (.need ((0:Int)≤i∧i<(c.vars.length:Int)) (.ret (.i (eo (ETy.get .var c.vars (Int.toNat i)))) [])) fun Γ=>⟨h,rfl,rfl⟩
def eQ8:Ent:=(90,fun
 | [.c (.pd (.int .i64 i)),.c (.pd (.ref .chart c 0))],[]=>some (some (0≤i∧i<(c.vars.length:Int)),.x (.c (.pd (.int .i64 (eo (ETy.get .var c.vars i.toNat))))),[])
 | _,_=>none)
theorem NP:EntOk Tryz.prog eQ8:=entOk fun vs ck=>by
 unfold eQ8; dsimp only; split
 · rename_i i c; exact entS fun hp=>MA c i hp
 · exact entN
theorem MD (h:0≤i∧i<(c.states.length:Int)):ah Tryz.prog 92 [.i i,.p (.ref .chart c 0)] [] (.x (.i (cS c (ETy.get .stat c.states i.toNat)))) []:=by
 refine dg nB Tryz.func92 (.need ((0:Int)≤i∧i<(c.states.length:Int)) (.ret (.i (cS c (ETy.get .stat c.states (Int.toNat i)))) [])) fun Γ=>⟨h,rfl,rfl⟩
def eQ9:Ent:=(92,fun
 | [.c (.pd (.int .i64 i)),.c (.pd (.ref .chart c 0))],[]=>some (some (0≤i∧i<(c.states.length:Int)),.x (.c (.pd (.int .i64 (cS c (ETy.get .stat c.states i.toNat))))),[])
 | _,_=>none)
theorem Oe:EntOk Tryz.prog eQ9:=entOk fun vs ck=>by
 unfold eQ9; dsimp only; split
 · rename_i i c; exact entS fun hp=>MD c i hp
 · exact entN
theorem IH (h:0≤i∧i<(c.trans.length:Int)∧c.states.length≤maxLen∧c.trans.length≤maxLen):ah Tryz.prog 94 [.i i,.p (.ref .chart c 0),.p (.ref .strs l 0)] [] (.x (.i (cM c i.toNat l (ETy.get .tran c.trans i.toNat)))) []:=by
 refine dg nB Tryz.func94 (.need ((0:Int)≤i∧i<(c.trans.length:Int)∧c.states.length≤maxLen∧c.trans.length≤maxLen) (.ret (.i (cM c (Int.toNat i) l (ETy.get .tran c.trans (Int.toNat i)))) [])) fun Γ=>⟨h,rfl,rfl⟩
def BI:Ent:=(94,fun
 | [.c (.pd (.int .i64 i)),.c (.pd (.ref .chart c 0)),.c (.pd (.ref .strs l 0))],[]=>some (some (0≤i∧i<(c.trans.length:Int)∧c.states.length≤maxLen∧c.trans.length≤maxLen),.x (.c (.pd (.int .i64 (cM c i.toNat l (ETy.get .tran c.trans i.toNat))))),[])
 | _,_=>none)
theorem MX:EntOk Tryz.prog BI:=entOk fun vs ck=>by
 unfold BI; dsimp only; split
 · rename_i i c l; exact entS fun hp=>IH c i l hp
 · exact entN
end Go.Proofs.YtgfifkhbfdacjaaGreatDoor
namespace Go.Proofs.YtgfifkhbfdacjaaGreatDoor
open Go Go.Ev
set_option maxRecDepth 100000
abbrev zJ75Tp:=J Tryz.prog 75 (au Tryz.f75)
def bU (f:Nat→Int):Nat→Nat→Int
 | _,0=>0
 | k,m+1=>if (f k != 0)=true then f k else bU f (k+1) m
theorem jT (f:Nat→Int) {k n:Nat} (h:k<n):bU f k (n - k)=if (f k != 0)=true then f k else bU f (k+1) (n - (k+1)):=by
 obtain ⟨m,hm⟩:∃ m,n - k=m+1:=⟨n - k - 1,by omega⟩
 rw [hm,show n - (k+1)=m by omega]; rfl
def Dq:Cfg:=⟨aX,[eQ7]⟩
theorem yN:ag Tryz.prog Dq.tab:=(ag.cons Ow ag.nil)
abbrev zTp1:List PI:=[.code [1,0,1,0,0],.inLoop [1,0,1,0,0],.inBlock 0,.code [1,1]]
variable (c:Chart) (l:List Str) (n:Nat) (Γ:Ctx)
theorem My (hn:n≤c.states.length) (h0:c.states.length≤maxLen) (hm:n≤maxLen):∀ (m k:Nat),n - k≤m→k≤n →
 zJ75Tp Γ (Eq2 (.x (.i (bU (fun k:Nat=>dj c.states k) k (n - k)))) []) zTp1 ({ n:=16,fr:=[(1,.p (PD.fnAt [(88,[.ref .chart c 0])] 0)),(2,.i 0),(5,.i n),(6,.i ((k:Int)))],ck:=[] }):=by
 intro m
 induction m with
 | zero=>?_
 | succ m ih=>?_
 all_goals
  intro k hmk hk
  refine jg yN Tryz.func75 (.ite (decide ((k:Int)<(n:Int))) (.need ((0:Int)≤(k:Int)∧(k:Int)<(c.states.length:Int)∧c.states.length≤maxLen) (.ite (dj c.states k != (0:Int)) (.ret (.i (dj c.states k)) []) (.stop zTp1 { n:=16,fr:=[(1,.p (PD.fnAt [(88,[.ref .chart c 0])] 0)),(2,.i 0),(5,.i n),(6,.i (IntKind.wrap .i64 ((k:Int)+1)))],ck:=[] }))) (.ret (.i 0) [])) ?_
  refine ⟨fun hlt=>?_,fun hge=>?_⟩
  · have hk':k<n:=by have:=of_decide_eq_true hlt; omega
    rw [jT _ hk']
    refine ⟨⟨by omega,by omega,h0⟩,fun hb=>?_,fun hb=>?_⟩
    · rw [if_pos (by exact hb)]; exact ⟨rfl,rfl⟩
    · rw [if_neg (by rw [show _=false from hb]; decide)]
      rw [aU (aB hk' hm)]
      first | (exfalso; omega) | exact ih (k+1) (by omega) (by omega)
  · have hke:n - k=0:=by have:=of_decide_eq_false hge; omega
    rw [hke]; exact ⟨rfl,rfl⟩
theorem Oa (hn:n≤c.states.length) (h0:c.states.length≤maxLen) (hm:n≤maxLen):ah Tryz.prog 75 [.p (.ref .int (n:Int) 0),.p (.fnAt [(88,[.ref .chart c 0])] 0)] [] (.x (.i (bU (fun k:Nat=>dj c.states k) 0 n))) []:=by
 refine dg yN Tryz.func75 (.stop zTp1 { n:=16,fr:=[(1,.p (PD.fnAt [(88,[.ref .chart c 0])] 0)),(2,.i 0),(5,.i n),(6,.i 0)],ck:=[] }) fun Γ=>?_
 exact My c n Γ hn h0 hm n 0 (by omega) (by omega)
theorem MJ (n:Int) (h:n=(c.states.length:Int)) (h0:c.states.length≤maxLen) (hm:c.states.length≤maxLen):ah Tryz.prog 75 [.p (.ref .int n 0),.p (.fnAt [(88,[.ref .chart c 0])] 0)] [] (.x (.i (bU (fun k:Nat=>dj c.states k) 0 c.states.length))) []:=by
 subst h
 exact Oa c _ (ar _) h0 hm
def BF:Cfg:=⟨aX,[eQ8]⟩
theorem wL:ag Tryz.prog BF.tab:=(ag.cons NP ag.nil)
theorem L5 (hn:n≤c.vars.length) (hm:n≤maxLen):∀ (m k:Nat),n - k≤m→k≤n →
 zJ75Tp Γ (Eq2 (.x (.i (bU (fun k:Nat=>eo (ETy.get .var c.vars k)) k (n - k)))) []) zTp1 ({ n:=16,fr:=[(1,.p (PD.fnAt [(90,[.ref .chart c 0])] 0)),(2,.i 0),(5,.i n),(6,.i ((k:Int)))],ck:=[] }):=by
 intro m
 induction m with
 | zero=>?_
 | succ m ih=>?_
 all_goals
  intro k hmk hk
  refine jg wL Tryz.func75 (.ite (decide ((k:Int)<(n:Int))) (.need (inRg k c.vars.length) (.ite (eo (ETy.get .var c.vars k) != (0:Int)) (.ret (.i (eo (ETy.get .var c.vars k))) []) (.stop zTp1 { n:=16,fr:=[(1,.p (PD.fnAt [(90,[.ref .chart c 0])] 0)),(2,.i 0),(5,.i n),(6,.i (IntKind.wrap .i64 ((k:Int)+1)))],ck:=[] }))) (.ret (.i 0) [])) ?_
  refine ⟨fun hlt=>?_,fun hge=>?_⟩
  · have hk':k<n:=by have:=of_decide_eq_true hlt; omega
    rw [jT _ hk']
    refine ⟨⟨by omega,by omega⟩,fun hb=>?_,fun hb=>?_⟩
    · rw [if_pos (by exact hb)]; exact ⟨rfl,rfl⟩
    · rw [if_neg (by rw [show _=false from hb]; decide)]
      rw [aU (aB hk' hm)]
      first | (exfalso; omega) | exact ih (k+1) (by omega) (by omega)
  · have hke:n - k=0:=by have:=of_decide_eq_false hge; omega
    rw [hke]; exact ⟨rfl,rfl⟩
theorem NJ (hn:n≤c.vars.length) (hm:n≤maxLen):ah Tryz.prog 75 [.p (.ref .int (n:Int) 0),.p (.fnAt [(90,[.ref .chart c 0])] 0)] [] (.x (.i (bU (fun k:Nat=>eo (ETy.get .var c.vars k)) 0 n))) []:=by
 refine dg wL Tryz.func75 (.stop zTp1 { n:=16,fr:=[(1,.p (PD.fnAt [(90,[.ref .chart c 0])] 0)),(2,.i 0),(5,.i n),(6,.i 0)],ck:=[] }) fun Γ=>?_
 exact L5 c n Γ hn hm n 0 (by omega) (by omega)
theorem Lj (n:Int) (h:n=(c.vars.length:Int)) (hm:c.vars.length≤maxLen):ah Tryz.prog 75 [.p (.ref .int n 0),.p (.fnAt [(90,[.ref .chart c 0])] 0)] [] (.x (.i (bU (fun k:Nat=>eo (ETy.get .var c.vars k)) 0 c.vars.length))) []:=by
 subst h
 exact NJ c _ (ar _) hm
def Du:Cfg:=⟨aX,[eQ9]⟩
theorem yp:ag Tryz.prog Du.tab:=(ag.cons Oe ag.nil)
theorem Ms (hn:n≤c.states.length) (hm:n≤maxLen):∀ (m k:Nat),n - k≤m→k≤n →
 zJ75Tp Γ (Eq2 (.x (.i (bU (fun k:Nat=>cS c (ETy.get .stat c.states k)) k (n - k)))) []) zTp1 ({ n:=16,fr:=[(1,.p (PD.fnAt [(92,[.ref .chart c 0])] 0)),(2,.i 0),(5,.i n),(6,.i ((k:Int)))],ck:=[] }):=by
 intro m
 induction m with
 | zero=>?_
 | succ m ih=>?_
 all_goals
  intro k hmk hk
  refine jg yp Tryz.func75 (.ite (decide ((k:Int)<(n:Int))) (.need (inRg k c.states.length) (.ite (cS c (ETy.get .stat c.states k) != (0:Int)) (.ret (.i (cS c (ETy.get .stat c.states k))) []) (.stop zTp1 { n:=16,fr:=[(1,.p (PD.fnAt [(92,[.ref .chart c 0])] 0)),(2,.i 0),(5,.i n),(6,.i (IntKind.wrap .i64 ((k:Int)+1)))],ck:=[] }))) (.ret (.i 0) [])) ?_
  refine ⟨fun hlt=>?_,fun hge=>?_⟩
  · have hk':k<n:=by have:=of_decide_eq_true hlt; omega
    rw [jT _ hk']
    refine ⟨⟨by omega,by omega⟩,fun hb=>?_,fun hb=>?_⟩
    · rw [if_pos (by exact hb)]; exact ⟨rfl,rfl⟩
    · rw [if_neg (by rw [show _=false from hb]; decide)]
      rw [aU (aB hk' hm)]
      first | (exfalso; omega) | exact ih (k+1) (by omega) (by omega)
  · have hke:n - k=0:=by have:=of_decide_eq_false hge; omega
    rw [hke]; exact ⟨rfl,rfl⟩
theorem NG (hn:n≤c.states.length) (hm:n≤maxLen):ah Tryz.prog 75 [.p (.ref .int (n:Int) 0),.p (.fnAt [(92,[.ref .chart c 0])] 0)] [] (.x (.i (bU (fun k:Nat=>cS c (ETy.get .stat c.states k)) 0 n))) []:=by
 refine dg yp Tryz.func75 (.stop zTp1 { n:=16,fr:=[(1,.p (PD.fnAt [(92,[.ref .chart c 0])] 0)),(2,.i 0),(5,.i n),(6,.i 0)],ck:=[] }) fun Γ=>?_
 exact Ms c n Γ hn hm n 0 (by omega) (by omega)
theorem MG (n:Int) (h:n=(c.states.length:Int)) (hm:c.states.length≤maxLen):ah Tryz.prog 75 [.p (.ref .int n 0),.p (.fnAt [(92,[.ref .chart c 0])] 0)] [] (.x (.i (bU (fun k:Nat=>cS c (ETy.get .stat c.states k)) 0 c.states.length))) []:=by
 subst h
 exact NG c _ (ar _) hm
def yQ:Cfg:=⟨aX,[BI]⟩
theorem uW:ag Tryz.prog yQ.tab:=(ag.cons MX ag.nil)
theorem Jo (hn:n≤c.trans.length) (h0:c.states.length≤maxLen) (h1:c.trans.length≤maxLen) (hm:n≤maxLen):∀ (m k:Nat),n - k≤m→k≤n →
 zJ75Tp Γ (Eq2 (.x (.i (bU (fun k:Nat=>cM c k l (ETy.get .tran c.trans k)) k (n - k)))) []) zTp1 ({ n:=16,fr:=[(1,.p (PD.fnAt [(94,[.ref .chart c 0,.ref .strs l 0])] 0)),(2,.i 0),(5,.i n),(6,.i ((k:Int)))],ck:=[] }):=by
 intro m
 induction m with
 | zero=>?_
 | succ m ih=>?_
 all_goals
  intro k hmk hk
  refine jg uW Tryz.func75 (.ite (decide ((k:Int)<(n:Int))) (.need ((0:Int)≤(k:Int)∧(k:Int)<(c.trans.length:Int)∧c.states.length≤maxLen∧c.trans.length≤maxLen) (.ite (cM c k l (ETy.get .tran c.trans k) != (0:Int)) (.ret (.i (cM c k l (ETy.get .tran c.trans k))) []) (.stop zTp1 { n:=16,fr:=[(1,.p (PD.fnAt [(94,[.ref .chart c 0,.ref .strs l 0])] 0)),(2,.i 0),(5,.i n),(6,.i (IntKind.wrap .i64 ((k:Int)+1)))],ck:=[] }))) (.ret (.i 0) [])) ?_
  refine ⟨fun hlt=>?_,fun hge=>?_⟩
  · have hk':k<n:=by have:=of_decide_eq_true hlt; omega
    rw [jT _ hk']
    refine ⟨⟨by omega,by omega,h0,h1⟩,fun hb=>?_,fun hb=>?_⟩
    · rw [if_pos (by exact hb)]; exact ⟨rfl,rfl⟩
    · rw [if_neg (by rw [show _=false from hb]; decide)]
      rw [aU (aB hk' hm)]
      first | (exfalso; omega) | exact ih (k+1) (by omega) (by omega)
  · have hke:n - k=0:=by have:=of_decide_eq_false hge; omega
    rw [hke]; exact ⟨rfl,rfl⟩
theorem LS (hn:n≤c.trans.length) (h0:c.states.length≤maxLen) (h1:c.trans.length≤maxLen) (hm:n≤maxLen):ah Tryz.prog 75 [.p (.ref .int (n:Int) 0),.p (.fnAt [(94,[.ref .chart c 0,.ref .strs l 0])] 0)] [] (.x (.i (bU (fun k:Nat=>cM c k l (ETy.get .tran c.trans k)) 0 n))) []:=by
 refine dg uW Tryz.func75 (.stop zTp1 { n:=16,fr:=[(1,.p (PD.fnAt [(94,[.ref .chart c 0,.ref .strs l 0])] 0)),(2,.i 0),(5,.i n),(6,.i 0)],ck:=[] }) fun Γ=>?_
 exact Jo c l n Γ hn h0 h1 hm n 0 (by omega) (by omega)
theorem IN (n:Int) (h:n=(c.trans.length:Int)) (h0:c.states.length≤maxLen) (h1:c.trans.length≤maxLen) (hm:c.trans.length≤maxLen):ah Tryz.prog 75 [.p (.ref .int n 0),.p (.fnAt [(94,[.ref .chart c 0,.ref .strs l 0])] 0)] [] (.x (.i (bU (fun k:Nat=>cM c k l (ETy.get .tran c.trans k)) 0 c.trans.length))) []:=by
 subst h
 exact LS c l _ (ar _) h0 h1 hm
def eE7:Ent:=(75,fun
 | [.c (.pd (.ref .int n 0)),.c (.pd (.fnAt [(88,[.ref .chart c 0])] 0))],[]=>some (some (n=(c.states.length:Int)∧c.states.length≤maxLen),.x (.c (.pd (.int .i64 (bU (fun k:Nat=>dj c.states k) 0 c.states.length)))),[])
 | _,_=>none)
theorem N9:EntOk Tryz.prog eE7:=entOk fun vs ck=>by
 unfold eE7; dsimp only; split
 · rename_i n c; exact entS fun hp=>MJ c n hp.1 hp.2 hp.2
 · exact entN
def eE8:Ent:=(75,fun
 | [.c (.pd (.ref .int n 0)),.c (.pd (.fnAt [(90,[.ref .chart c 0])] 0))],[]=>some (some (n=(c.vars.length:Int)∧c.vars.length≤maxLen),.x (.c (.pd (.int .i64 (bU (fun k:Nat=>eo (ETy.get .var c.vars k)) 0 c.vars.length)))),[])
 | _,_=>none)
theorem Ou:EntOk Tryz.prog eE8:=entOk fun vs ck=>by
 unfold eE8; dsimp only; split
 · rename_i n c; exact entS fun hp=>Lj c n hp.1 hp.2
 · exact entN
def eE9:Ent:=(75,fun
 | [.c (.pd (.ref .int n 0)),.c (.pd (.fnAt [(92,[.ref .chart c 0])] 0))],[]=>some (some (n=(c.states.length:Int)∧c.states.length≤maxLen),.x (.c (.pd (.int .i64 (bU (fun k:Nat=>cS c (ETy.get .stat c.states k)) 0 c.states.length)))),[])
 | _,_=>none)
theorem NH:EntOk Tryz.prog eE9:=entOk fun vs ck=>by
 unfold eE9; dsimp only; split
 · rename_i n c; exact entS fun hp=>MG c n hp.1 hp.2
 · exact entN
def Df:Ent:=(75,fun
 | [.c (.pd (.ref .int n 0)),.c (.pd (.fnAt [(94,[.ref .chart c 0,.ref .strs l 0])] 0))],[]=>some (some (n=(c.trans.length:Int)∧c.states.length≤maxLen∧c.trans.length≤maxLen),.x (.c (.pd (.int .i64 (bU (fun k:Nat=>cM c k l (ETy.get .tran c.trans k)) 0 c.trans.length)))),[])
 | _,_=>none)
theorem M3:EntOk Tryz.prog Df:=entOk fun vs ck=>by
 unfold Df; dsimp only; split
 · rename_i n c l; exact entS fun hp=>IN c l n hp.1 hp.2.1 hp.2.2 hp.2.2
 · exact entN
end Go.Proofs.YtgfifkhbfdacjaaGreatDoor
