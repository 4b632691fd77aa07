/- Contracts: valid.Check's questions. Conditions: sizes. Contracts: valid.Check: each's loops. Conditions: sizes. -/
import Derived.Test.YtgfifkhbfdacjaaGreatDoorTm
namespace Go.Proofs.YtgfifkhbfdacjaaGreatDoor
open Go Go.Ev
set_option maxRecDepth 100000
def KK:Cfg:=⟨aZ,[pN]⟩
theorem Kq:ag Tryz.prog KK.tab:=(ag.cons C3 ag.nil)
variable (c:Chart) (a:List Str) (i:Int) (b l:List Str)
def fX:List Str:=ic [[c.name],c.events,a,b]
theorem L4 (h:(fX c a b).length≤1000000):ah Tryz.prog 77 [.p (.ref .chart c 0),.p (.ref .strs a 0),.p (.ref .strs b 0)] [] (.x (.c (.own 0))) [.own 9 .str (fX c a b)]:=by
 refine dg Kq Tryz.func77 (.need ((ic [[c.name],c.events,a,b]).length≤1000000) (.ret (.x (.c (.own 0))) [.own 9 .str (ic [[c.name],c.events,a,b])])) fun Γ=>?_
 exact ⟨h,rfl,rfl⟩
def eQ2:Ent:=(77,fun
 | [.c (.pd (.ref .chart c 0)),.c (.pd (.ref .strs a 0)),.c (.pd (.ref .strs b 0))],[]=>some (some ((fX c a b).length≤1000000),.x (.c (.own 0)),[.own 9 .str (fX c a b)])
 | _,_=>none)
theorem Oj:EntOk Tryz.prog eQ2:=entOk fun vs ck=>by
 unfold eQ2; dsimp only; split
 · rename_i c a b; exact entS fun hp=>L4 c a b hp
 · exact entN
def Gf:Cfg:=⟨aZ,[jQ]⟩
theorem Hc:ag Tryz.prog Gf.tab:=(ag.cons iL ag.nil)
theorem I4 (s:Str):ah Tryz.prog 83 [.s s] [] (.x (.b (!bf s))) []:=by
 refine dg Hc Tryz.func83 (.ret (.p (.bool !bf s)) []) fun Γ=>⟨rfl,rfl⟩
def C6:Ent:=(83,fun
 | [.c (.pd (.str s))],[]=>some (none,.x (.c (.pd (.bool (!bf s)))),[])
 | _,_=>none)
theorem M6:EntOk Tryz.prog C6:=entOk fun vs ck=>by
 unfold C6; dsimp only; split
 · rename_i s; exact entS fun hp=>I4 s
 · exact entN
def De:Cfg:=⟨aZ,[C6]⟩
theorem xz:ag Tryz.prog De.tab:=(ag.cons M6 ag.nil)
abbrev zTo1:List PI:=[.code [1,0,1,0,0],.inLoop [1,0,1,0,0],.inBlock 0,.code [1,1]]
theorem Jk (Γ:Ctx) (hl:l.length≤maxLen)  : ∀ (n k:Nat),l.length - k≤n→k≤l.length →
 J Tryz.prog 133 (au Tryz.f133) Γ (Eq2 (.x (.i (aE (fun s:Str=>!bf s) (l.drop k) k))) []) zTo1 ({ n:=19,fr:=[(0,.p (.lst .str l)),(1,.x (.c (.fn (.func 83) [] []))),(4,.i 0),(7,.i l.length),(8,.i k)],ck:=[] }):=by
 intro n
 induction n with
 | zero=>?_
 | succ n ih=>?_
 all_goals
  intro k hn hk
  refine jg xz Tryz.func133 (.ite (decide ((k:Int)<(l.length:Int))) (.need (inRg k l.length) (.ite (!bf (ETy.get .str l k)) (.ret (.i k) []) (.stop zTo1 { n:=19,fr:=[(0,.p (.lst .str l)),(1,.x (.c (.fn (.func 83) [] []))),(4,.i 0),(7,.i l.length),(8,.i (IntKind.wrap .i64 ((k:Int)+1)))],ck:=[] }))) (.ret (.i (-1:Int)) [])) ?_
  refine ⟨fun hlt=>?_,fun hge=>?_⟩
  · have hk':k<l.length:=by have:=of_decide_eq_true hlt; omega
    rw [bz (t:=.str) (l:=l) hk']
    refine ⟨by omega,?_⟩
    generalize ETy.get .str l k=v
    refine ⟨fun hb=>⟨?_,rfl⟩,fun hb=>?_⟩
    · simp only [aE,hb,cond_true]
    · simp only [aE,hb,cond_false]; (rw [aW (aA hk' hl)]; first | (exfalso; omega) | exact ih (k+1) (by omega) (by omega))
  · rw [bN (l:=l) (by have:=of_decide_eq_false hge; omega)]
    exact ⟨rfl,rfl⟩
theorem IX:ah Tryz.prog 133 [.l .str (l),SX.c (SC.fn (Fn.func 83) [] [])] [] (.x (.i (aE (fun s:Str=>!bf s) l 0))) []:=by
 refine dg xz Tryz.func133 (.stop zTo1 { n:=19,fr:=[(0,.p (.lst .str l)),(1,.x (.c (.fn (.func 83) [] []))),(4,.i 0),(7,.i l.length),(8,.i 0)],ck:=[] }) fun Γ=>?_
 exact J.len 0 rfl fun hl=>Jk l Γ hl l.length 0 (by omega) (by omega)
def CW:Ent:=(133,fun
 | [.c (.pd (.lst .str l)),.c (.fn (.func 83) [] [])],[]=>some (none,.x (.c (.pd (.int .i64 (aE (fun s:Str=>!bf s) l 0)))),[])
 | _,_=>none)
theorem Mb:EntOk Tryz.prog CW:=entOk fun vs ck=>by
 unfold CW; dsimp only; split
 · rename_i l; exact entS fun hp=>IX l
 · exact entN
def K1:Cfg:=⟨aZ,[CW]⟩
theorem JU:ag Tryz.prog K1.tab:=(ag.cons Mb ag.nil)
theorem Nl:ah Tryz.prog 82 [.l .str l,.c (.fn (.func 83) [] [])] [] (.x (.b (l.any fun s:Str=>!bf s))) []:=by
 refine dg JU Tryz.func82 (.ret (.p (.bool (decide (aE (fun s=>!bf s) l (0:Int)≥0)))) []) fun Γ=>⟨?_,rfl⟩
 rw [iA _ _ _ (by omega)]
def eCf:Ent:=(82,fun
 | [.c (.pd (.lst .str l)),.c (.fn (.func 83) [] [])],[]=>some (none,.x (.c (.pd (.bool (l.any fun s:Str=>!bf s)))),[])
 | _,_=>none)
theorem NW:EntOk Tryz.prog eCf:=entOk fun vs ck=>by
 unfold eCf; dsimp only; split
 · rename_i l; exact entS fun hp=>Nl l
 · exact entN
def KQ:Cfg:=⟨aZ,[eQ2,eCf,kK]⟩
theorem Iz:ag Tryz.prog KQ.tab:=(ag.cons Oj (ag.cons NW (ag.cons jy ag.nil)))
theorem M5 (h:(fX c a b).length≤1000000):ah Tryz.prog 81 [.p (.fnAt [(77,[.ref .chart c 0,.ref .strs a 0,.ref .strs b 0])] 0)] [] (.x (.i (bU (!(fX c a b).any fun s:Str=>!bf s) 2))) []:=by
 refine dg Iz Tryz.func81 (.need ((fX c a b).length≤1000000) (.ret (.i (bU (!List.any (fX c a b) fun s=>!bf s) (2:Int))) [])) fun Γ=>?_
 exact ⟨h,rfl,rfl⟩
def eQ4:Ent:=(81,fun
 | [.c (.pd (.fnAt [(77,[.ref .chart c 0,.ref .strs a 0,.ref .strs b 0])] 0))],[]=>some (some ((fX c a b).length≤1000000),.x (.c (.pd (.int .i64 (bU (!(fX c a b).any fun s:Str=>!bf s) 2)))),[])
 | _,_=>none)
theorem N2:EntOk Tryz.prog eQ4:=entOk fun vs ck=>by
 unfold eQ4; dsimp only; split
 · rename_i c a b; exact entS fun hp=>M5 c a b hp
 · exact entN
def hU:Bool:=decide ((c.events.length:Int)≤12)&&decide ((c.vars.length:Int)≤8)&&decide ((c.states.length:Int)≤40)&&decide ((c.trans.length:Int)≤48)
def jx:Bool:=gI c.events&&gI a&&gI b
def KV:Cfg:=⟨aZ,[kK]⟩
theorem J7:ag Tryz.prog KV.tab:=(ag.cons jy ag.nil)
theorem LH:ah Tryz.prog 79 [.p (.ref .chart c 0)] [] (.x (.i (bU (hU c) 4))) []:=by
 refine dg J7 Tryz.func79 (.ret (.i (bU (decide ((c.events.length:Int)≤12)&&decide ((c.vars.length:Int)≤8)&&decide ((c.states.length:Int)≤40)&&decide ((c.trans.length:Int)≤48)) (4:Int))) []) fun Γ=>⟨rfl,rfl⟩
def eQ3:Ent:=(79,fun
 | [.c (.pd (.ref .chart c 0))],[]=>some (none,.x (.c (.pd (.int .i64 (bU (hU c) 4)))),[])
 | _,_=>none)
theorem N3:EntOk Tryz.prog eQ3:=entOk fun vs ck=>by
 unfold eQ3; dsimp only; split
 · rename_i c; exact entS fun hp=>LH c
 · exact entN
def KZ:Cfg:=⟨aZ,[vT,kK]⟩
theorem H6:ag Tryz.prog KZ.tab:=(ag.cons Kk (ag.cons jy ag.nil))
theorem MT (h:c.events.length≤1000000∧a.length≤1000000∧b.length≤1000000):ah Tryz.prog 84 [.p (.ref .chart c 0),.p (.ref .strs a 0),.p (.ref .strs b 0)] [] (.x (.i (bU (jx c a b) 3))) []:=by
 refine dg H6 Tryz.func84 (.need (c.events.length≤1000000) (.need (gI c.events=true→a.length≤1000000) (.need ((gI c.events&&gI a)=true→b.length≤1000000) (.ret (.i (bU (gI c.events&&gI a&&gI b) (3:Int))) [])))) fun Γ=>?_
 exact ⟨h.1,fun _=>h.2.1,fun _=>h.2.2,rfl,rfl⟩
def eQ5:Ent:=(84,fun
 | [.c (.pd (.ref .chart c 0)),.c (.pd (.ref .strs a 0)),.c (.pd (.ref .strs b 0))],[]=>some (some (c.events.length≤1000000∧a.length≤1000000∧b.length≤1000000),.x (.c (.pd (.int .i64 (bU (jx c a b) 3)))),[])
 | _,_=>none)
theorem NS:EntOk Tryz.prog eQ5:=entOk fun vs ck=>by
 unfold eQ5; dsimp only; split
 · rename_i c a b; exact entS fun hp=>MT c a b hp
 · exact entN
def KN:Cfg:=⟨aZ,[mL,kK]⟩
theorem Io:ag Tryz.prog KN.tab:=(ag.cons sX (ag.cons jy ag.nil))
theorem L6 (h:c.states.length≤maxLen):ah Tryz.prog 86 [.p (.ref .chart c 0)] [] (.x (.i (bU (b8 c.states) 9))) []:=by
 refine dg Io Tryz.func86 (.need (c.states.length≤maxLen) (.ret (.i (bU (b8 c.states) (9:Int))) [])) fun Γ=>?_
 exact ⟨h,rfl,rfl⟩
def eQ6:Ent:=(86,fun
 | [.c (.pd (.ref .chart c 0))],[]=>some (some (c.states.length≤maxLen),.x (.c (.pd (.int .i64 (bU (b8 c.states) 9)))),[])
 | _,_=>none)
theorem NO:EntOk Tryz.prog eQ6:=entOk fun vs ck=>by
 unfold eQ6; dsimp only; split
 · rename_i c; exact entS fun hp=>L6 c hp
 · exact entN
def sJ:Cfg:=⟨aZ,[rh,wc,wF,CN]⟩
theorem mW:ag Tryz.prog sJ.tab:=(ag.cons GS (ag.cons IL (ag.cons Jm (ag.cons Mw ag.nil))))
theorem Mg (h:0≤i∧i<(c.states.length:Int)∧c.states.length≤maxLen):ah Tryz.prog 88 [.i i,.p (.ref .chart c 0)] [] (.x (.i (dk c.states i.toNat))) []:=by
 refine dg mW Tryz.func88 (.need ((0:Int)≤i∧i<(c.states.length:Int)∧c.states.length≤maxLen) (.ret (.i (dk c.states (Int.toNat i))) [])) fun Γ=>⟨h,rfl,rfl⟩
def eQ7:Ent:=(88,fun
 | [.c (.pd (.int .i64 i)),.c (.pd (.ref .chart c 0))],[]=>some (some (0≤i∧i<(c.states.length:Int)∧c.states.length≤maxLen),.x (.c (.pd (.int .i64 (dk c.states i.toNat)))),[])
 | _,_=>none)
theorem NY:EntOk Tryz.prog eQ7:=entOk fun vs ck=>by
 unfold eQ7; dsimp only; split
 · rename_i i c; exact entS fun hp=>Mg c i hp
 · exact entN
theorem MX (h:0≤i∧i<(c.vars.length:Int)):ah Tryz.prog 90 [.i i,.p (.ref .chart c 0)] [] (.x (.i (eA (ETy.get .var c.vars i.toNat)))) []:=by
 refine dg mW Tryz.func90 (.need ((0:Int)≤i∧i<(c.vars.length:Int)) (.ret (.i (eA (ETy.get .var c.vars (Int.toNat i)))) [])) fun Γ=>⟨h,rfl,rfl⟩
def eQ8:Ent:=(90,fun
 | [.c (.pd (.int .i64 i)),.c (.pd (.ref .chart c 0))],[]=>some (some (0≤i∧i<(c.vars.length:Int)),.x (.c (.pd (.int .i64 (eA (ETy.get .var c.vars i.toNat))))),[])
 | _,_=>none)
theorem NM:EntOk Tryz.prog eQ8:=entOk fun vs ck=>by
 unfold eQ8; dsimp only; split
 · rename_i i c; exact entS fun hp=>MX c i hp
 · exact entN
theorem Ln (h:0≤i∧i<(c.states.length:Int)):ah Tryz.prog 92 [.i i,.p (.ref .chart c 0)] [] (.x (.i (cW c (ETy.get .stat c.states i.toNat)))) []:=by
 refine dg mW Tryz.func92 (.need ((0:Int)≤i∧i<(c.states.length:Int)) (.ret (.i (cW c (ETy.get .stat c.states (Int.toNat i)))) [])) fun Γ=>⟨h,rfl,rfl⟩
def eQ9:Ent:=(92,fun
 | [.c (.pd (.int .i64 i)),.c (.pd (.ref .chart c 0))],[]=>some (some (0≤i∧i<(c.states.length:Int)),.x (.c (.pd (.int .i64 (cW c (ETy.get .stat c.states i.toNat))))),[])
 | _,_=>none)
theorem Od:EntOk Tryz.prog eQ9:=entOk fun vs ck=>by
 unfold eQ9; dsimp only; split
 · rename_i i c; exact entS fun hp=>Ln c i hp
 · exact entN
theorem JV (h:0≤i∧i<(c.trans.length:Int)∧c.states.length≤maxLen∧c.trans.length≤maxLen):ah Tryz.prog 94 [.i i,.p (.ref .chart c 0),.p (.ref .strs l 0)] [] (.x (.i (cT c i.toNat l (ETy.get .tran c.trans i.toNat)))) []:=by
 refine dg mW Tryz.func94 (.need ((0:Int)≤i∧i<(c.trans.length:Int)∧c.states.length≤maxLen∧c.trans.length≤maxLen) (.ret (.i (cT c (Int.toNat i) l (ETy.get .tran c.trans (Int.toNat i)))) [])) fun Γ=>⟨h,rfl,rfl⟩
def CT:Ent:=(94,fun
 | [.c (.pd (.int .i64 i)),.c (.pd (.ref .chart c 0)),.c (.pd (.ref .strs l 0))],[]=>some (some (0≤i∧i<(c.trans.length:Int)∧c.states.length≤maxLen∧c.trans.length≤maxLen),.x (.c (.pd (.int .i64 (cT c i.toNat l (ETy.get .tran c.trans i.toNat))))),[])
 | _,_=>none)
theorem MC:EntOk Tryz.prog CT:=entOk fun vs ck=>by
 unfold CT; dsimp only; split
 · rename_i i c l; exact entS fun hp=>JV c i l hp
 · exact entN
end Go.Proofs.YtgfifkhbfdacjaaGreatDoor
namespace Go.Proofs.YtgfifkhbfdacjaaGreatDoor
open Go Go.Ev
set_option maxRecDepth 100000
abbrev zJ75Tp:=J Tryz.prog 75 (au Tryz.f75)
def bS (f:Nat→Int):Nat→Nat→Int
 | _,0=>0
 | k,m+1=>if (f k != 0)=true then f k else bS f (k+1) m
theorem jV (f:Nat→Int) {k n:Nat} (h:k<n):bS f k (n - k)=if (f k != 0)=true then f k else bS f (k+1) (n - (k+1)):=by
 obtain ⟨m,hm⟩:∃ m,n - k=m+1:=⟨n - k - 1,by omega⟩
 rw [hm,show n - (k+1)=m by omega]; rfl
def Du:Cfg:=⟨aZ,[eQ7]⟩
theorem xu:ag Tryz.prog Du.tab:=(ag.cons NY ag.nil)
abbrev zTp1:List PI:=[.code [1,0,1,0,0],.inLoop [1,0,1,0,0],.inBlock 0,.code [1,1]]
variable (c:Chart) (l:List Str) (n:Nat) (Γ:Ctx)
theorem MR (hn:n≤c.states.length) (h0:c.states.length≤maxLen) (hm:n≤maxLen):∀ (m k:Nat),n - k≤m→k≤n →
 zJ75Tp Γ (Eq2 (.x (.i (bS (fun k:Nat=>dk c.states k) k (n - k)))) []) zTp1 ({ n:=16,fr:=[(1,.p (PD.fnAt [(88,[.ref .chart c 0])] 0)),(2,.i 0),(5,.i n),(6,.i ((k:Int)))],ck:=[] }):=by
 intro m
 induction m with
 | zero=>?_
 | succ m ih=>?_
 all_goals
  intro k hmk hk
  refine jg xu Tryz.func75 (.ite (decide ((k:Int)<(n:Int))) (.need ((0:Int)≤(k:Int)∧(k:Int)<(c.states.length:Int)∧c.states.length≤maxLen) (.ite (dk c.states k != (0:Int)) (.ret (.i (dk c.states k)) []) (.stop zTp1 { n:=16,fr:=[(1,.p (PD.fnAt [(88,[.ref .chart c 0])] 0)),(2,.i 0),(5,.i n),(6,.i (IntKind.wrap .i64 ((k:Int)+1)))],ck:=[] }))) (.ret (.i 0) [])) ?_
  refine ⟨fun hlt=>?_,fun hge=>?_⟩
  · have hk':k<n:=by have:=of_decide_eq_true hlt; omega
    rw [jV _ hk']
    refine ⟨⟨by omega,by omega,h0⟩,fun hb=>?_,fun hb=>?_⟩
    · rw [if_pos (by exact hb)]; exact ⟨rfl,rfl⟩
    · rw [if_neg (by rw [show _=false from hb]; decide)]
      rw [aW (aA hk' hm)]
      first | (exfalso; omega) | exact ih (k+1) (by omega) (by omega)
  · have hke:n - k=0:=by have:=of_decide_eq_false hge; omega
    rw [hke]; exact ⟨rfl,rfl⟩
theorem Oa (hn:n≤c.states.length) (h0:c.states.length≤maxLen) (hm:n≤maxLen):ah Tryz.prog 75 [.p (.ref .int (n:Int) 0),.p (.fnAt [(88,[.ref .chart c 0])] 0)] [] (.x (.i (bS (fun k:Nat=>dk c.states k) 0 n))) []:=by
 refine dg xu Tryz.func75 (.stop zTp1 { n:=16,fr:=[(1,.p (PD.fnAt [(88,[.ref .chart c 0])] 0)),(2,.i 0),(5,.i n),(6,.i 0)],ck:=[] }) fun Γ=>?_
 exact MR c n Γ hn h0 hm n 0 (by omega) (by omega)
theorem Nm (n:Int) (h:n=(c.states.length:Int)) (h0:c.states.length≤maxLen) (hm:c.states.length≤maxLen):ah Tryz.prog 75 [.p (.ref .int n 0),.p (.fnAt [(88,[.ref .chart c 0])] 0)] [] (.x (.i (bS (fun k:Nat=>dk c.states k) 0 c.states.length))) []:=by
 subst h
 exact Oa c _ (ar _) h0 hm
def DX:Cfg:=⟨aZ,[eQ8]⟩
theorem yc:ag Tryz.prog DX.tab:=(ag.cons NM ag.nil)
theorem M0 (hn:n≤c.vars.length) (hm:n≤maxLen):∀ (m k:Nat),n - k≤m→k≤n →
 zJ75Tp Γ (Eq2 (.x (.i (bS (fun k:Nat=>eA (ETy.get .var c.vars k)) k (n - k)))) []) zTp1 ({ n:=16,fr:=[(1,.p (PD.fnAt [(90,[.ref .chart c 0])] 0)),(2,.i 0),(5,.i n),(6,.i ((k:Int)))],ck:=[] }):=by
 intro m
 induction m with
 | zero=>?_
 | succ m ih=>?_
 all_goals
  intro k hmk hk
  refine jg yc Tryz.func75 (.ite (decide ((k:Int)<(n:Int))) (.need (inRg k c.vars.length) (.ite (eA (ETy.get .var c.vars k) != (0:Int)) (.ret (.i (eA (ETy.get .var c.vars k))) []) (.stop zTp1 { n:=16,fr:=[(1,.p (PD.fnAt [(90,[.ref .chart c 0])] 0)),(2,.i 0),(5,.i n),(6,.i (IntKind.wrap .i64 ((k:Int)+1)))],ck:=[] }))) (.ret (.i 0) [])) ?_
  refine ⟨fun hlt=>?_,fun hge=>?_⟩
  · have hk':k<n:=by have:=of_decide_eq_true hlt; omega
    rw [jV _ hk']
    refine ⟨⟨by omega,by omega⟩,fun hb=>?_,fun hb=>?_⟩
    · rw [if_pos (by exact hb)]; exact ⟨rfl,rfl⟩
    · rw [if_neg (by rw [show _=false from hb]; decide)]
      rw [aW (aA hk' hm)]
      first | (exfalso; omega) | exact ih (k+1) (by omega) (by omega)
  · have hke:n - k=0:=by have:=of_decide_eq_false hge; omega
    rw [hke]; exact ⟨rfl,rfl⟩
theorem Oc (hn:n≤c.vars.length) (hm:n≤maxLen):ah Tryz.prog 75 [.p (.ref .int (n:Int) 0),.p (.fnAt [(90,[.ref .chart c 0])] 0)] [] (.x (.i (bS (fun k:Nat=>eA (ETy.get .var c.vars k)) 0 n))) []:=by
 refine dg yc Tryz.func75 (.stop zTp1 { n:=16,fr:=[(1,.p (PD.fnAt [(90,[.ref .chart c 0])] 0)),(2,.i 0),(5,.i n),(6,.i 0)],ck:=[] }) fun Γ=>?_
 exact M0 c n Γ hn hm n 0 (by omega) (by omega)
theorem Ms (n:Int) (h:n=(c.vars.length:Int)) (hm:c.vars.length≤maxLen):ah Tryz.prog 75 [.p (.ref .int n 0),.p (.fnAt [(90,[.ref .chart c 0])] 0)] [] (.x (.i (bS (fun k:Nat=>eA (ETy.get .var c.vars k)) 0 c.vars.length))) []:=by
 subst h
 exact Oc c _ (ar _) hm
def Ch:Cfg:=⟨aZ,[eQ9]⟩
theorem xo:ag Tryz.prog Ch.tab:=(ag.cons Od ag.nil)
theorem LG (hn:n≤c.states.length) (hm:n≤maxLen):∀ (m k:Nat),n - k≤m→k≤n →
 zJ75Tp Γ (Eq2 (.x (.i (bS (fun k:Nat=>cW c (ETy.get .stat c.states k)) k (n - k)))) []) zTp1 ({ n:=16,fr:=[(1,.p (PD.fnAt [(92,[.ref .chart c 0])] 0)),(2,.i 0),(5,.i n),(6,.i ((k:Int)))],ck:=[] }):=by
 intro m
 induction m with
 | zero=>?_
 | succ m ih=>?_
 all_goals
  intro k hmk hk
  refine jg xo Tryz.func75 (.ite (decide ((k:Int)<(n:Int))) (.need (inRg k c.states.length) (.ite (cW c (ETy.get .stat c.states k) != (0:Int)) (.ret (.i (cW c (ETy.get .stat c.states k))) []) (.stop zTp1 { n:=16,fr:=[(1,.p (PD.fnAt [(92,[.ref .chart c 0])] 0)),(2,.i 0),(5,.i n),(6,.i (IntKind.wrap .i64 ((k:Int)+1)))],ck:=[] }))) (.ret (.i 0) [])) ?_
  refine ⟨fun hlt=>?_,fun hge=>?_⟩
  · have hk':k<n:=by have:=of_decide_eq_true hlt; omega
    rw [jV _ hk']
    refine ⟨⟨by omega,by omega⟩,fun hb=>?_,fun hb=>?_⟩
    · rw [if_pos (by exact hb)]; exact ⟨rfl,rfl⟩
    · rw [if_neg (by rw [show _=false from hb]; decide)]
      rw [aW (aA hk' hm)]
      first | (exfalso; omega) | exact ih (k+1) (by omega) (by omega)
  · have hke:n - k=0:=by have:=of_decide_eq_false hge; omega
    rw [hke]; exact ⟨rfl,rfl⟩
theorem NB (hn:n≤c.states.length) (hm:n≤maxLen):ah Tryz.prog 75 [.p (.ref .int (n:Int) 0),.p (.fnAt [(92,[.ref .chart c 0])] 0)] [] (.x (.i (bS (fun k:Nat=>cW c (ETy.get .stat c.states k)) 0 n))) []:=by
 refine dg xo Tryz.func75 (.stop zTp1 { n:=16,fr:=[(1,.p (PD.fnAt [(92,[.ref .chart c 0])] 0)),(2,.i 0),(5,.i n),(6,.i 0)],ck:=[] }) fun Γ=>?_
 exact LG c n Γ hn hm n 0 (by omega) (by omega)
theorem Mm (n:Int) (h:n=(c.states.length:Int)) (hm:c.states.length≤maxLen):ah Tryz.prog 75 [.p (.ref .int n 0),.p (.fnAt [(92,[.ref .chart c 0])] 0)] [] (.x (.i (bS (fun k:Nat=>cW c (ETy.get .stat c.states k)) 0 c.states.length))) []:=by
 subst h
 exact NB c _ (ar _) hm
def wT:Cfg:=⟨aZ,[CT]⟩
theorem ux:ag Tryz.prog wT.tab:=(ag.cons MC ag.nil)
theorem J4 (hn:n≤c.trans.length) (h0:c.states.length≤maxLen) (h1:c.trans.length≤maxLen) (hm:n≤maxLen):∀ (m k:Nat),n - k≤m→k≤n →
 zJ75Tp Γ (Eq2 (.x (.i (bS (fun k:Nat=>cT c k l (ETy.get .tran c.trans k)) k (n - k)))) []) zTp1 ({ n:=16,fr:=[(1,.p (PD.fnAt [(94,[.ref .chart c 0,.ref .strs l 0])] 0)),(2,.i 0),(5,.i n),(6,.i ((k:Int)))],ck:=[] }):=by
 intro m
 induction m with
 | zero=>?_
 | succ m ih=>?_
 all_goals
  intro k hmk hk
  refine jg ux Tryz.func75 (.ite (decide ((k:Int)<(n:Int))) (.need ((0:Int)≤(k:Int)∧(k:Int)<(c.trans.length:Int)∧c.states.length≤maxLen∧c.trans.length≤maxLen) (.ite (cT c k l (ETy.get .tran c.trans k) != (0:Int)) (.ret (.i (cT c k l (ETy.get .tran c.trans k))) []) (.stop zTp1 { n:=16,fr:=[(1,.p (PD.fnAt [(94,[.ref .chart c 0,.ref .strs l 0])] 0)),(2,.i 0),(5,.i n),(6,.i (IntKind.wrap .i64 ((k:Int)+1)))],ck:=[] }))) (.ret (.i 0) [])) ?_
  refine ⟨fun hlt=>?_,fun hge=>?_⟩
  · have hk':k<n:=by have:=of_decide_eq_true hlt; omega
    rw [jV _ hk']
    refine ⟨⟨by omega,by omega,h0,h1⟩,fun hb=>?_,fun hb=>?_⟩
    · rw [if_pos (by exact hb)]; exact ⟨rfl,rfl⟩
    · rw [if_neg (by rw [show _=false from hb]; decide)]
      rw [aW (aA hk' hm)]
      first | (exfalso; omega) | exact ih (k+1) (by omega) (by omega)
  · have hke:n - k=0:=by have:=of_decide_eq_false hge; omega
    rw [hke]; exact ⟨rfl,rfl⟩
theorem Ls (hn:n≤c.trans.length) (h0:c.states.length≤maxLen) (h1:c.trans.length≤maxLen) (hm:n≤maxLen):ah Tryz.prog 75 [.p (.ref .int (n:Int) 0),.p (.fnAt [(94,[.ref .chart c 0,.ref .strs l 0])] 0)] [] (.x (.i (bS (fun k:Nat=>cT c k l (ETy.get .tran c.trans k)) 0 n))) []:=by
 refine dg ux Tryz.func75 (.stop zTp1 { n:=16,fr:=[(1,.p (PD.fnAt [(94,[.ref .chart c 0,.ref .strs l 0])] 0)),(2,.i 0),(5,.i n),(6,.i 0)],ck:=[] }) fun Γ=>?_
 exact J4 c l n Γ hn h0 h1 hm n 0 (by omega) (by omega)
theorem Ir (n:Int) (h:n=(c.trans.length:Int)) (h0:c.states.length≤maxLen) (h1:c.trans.length≤maxLen) (hm:c.trans.length≤maxLen):ah Tryz.prog 75 [.p (.ref .int n 0),.p (.fnAt [(94,[.ref .chart c 0,.ref .strs l 0])] 0)] [] (.x (.i (bS (fun k:Nat=>cT c k l (ETy.get .tran c.trans k)) 0 c.trans.length))) []:=by
 subst h
 exact Ls c l _ (ar _) h0 h1 hm
def eE7:Ent:=(75,fun
 | [.c (.pd (.ref .int n 0)),.c (.pd (.fnAt [(88,[.ref .chart c 0])] 0))],[]=>some (some (n=(c.states.length:Int)∧c.states.length≤maxLen),.x (.c (.pd (.int .i64 (bS (fun k:Nat=>dk c.states k) 0 c.states.length)))),[])
 | _,_=>none)
theorem Oi:EntOk Tryz.prog eE7:=entOk fun vs ck=>by
 unfold eE7; dsimp only; split
 · rename_i n c; exact entS fun hp=>Nm c n hp.1 hp.2 hp.2
 · exact entN
def eE8:Ent:=(75,fun
 | [.c (.pd (.ref .int n 0)),.c (.pd (.fnAt [(90,[.ref .chart c 0])] 0))],[]=>some (some (n=(c.vars.length:Int)∧c.vars.length≤maxLen),.x (.c (.pd (.int .i64 (bS (fun k:Nat=>eA (ETy.get .var c.vars k)) 0 c.vars.length)))),[])
 | _,_=>none)
theorem NX:EntOk Tryz.prog eE8:=entOk fun vs ck=>by
 unfold eE8; dsimp only; split
 · rename_i n c; exact entS fun hp=>Ms c n hp.1 hp.2
 · exact entN
def eE9:Ent:=(75,fun
 | [.c (.pd (.ref .int n 0)),.c (.pd (.fnAt [(92,[.ref .chart c 0])] 0))],[]=>some (some (n=(c.states.length:Int)∧c.states.length≤maxLen),.x (.c (.pd (.int .i64 (bS (fun k:Nat=>cW c (ETy.get .stat c.states k)) 0 c.states.length)))),[])
 | _,_=>none)
theorem NU:EntOk Tryz.prog eE9:=entOk fun vs ck=>by
 unfold eE9; dsimp only; split
 · rename_i n c; exact entS fun hp=>Mm c n hp.1 hp.2
 · exact entN
def CJ:Ent:=(75,fun
 | [.c (.pd (.ref .int n 0)),.c (.pd (.fnAt [(94,[.ref .chart c 0,.ref .strs l 0])] 0))],[]=>some (some (n=(c.trans.length:Int)∧c.states.length≤maxLen∧c.trans.length≤maxLen),.x (.c (.pd (.int .i64 (bS (fun k:Nat=>cT c k l (ETy.get .tran c.trans k)) 0 c.trans.length)))),[])
 | _,_=>none)
theorem M7:EntOk Tryz.prog CJ:=entOk fun vs ck=>by
 unfold CJ; dsimp only; split
 · rename_i n c l; exact entS fun hp=>Ir c l n hp.1 hp.2.1 hp.2.2 hp.2.2
 · exact entN
end Go.Proofs.YtgfifkhbfdacjaaGreatDoor
