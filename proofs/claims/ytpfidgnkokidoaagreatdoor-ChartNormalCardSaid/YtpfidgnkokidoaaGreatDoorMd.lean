/- Contracts of the program's reader of expressions: its small steps. Conditions: places within the text. -/
import Derived.Test.YtpfidgnkokidoaaGreatDoorNc
import Derived.Test.YtpfidgnkokidoaaGreatDoorUp
import Derived.Test.YtpfidgnkokidoaaGreatDoorPX
namespace Go.Proofs.YtpfidgnkokidoaaGreatDoor
open Go Go.Ev
set_option maxRecDepth 100000
abbrev zJ160Md:=J Tryz.prog 160 (aH Tryz.f160)
variable (s:Str) (pos bad:Int) (a:Str) {rest:Str} (b:Int) {p:Int} (c k:Int) {op:Int} (out d:List Cell) {l:List Int} (r:Rd)
def rdB (i:Nat):List SC:=[SC.pd (PD.str s),SC.i r.pos,SC.own i,SC.i r.bad]
abbrev rd1:List Chunk:=[Chunk.cells (rdB s r 1) 169,Chunk.own 92 ETy.cell r.out]
abbrev rd2:List Chunk:=[Chunk.cells (rdB s r 2) 169,Chunk.dead,Chunk.own 92 ETy.cell r.out]
abbrev RdQ (o:Rd):Out:=Kept (.tup []) (rdB s o 1) 169 92 .cell o.out
theorem ak.rd {f:FuncId} {fn:Func} {args:List SX} {ck:List Chunk} {s:Str} {o:Rd} (hf:Tryz.prog.funcs[f]?=some fn) (hb:fn.body.isSome=true) (hn:Nat.ble args.length fn.ntmps=true) (hl:ck.length=2)
 (h:∀ Γ,J Tryz.prog f (aH fn) Γ (RdQ s o) [.code []] (cL fn.ntmps args ck)):ak Tryz.prog f args ck (.tup []) (rd2 s o) :=
 ak.kept (cs:=rdB s o 1) hf hb hn hl (.inl rfl) rfl h
theorem RdQ.one {s:Str} {o:Rd} {ck:List Chunk} (h:ck=rd1 s o):RdQ s o (.tup []) ck:=⟨rfl,.inl h⟩
theorem RdQ.two {s:Str} {o:Rd} {ck:List Chunk} (h:ck=rd2 s o):RdQ s o (.tup []) ck:=⟨rfl,.inr h⟩
abbrev zMd2:List Chunk:=[.cells [.pd (.str a),.i b,.own 1,.i c] 169,.own 92 .cell d]
theorem Ed:ak Tryz.prog 121 [.c (.loc 0 0),.i k] (zMd2 s pos bad out) (.tup []) [.cells [.pd (.str s),.i pos,.own 1,.i (if bad<0 then k else bad)] 169,.own 92 .cell out]:=by
 refine dg bH Tryz.func121 (.ite (decide (bad<(0:Int))) (.ret (.tup []) (zMd2 s pos k out)) (.ret (.tup []) (zMd2 s pos bad out))) fun Γ=>?_
 refine ⟨fun h=>?_,fun h=>?_⟩
 · rw [if_pos (of_decide_eq_true h)]; exact ⟨rfl,rfl⟩
 · rw [if_neg (of_decide_eq_false h)]; exact ⟨rfl,rfl⟩
def j1:Ent:=(121,fun
 | [.c (.loc 0 0),.c (.pd (.int .i64 k))],[.cells [.pd (.str s),.pd (.int .i64 pos),.own 1,.pd (.int .i64 bad)] 169,.own 92 .cell out]=>some (none,.tup [],[.cells [.pd (.str s),.pd (.int .i64 pos),.own 1,.pd (.int .i64 (if bad<0 then k else bad))] 169,.own 92 .cell out])
 | _,_=>none)
theorem jZ:EntOk Tryz.prog j1:=entOk fun vs ck=>by
 unfold j1; dsimp only; split
 · rename_i k s pos bad out; exact entS fun hp=>Ed s pos bad k out
 · exact entN
theorem Hc (c:Cell) (h:room (out.length+1) 32):ak Tryz.prog 161 [.c (.loc 0 0),.e .cell c] (zMd2 s pos bad out) (.tup []) [.cells [.pd (.str s),.i pos,.own 2,.i bad] 169,.dead,.own 92 .cell (out++[c])]:=by
 refine dg bH Tryz.func161 (.need (room ((out++[c]).length) 32) (.ret (.tup []) [.cells [.pd (.str s),.i pos,.own 2,.i bad] 169,.dead,.own 92 .cell (out++[c])])) fun Γ=>?_
 exact ⟨by rw [ag]; exact h,rfl,rfl⟩
def mT:Ent:=(161,fun
 | [.c (.loc 0 0),.agg [.pd (.int .i64 op),.pd (.int .i64 a),.pd (.str nm)]],[.cells [.pd (.str s),.pd (.int .i64 pos),.own 1,.pd (.int .i64 bad)] 169,.own 92 .cell out]=>some (some (room (out.length+1) 32),.tup [],[.cells [.pd (.str s),.pd (.int .i64 pos),.own 2,.pd (.int .i64 bad)] 169,.dead,.own 92 .cell (out++[(⟨op,a,nm⟩:Cell)])])
 | _,_=>none)
theorem mq:EntOk Tryz.prog mT:=entOk fun vs ck=>by
 unfold mT; dsimp only; split
 · rename_i op a nm s pos bad out; exact entS fun hp=>Hc s pos bad out ⟨op,a,nm⟩ hp
 · exact entN
theorem IE (op:Int):ak Tryz.prog 104 [.i op] [] (.tup [.s (ax op).1,.i (ax op).2]) []:=by
 refine dg bH Tryz.func104 (.ite (op==(23:Int)) (.ret (.tup [.p (.str [124]),.i 1]) []) (.ite (op==(22:Int)) (.ret (.tup [.p (.str [38]),.i 2]) []) (.ite (op==(16:Int)) (.ret (.tup [.p (.str [61]),.i 3]) []) (.ite (op==(17:Int)) (.ret (.tup [.p (.str [33,61]),.i 3]) []) (.ite (op==(18:Int)) (.ret (.tup [.p (.str [60]),.i 3]) []) (.ite (op==(19:Int)) (.ret (.tup [.p (.str [60,61]),.i 3]) []) (.ite (op==(20:Int)) (.ret (.tup [.p (.str [62]),.i 3]) []) (.ite (op==(21:Int)) (.ret (.tup [.p (.str [62,61]),.i 3]) []) (.ite (op==(11:Int)) (.ret (.tup [.p (.str [43]),.i 4]) []) (.ite (op==(12:Int)) (.ret (.tup [.p (.str [45]),.i 4]) []) (.ite (op==(13:Int)) (.ret (.tup [.p (.str [42]),.i 5]) []) (.ite (op==(14:Int)) (.ret (.tup [.p (.str [47]),.i 5]) []) (.ite (op==(15:Int)) (.ret (.tup [.p (.str [37]),.i 5]) []) (.ite (op==(7:Int)) (.ret (.tup [.p (.str [45]),.i 6]) []) (.ite (op==(8:Int)) (.ret (.tup [.p (.str [33]),.i 6]) []) (.ret (.tup [.p (.str []),.i 7]) [])))))))))))))))) fun Γ=>?_
 (repeat' (first | intro h | constructor)) <;> simp only [ax, *,cond_true,cond_false]
def uv:Ent:=(104,fun
 | [.c (.pd (.int .i64 op))],[]=>some (none,.tup [.c (.pd (.str (ax op).1)),.c (.pd (.int .i64 (ax op).2))],[])
 | _,_=>none)
theorem AC:EntOk Tryz.prog uv:=entOk fun vs ck=>by
 unfold uv; dsimp only; split
 · rename_i op; exact entS fun hp=>IE op
 · exact entN
def Ga:Cfg:=⟨bu,[eHp]⟩
theorem G2:ai Tryz.prog Ga.tab:=(ai.cons Gc ai.nil)
theorem uC (b:Str):ak Tryz.prog 99 [.s a,.s b] [] (.x (.b (bm a b))) []:=by
 refine dg G2 Tryz.func99 (.ret (.p (.bool (decide (af a≥af b)&&List.take ((af b).toNat) a==b))) []) fun Γ=>?_
 exact ⟨rfl,rfl⟩
def Eg:Ent:=(99,fun
 | [.c (.pd (.str a)),.c (.pd (.str b))],[]=>some (none,.x (.c (.pd (.bool (bm a b)))),[])
 | _,_=>none)
theorem Nd:EntOk Tryz.prog Eg:=entOk fun vs ck=>by
 unfold Eg; dsimp only; split
 · rename_i a b; exact entS fun hp=>uC a b
 · exact entN
/-! ### words -/
theorem Bt {p:UInt8→Bool} {s:Str} {m:Nat} (h:m<s.length→p (s.getD m 0)=false):(s.drop m).takeWhile p=[]:=by
 by_cases hm:m<s.length
 · rw [eo hm,eg,if_neg (by rw [h hm]; simp)]
 · rw [b9 hm]; rfl
theorem C3 {p:UInt8→Bool} {s:Str} {k m:Nat} (hk:k≤m) (hm:m<s.length) (h:p (s.getD m 0)=true):seg s k m++(s.drop m).takeWhile p=seg s k (m+1)++(s.drop (m+1)).takeWhile p:=by
 rw [eo hm,eg,if_pos h,jW hm hk,aX]; rfl
abbrev zMd4:List PI:=[.code [1,1,0,0,0],.inLoop [1,1,0,0,0],.inBlock 0,.code [1,1,1]]
theorem Ep (k:Nat) (out:List Cell) (Γ:Ctx) (hs:s.length≤1048576):∀ (n m:Nat),s.length - m≤n→m≤s.length→k≤m →
 J Tryz.prog 209 (aH Tryz.f209) Γ (Eq2 (.x (.s (seg s k m++(s.drop m).takeWhile fJ))) [Chunk.cells [SC.pd (PD.str s),SC.i pos,SC.own 1,SC.i bad] 169,Chunk.own 92 ETy.cell out]) zMd4 ({ n:=68,fr:=[(0,.x (.c (.loc 0 0))),(1,.i ((k:Int))),(4,.p (.str [])),(5,.i ((m:Int)))],ck:=(zMd2 s pos bad out),m:=2 }):=by
 intro n
 induction n with
 | zero=>?_
 | succ n ih=>?_
 all_goals
  intro m hn hm hk
  refine jg bH Tryz.func209 (let x1:=(↑((List.getD s m (0:UInt8)).toNat):Int); let x2:=((m:Int)<af s); let x3:List Chunk:=(zMd2 s pos bad out); let x4:=(decide (x1≥97)&&decide (x1≤122)); .need (decide x2=true→(0:Int)≤(m:Int)∧(m:Int)<af s) (.need (decide x2=true∧decide (x1≥97)=true→(0:Int)≤(m:Int)∧(m:Int)<af s) (.need (decide x2=true∧x4=false→(0:Int)≤(m:Int)∧(m:Int)<af s) (.need ((decide x2=true∧x4=false)∧decide (x1≥48)=true→(0:Int)≤(m:Int)∧(m:Int)<af s) (.need (decide x2=true∧(decide (x1≥97)&&decide (x1≤122)||decide (x1≥48)&&decide (x1≤57))=false→(0:Int)≤(m:Int)∧(m:Int)<af s) (.ite (decide x2&&(decide (x1≥97)&&decide (x1≤122)||decide (x1≥48)&&decide (x1≤57)||x1==95)) (.stop zMd4 { n:=68,fr:=[(0,.x (.c (.loc 0 0))),(1,.i k),(4,.p (.str [])),(5,.i (IntKind.wrap .i64 ((m:Int)+1)))],ck:=x3,m:=2 }) (.need ((0:Int)≤(k:Int)∧(k:Int)≤(m:Int)∧(m:Int)≤(s.length:Int)) (.ret (.p (.str ((aB s (some (k:Int)) (some (m:Int))).2))) x3)))))))) ?_
  conv=>zeta
  have hL:af s=(s.length:Int):=rfl
  have inb:decide ((m:Int)<af s)=true→0≤(m:Int)∧(m:Int)<af s:=fun h=>⟨by omega,of_decide_eq_true h⟩
  refine ⟨inb,fun h=>inb h.1,fun h=>inb h.1,fun h=>inb h.1.1,fun h=>inb h.1,fun h=>?_,fun h=>⟨⟨by omega,by omega,by omega⟩,?_,rfl⟩⟩
  · have h':(decide ((m:Int)<af s)&&fJ (s.getD m 0))=true:=h
    simp only [ab,decide_eq_true_eq] at h'
    have hlt:m<s.length:=by omega
    first
    | (exfalso; omega)
    | (rw [dY (by omega),C3 hk hlt h'.2]
       exact ih (m+1) (by omega) (by omega) (by omega))
  · have h':(decide ((m:Int)<af s)&&fJ (s.getD m 0))=false:=h
    have e:(s.drop m).takeWhile fJ=[]:=Bt fun hlt=>by
     rw [decide_eq_true (by omega),bT] at h'; exact h'
    rw [e,bt]; rfl
abbrev zMd3:List Chunk:=[.cells [.pd (.str a),.pd (.int .i64 b),.own 1,.pd (.int .i64 c)] 169,.own 92 .cell d]
theorem Fy (hs:s.length≤1048576) (h0:0≤k) (h1:k≤af s):ak Tryz.prog 209 [.c (.loc 0 0),.i k] (zMd3 s pos bad out) (.x (.s (aG s k))) (zMd3 s pos bad out):=by
 obtain ⟨k,rfl⟩:=dX h0
 refine dg bH Tryz.func209 (.stop zMd4 { n:=68,fr:=[(0,.x (.c (.loc 0 0))),(1,.i k),(4,.p (.str [])),(5,.i k)],ck:=(zMd2 s pos bad out),m:=2 }) fun Γ=>?_
 have hL:af s=(s.length:Int):=rfl
 have h:=Ep s pos bad k out Γ hs s.length k (by omega) (by omega) (aw _)
 rw [iH] at h
 exact h
def qo:Ent:=(209,fun
 | [.c (.loc 0 0),.c (.pd (.int .i64 k))],[.cells [.pd (.str s),.pd (.int .i64 pos),.own 1,.pd (.int .i64 bad)] 169,.own 92 .cell out]=>some (some (s.length≤1048576∧0≤k∧k≤af s),.x (.c (.pd (.str (aG s k)))),[.cells [.pd (.str s),.pd (.int .i64 pos),.own 1,.pd (.int .i64 bad)] 169,.own 92 .cell out])
 | _,_=>none)
theorem xx:EntOk Tryz.prog qo:=entOk fun vs ck=>by
 unfold qo; dsimp only; split
 · rename_i k s pos bad out; exact entS fun hp=>Fy s pos bad k out hp.1 hp.2.1 hp.2.2
 · exact entN
/-! ### operators -/
theorem ga (h:((ax op).2==p&&bm rest (ax op).1)=true):bg rest p (op::l)=(op,af (ax op).1):=by
 rw [bg,h]; rfl
theorem ft (h:((ax op).2==p&&bm rest (ax op).1)=false):bg rest p (op::l)=bg rest p l:=by
 rw [bg,h]; rfl
def fN:Cfg:=⟨bu,[uv,Eg]⟩
theorem dP:ai Tryz.prog fN.tab:=(ai.cons AC (ai.cons Nd ai.nil))
abbrev zMd1:List PI:=[.code [1,1,0,1,0,0],.inLoop [1,1,0,1,0,0],.inBlock 0,.code [1,1,1]]
theorem E7 (p:Int) (out:List Cell) (h0:0≤pos) (h1:pos≤af s):ak Tryz.prog 160 [.c (.loc 0 0),.i p] (zMd3 s pos bad out) (.tup [.i (bp (s.drop pos.toNat) p).1,.i (bp (s.drop pos.toNat) p).2]) (zMd3 s pos bad out):=by
 refine dg dP Tryz.func160 (.need ((0:Int)≤pos∧pos≤(s.length:Int)) (.stop zMd1 { n:=41,fr:=[(6,.p (.str ((aB s (some pos) none).2))),(1,.i p),(4,.i 0),(5,.i 0),(20,.x (.agg [.i 17,.i 19,.i 21,.i 18,.i 20,.i 16,.i 23,.i 22,.i 11,.i 12,.i 13,.i 14,.i 15])),(21,.i 0)],ck:=(zMd2 s pos bad out),m:=2 })) fun Γ=>?_
 refine ⟨⟨h0,h1⟩,?_⟩
 have fin:zJ160Md Γ (Eq2 (.tup [.i (bg (s.drop pos.toNat) p (opsL.drop 13)).1,.i (bg (s.drop pos.toNat) p (opsL.drop 13)).2]) [Chunk.cells [SC.pd (PD.str s),SC.i pos,SC.own 1,SC.i bad] 169,Chunk.own 92 ETy.cell out]) zMd1 ({ n:=41,fr:=[(6,.p (.str ((aB s (some pos) none).2))),(1,.i p),(4,.i 0),(5,.i 0),(20,.x (.agg [.i 17,.i 19,.i 21,.i 18,.i 20,.i 16,.i 23,.i 22,.i 11,.i 12,.i 13,.i 14,.i 15])),(21,.i ((13:Int)))],ck:=(zMd2 s pos bad out),m:=2 }):=by
  refine jg dP Tryz.func160 (.ite false (.stop [.ops [1,1,0,1,0,0,1,1,0,0,0] 0,.code [1,1,0,1,0,0,1,1,0,0,1],.inBlock 1,.code [1,1,0,1,0,0,1,1,1],.inLoop [1,1,0,1,0,0],.inBlock 0,.code [1,1,1]] { n:=41,fr:=[(6,.p (.str ((aB s (some pos) none).2))),(1,.i p),(4,.i 0),(5,.i 0),(20,.x (.agg [.i 17,.i 19,.i 21,.i 18,.i 20,.i 16,.i 23,.i 22,.i 11,.i 12,.i 13,.i 14,.i 15])),(21,.i 13)],ck:=(zMd2 s pos bad out),m:=2 }) (.ret (.tup [.i 0,.i 0]) (zMd2 s pos bad out))) ?_
  exact ⟨fun h=>Bool.noConfusion h,fun _=>⟨rfl,rfl⟩⟩
 have s12:zJ160Md Γ (Eq2 (.tup [.i (bg (s.drop pos.toNat) p (opsL.drop 12)).1,.i (bg (s.drop pos.toNat) p (opsL.drop 12)).2]) [Chunk.cells [SC.pd (PD.str s),SC.i pos,SC.own 1,SC.i bad] 169,Chunk.own 92 ETy.cell out]) zMd1 ({ n:=41,fr:=[(6,.p (.str ((aB s (some pos) none).2))),(1,.i p),(4,.i 0),(5,.i 0),(20,.x (.agg [.i 17,.i 19,.i 21,.i 18,.i 20,.i 16,.i 23,.i 22,.i 11,.i 12,.i 13,.i 14,.i 15])),(21,.i ((12:Int)))],ck:=(zMd2 s pos bad out),m:=2 }):=by
  refine jg dP Tryz.func160 (let x1:List Chunk:=(zMd2 s pos bad out); .ite true (.need ((0:Int)≤12∧(12:Int)<(↑(13:Nat):Int)) (.ite ((ax (15:Int)).2==p&&bm ((aB s (some pos) none).2) ((ax (15:Int)).1)) (.ret (.tup [.i 15,.i (af ((ax (15:Int)).1))]) x1) (.stop zMd1 { n:=41,fr:=[(6,.p (.str ((aB s (some pos) none).2))),(1,.i p),(4,.i 0),(5,.i 0),(20,.x (.agg [.i 17,.i 19,.i 21,.i 18,.i 20,.i 16,.i 23,.i 22,.i 11,.i 12,.i 13,.i 14,.i 15])),(21,.i (IntKind.wrap .i64 ((12:Int)+1)))],ck:=x1,m:=2 }))) (.ret (.tup [.i 0,.i 0]) x1)) ?_
  conv=>zeta
  refine ⟨fun _=>⟨by decide,fun h=>?_,fun h=>?_⟩,fun h=>Bool.noConfusion h⟩
  · have e:bg (s.drop pos.toNat) p (opsL.drop 12)=(15,af (ax 15).1):=ga h
    rw [e]; exact ⟨rfl,rfl⟩
  · have e:bg (s.drop pos.toNat) p (opsL.drop 12)=bg (s.drop pos.toNat) p (opsL.drop 13):=ft (op:=15) h
    rw [e]; exact fin
 have s11:zJ160Md Γ (Eq2 (.tup [.i (bg (s.drop pos.toNat) p (opsL.drop 11)).1,.i (bg (s.drop pos.toNat) p (opsL.drop 11)).2]) [Chunk.cells [SC.pd (PD.str s),SC.i pos,SC.own 1,SC.i bad] 169,Chunk.own 92 ETy.cell out]) zMd1 ({ n:=41,fr:=[(6,.p (.str ((aB s (some pos) none).2))),(1,.i p),(4,.i 0),(5,.i 0),(20,.x (.agg [.i 17,.i 19,.i 21,.i 18,.i 20,.i 16,.i 23,.i 22,.i 11,.i 12,.i 13,.i 14,.i 15])),(21,.i ((11:Int)))],ck:=(zMd2 s pos bad out),m:=2 }):=by
  refine jg dP Tryz.func160 (let x1:List Chunk:=(zMd2 s pos bad out); .ite true (.need ((0:Int)≤11∧(11:Int)<(↑(13:Nat):Int)) (.ite ((ax (14:Int)).2==p&&bm ((aB s (some pos) none).2) ((ax (14:Int)).1)) (.ret (.tup [.i 14,.i (af ((ax (14:Int)).1))]) x1) (.stop zMd1 { n:=41,fr:=[(6,.p (.str ((aB s (some pos) none).2))),(1,.i p),(4,.i 0),(5,.i 0),(20,.x (.agg [.i 17,.i 19,.i 21,.i 18,.i 20,.i 16,.i 23,.i 22,.i 11,.i 12,.i 13,.i 14,.i 15])),(21,.i (IntKind.wrap .i64 ((11:Int)+1)))],ck:=x1,m:=2 }))) (.ret (.tup [.i 0,.i 0]) x1)) ?_
  conv=>zeta
  refine ⟨fun _=>⟨by decide,fun h=>?_,fun h=>?_⟩,fun h=>Bool.noConfusion h⟩
  · have e:bg (s.drop pos.toNat) p (opsL.drop 11)=(14,af (ax 14).1):=ga h
    rw [e]; exact ⟨rfl,rfl⟩
  · have e:bg (s.drop pos.toNat) p (opsL.drop 11)=bg (s.drop pos.toNat) p (opsL.drop 12):=ft (op:=14) h
    rw [e]; exact s12
 have s10:zJ160Md Γ (Eq2 (.tup [.i (bg (s.drop pos.toNat) p (opsL.drop 10)).1,.i (bg (s.drop pos.toNat) p (opsL.drop 10)).2]) [Chunk.cells [SC.pd (PD.str s),SC.i pos,SC.own 1,SC.i bad] 169,Chunk.own 92 ETy.cell out]) zMd1 ({ n:=41,fr:=[(6,.p (.str ((aB s (some pos) none).2))),(1,.i p),(4,.i 0),(5,.i 0),(20,.x (.agg [.i 17,.i 19,.i 21,.i 18,.i 20,.i 16,.i 23,.i 22,.i 11,.i 12,.i 13,.i 14,.i 15])),(21,.i ((10:Int)))],ck:=(zMd2 s pos bad out),m:=2 }):=by
  refine jg dP Tryz.func160 (let x1:List Chunk:=(zMd2 s pos bad out); .ite true (.need ((0:Int)≤10∧(10:Int)<(↑(13:Nat):Int)) (.ite ((ax (13:Int)).2==p&&bm ((aB s (some pos) none).2) ((ax (13:Int)).1)) (.ret (.tup [.i 13,.i (af ((ax (13:Int)).1))]) x1) (.stop zMd1 { n:=41,fr:=[(6,.p (.str ((aB s (some pos) none).2))),(1,.i p),(4,.i 0),(5,.i 0),(20,.x (.agg [.i 17,.i 19,.i 21,.i 18,.i 20,.i 16,.i 23,.i 22,.i 11,.i 12,.i 13,.i 14,.i 15])),(21,.i (IntKind.wrap .i64 ((10:Int)+1)))],ck:=x1,m:=2 }))) (.ret (.tup [.i 0,.i 0]) x1)) ?_
  conv=>zeta
  refine ⟨fun _=>⟨by decide,fun h=>?_,fun h=>?_⟩,fun h=>Bool.noConfusion h⟩
  · have e:bg (s.drop pos.toNat) p (opsL.drop 10)=(13,af (ax 13).1):=ga h
    rw [e]; exact ⟨rfl,rfl⟩
  · have e:bg (s.drop pos.toNat) p (opsL.drop 10)=bg (s.drop pos.toNat) p (opsL.drop 11):=ft (op:=13) h
    rw [e]; exact s11
 have s9:zJ160Md Γ (Eq2 (.tup [.i (bg (s.drop pos.toNat) p (opsL.drop 9)).1,.i (bg (s.drop pos.toNat) p (opsL.drop 9)).2]) [Chunk.cells [SC.pd (PD.str s),SC.i pos,SC.own 1,SC.i bad] 169,Chunk.own 92 ETy.cell out]) zMd1 ({ n:=41,fr:=[(6,.p (.str ((aB s (some pos) none).2))),(1,.i p),(4,.i 0),(5,.i 0),(20,.x (.agg [.i 17,.i 19,.i 21,.i 18,.i 20,.i 16,.i 23,.i 22,.i 11,.i 12,.i 13,.i 14,.i 15])),(21,.i ((9:Int)))],ck:=(zMd2 s pos bad out),m:=2 }):=by
  refine jg dP Tryz.func160 (let x1:List Chunk:=(zMd2 s pos bad out); .ite true (.need ((0:Int)≤9∧(9:Int)<(↑(13:Nat):Int)) (.ite ((ax (12:Int)).2==p&&bm ((aB s (some pos) none).2) ((ax (12:Int)).1)) (.ret (.tup [.i 12,.i (af ((ax (12:Int)).1))]) x1) (.stop zMd1 { n:=41,fr:=[(6,.p (.str ((aB s (some pos) none).2))),(1,.i p),(4,.i 0),(5,.i 0),(20,.x (.agg [.i 17,.i 19,.i 21,.i 18,.i 20,.i 16,.i 23,.i 22,.i 11,.i 12,.i 13,.i 14,.i 15])),(21,.i (IntKind.wrap .i64 ((9:Int)+1)))],ck:=x1,m:=2 }))) (.ret (.tup [.i 0,.i 0]) x1)) ?_
  conv=>zeta
  refine ⟨fun _=>⟨by decide,fun h=>?_,fun h=>?_⟩,fun h=>Bool.noConfusion h⟩
  · have e:bg (s.drop pos.toNat) p (opsL.drop 9)=(12,af (ax 12).1):=ga h
    rw [e]; exact ⟨rfl,rfl⟩
  · have e:bg (s.drop pos.toNat) p (opsL.drop 9)=bg (s.drop pos.toNat) p (opsL.drop 10):=ft (op:=12) h
    rw [e]; exact s10
 have s8:zJ160Md Γ (Eq2 (.tup [.i (bg (s.drop pos.toNat) p (opsL.drop 8)).1,.i (bg (s.drop pos.toNat) p (opsL.drop 8)).2]) [Chunk.cells [SC.pd (PD.str s),SC.i pos,SC.own 1,SC.i bad] 169,Chunk.own 92 ETy.cell out]) zMd1 ({ n:=41,fr:=[(6,.p (.str ((aB s (some pos) none).2))),(1,.i p),(4,.i 0),(5,.i 0),(20,.x (.agg [.i 17,.i 19,.i 21,.i 18,.i 20,.i 16,.i 23,.i 22,.i 11,.i 12,.i 13,.i 14,.i 15])),(21,.i ((8:Int)))],ck:=(zMd2 s pos bad out),m:=2 }):=by
  refine jg dP Tryz.func160 (let x1:List Chunk:=(zMd2 s pos bad out); .ite true (.need ((0:Int)≤8∧(8:Int)<(↑(13:Nat):Int)) (.ite ((ax (11:Int)).2==p&&bm ((aB s (some pos) none).2) ((ax (11:Int)).1)) (.ret (.tup [.i 11,.i (af ((ax (11:Int)).1))]) x1) (.stop zMd1 { n:=41,fr:=[(6,.p (.str ((aB s (some pos) none).2))),(1,.i p),(4,.i 0),(5,.i 0),(20,.x (.agg [.i 17,.i 19,.i 21,.i 18,.i 20,.i 16,.i 23,.i 22,.i 11,.i 12,.i 13,.i 14,.i 15])),(21,.i (IntKind.wrap .i64 ((8:Int)+1)))],ck:=x1,m:=2 }))) (.ret (.tup [.i 0,.i 0]) x1)) ?_
  conv=>zeta
  refine ⟨fun _=>⟨by decide,fun h=>?_,fun h=>?_⟩,fun h=>Bool.noConfusion h⟩
  · have e:bg (s.drop pos.toNat) p (opsL.drop 8)=(11,af (ax 11).1):=ga h
    rw [e]; exact ⟨rfl,rfl⟩
  · have e:bg (s.drop pos.toNat) p (opsL.drop 8)=bg (s.drop pos.toNat) p (opsL.drop 9):=ft (op:=11) h
    rw [e]; exact s9
 have s7:zJ160Md Γ (Eq2 (.tup [.i (bg (s.drop pos.toNat) p (opsL.drop 7)).1,.i (bg (s.drop pos.toNat) p (opsL.drop 7)).2]) [Chunk.cells [SC.pd (PD.str s),SC.i pos,SC.own 1,SC.i bad] 169,Chunk.own 92 ETy.cell out]) zMd1 ({ n:=41,fr:=[(6,.p (.str ((aB s (some pos) none).2))),(1,.i p),(4,.i 0),(5,.i 0),(20,.x (.agg [.i 17,.i 19,.i 21,.i 18,.i 20,.i 16,.i 23,.i 22,.i 11,.i 12,.i 13,.i 14,.i 15])),(21,.i ((7:Int)))],ck:=(zMd2 s pos bad out),m:=2 }):=by
  refine jg dP Tryz.func160 (let x1:List Chunk:=(zMd2 s pos bad out); .ite true (.need ((0:Int)≤7∧(7:Int)<(↑(13:Nat):Int)) (.ite ((ax (22:Int)).2==p&&bm ((aB s (some pos) none).2) ((ax (22:Int)).1)) (.ret (.tup [.i 22,.i (af ((ax (22:Int)).1))]) x1) (.stop zMd1 { n:=41,fr:=[(6,.p (.str ((aB s (some pos) none).2))),(1,.i p),(4,.i 0),(5,.i 0),(20,.x (.agg [.i 17,.i 19,.i 21,.i 18,.i 20,.i 16,.i 23,.i 22,.i 11,.i 12,.i 13,.i 14,.i 15])),(21,.i (IntKind.wrap .i64 ((7:Int)+1)))],ck:=x1,m:=2 }))) (.ret (.tup [.i 0,.i 0]) x1)) ?_
  conv=>zeta
  refine ⟨fun _=>⟨by decide,fun h=>?_,fun h=>?_⟩,fun h=>Bool.noConfusion h⟩
  · have e:bg (s.drop pos.toNat) p (opsL.drop 7)=(22,af (ax 22).1):=ga h
    rw [e]; exact ⟨rfl,rfl⟩
  · have e:bg (s.drop pos.toNat) p (opsL.drop 7)=bg (s.drop pos.toNat) p (opsL.drop 8):=ft (op:=22) h
    rw [e]; exact s8
 have s6:zJ160Md Γ (Eq2 (.tup [.i (bg (s.drop pos.toNat) p (opsL.drop 6)).1,.i (bg (s.drop pos.toNat) p (opsL.drop 6)).2]) [Chunk.cells [SC.pd (PD.str s),SC.i pos,SC.own 1,SC.i bad] 169,Chunk.own 92 ETy.cell out]) zMd1 ({ n:=41,fr:=[(6,.p (.str ((aB s (some pos) none).2))),(1,.i p),(4,.i 0),(5,.i 0),(20,.x (.agg [.i 17,.i 19,.i 21,.i 18,.i 20,.i 16,.i 23,.i 22,.i 11,.i 12,.i 13,.i 14,.i 15])),(21,.i ((6:Int)))],ck:=(zMd2 s pos bad out),m:=2 }):=by
  refine jg dP Tryz.func160 (let x1:List Chunk:=(zMd2 s pos bad out); .ite true (.need ((0:Int)≤6∧(6:Int)<(↑(13:Nat):Int)) (.ite ((ax (23:Int)).2==p&&bm ((aB s (some pos) none).2) ((ax (23:Int)).1)) (.ret (.tup [.i 23,.i (af ((ax (23:Int)).1))]) x1) (.stop zMd1 { n:=41,fr:=[(6,.p (.str ((aB s (some pos) none).2))),(1,.i p),(4,.i 0),(5,.i 0),(20,.x (.agg [.i 17,.i 19,.i 21,.i 18,.i 20,.i 16,.i 23,.i 22,.i 11,.i 12,.i 13,.i 14,.i 15])),(21,.i (IntKind.wrap .i64 ((6:Int)+1)))],ck:=x1,m:=2 }))) (.ret (.tup [.i 0,.i 0]) x1)) ?_
  conv=>zeta
  refine ⟨fun _=>⟨by decide,fun h=>?_,fun h=>?_⟩,fun h=>Bool.noConfusion h⟩
  · have e:bg (s.drop pos.toNat) p (opsL.drop 6)=(23,af (ax 23).1):=ga h
    rw [e]; exact ⟨rfl,rfl⟩
  · have e:bg (s.drop pos.toNat) p (opsL.drop 6)=bg (s.drop pos.toNat) p (opsL.drop 7):=ft (op:=23) h
    rw [e]; exact s7
 have s5:zJ160Md Γ (Eq2 (.tup [.i (bg (s.drop pos.toNat) p (opsL.drop 5)).1,.i (bg (s.drop pos.toNat) p (opsL.drop 5)).2]) [Chunk.cells [SC.pd (PD.str s),SC.i pos,SC.own 1,SC.i bad] 169,Chunk.own 92 ETy.cell out]) zMd1 ({ n:=41,fr:=[(6,.p (.str ((aB s (some pos) none).2))),(1,.i p),(4,.i 0),(5,.i 0),(20,.x (.agg [.i 17,.i 19,.i 21,.i 18,.i 20,.i 16,.i 23,.i 22,.i 11,.i 12,.i 13,.i 14,.i 15])),(21,.i ((5:Int)))],ck:=(zMd2 s pos bad out),m:=2 }):=by
  refine jg dP Tryz.func160 (let x1:List Chunk:=(zMd2 s pos bad out); .ite true (.need ((0:Int)≤5∧(5:Int)<(↑(13:Nat):Int)) (.ite ((ax (16:Int)).2==p&&bm ((aB s (some pos) none).2) ((ax (16:Int)).1)) (.ret (.tup [.i 16,.i (af ((ax (16:Int)).1))]) x1) (.stop zMd1 { n:=41,fr:=[(6,.p (.str ((aB s (some pos) none).2))),(1,.i p),(4,.i 0),(5,.i 0),(20,.x (.agg [.i 17,.i 19,.i 21,.i 18,.i 20,.i 16,.i 23,.i 22,.i 11,.i 12,.i 13,.i 14,.i 15])),(21,.i (IntKind.wrap .i64 ((5:Int)+1)))],ck:=x1,m:=2 }))) (.ret (.tup [.i 0,.i 0]) x1)) ?_
  conv=>zeta
  refine ⟨fun _=>⟨by decide,fun h=>?_,fun h=>?_⟩,fun h=>Bool.noConfusion h⟩
  · have e:bg (s.drop pos.toNat) p (opsL.drop 5)=(16,af (ax 16).1):=ga h
    rw [e]; exact ⟨rfl,rfl⟩
  · have e:bg (s.drop pos.toNat) p (opsL.drop 5)=bg (s.drop pos.toNat) p (opsL.drop 6):=ft (op:=16) h
    rw [e]; exact s6
 have s4:zJ160Md Γ (Eq2 (.tup [.i (bg (s.drop pos.toNat) p (opsL.drop 4)).1,.i (bg (s.drop pos.toNat) p (opsL.drop 4)).2]) [Chunk.cells [SC.pd (PD.str s),SC.i pos,SC.own 1,SC.i bad] 169,Chunk.own 92 ETy.cell out]) zMd1 ({ n:=41,fr:=[(6,.p (.str ((aB s (some pos) none).2))),(1,.i p),(4,.i 0),(5,.i 0),(20,.x (.agg [.i 17,.i 19,.i 21,.i 18,.i 20,.i 16,.i 23,.i 22,.i 11,.i 12,.i 13,.i 14,.i 15])),(21,.i ((4:Int)))],ck:=(zMd2 s pos bad out),m:=2 }):=by
  refine jg dP Tryz.func160 (let x1:List Chunk:=(zMd2 s pos bad out); .ite true (.need ((0:Int)≤4∧(4:Int)<(↑(13:Nat):Int)) (.ite ((ax (20:Int)).2==p&&bm ((aB s (some pos) none).2) ((ax (20:Int)).1)) (.ret (.tup [.i 20,.i (af ((ax (20:Int)).1))]) x1) (.stop zMd1 { n:=41,fr:=[(6,.p (.str ((aB s (some pos) none).2))),(1,.i p),(4,.i 0),(5,.i 0),(20,.x (.agg [.i 17,.i 19,.i 21,.i 18,.i 20,.i 16,.i 23,.i 22,.i 11,.i 12,.i 13,.i 14,.i 15])),(21,.i (IntKind.wrap .i64 ((4:Int)+1)))],ck:=x1,m:=2 }))) (.ret (.tup [.i 0,.i 0]) x1)) ?_
  conv=>zeta
  refine ⟨fun _=>⟨by decide,fun h=>?_,fun h=>?_⟩,fun h=>Bool.noConfusion h⟩
  · have e:bg (s.drop pos.toNat) p (opsL.drop 4)=(20,af (ax 20).1):=ga h
    rw [e]; exact ⟨rfl,rfl⟩
  · have e:bg (s.drop pos.toNat) p (opsL.drop 4)=bg (s.drop pos.toNat) p (opsL.drop 5):=ft (op:=20) h
    rw [e]; exact s5
 have s3:zJ160Md Γ (Eq2 (.tup [.i (bg (s.drop pos.toNat) p (opsL.drop 3)).1,.i (bg (s.drop pos.toNat) p (opsL.drop 3)).2]) [Chunk.cells [SC.pd (PD.str s),SC.i pos,SC.own 1,SC.i bad] 169,Chunk.own 92 ETy.cell out]) zMd1 ({ n:=41,fr:=[(6,.p (.str ((aB s (some pos) none).2))),(1,.i p),(4,.i 0),(5,.i 0),(20,.x (.agg [.i 17,.i 19,.i 21,.i 18,.i 20,.i 16,.i 23,.i 22,.i 11,.i 12,.i 13,.i 14,.i 15])),(21,.i ((3:Int)))],ck:=(zMd2 s pos bad out),m:=2 }):=by
  refine jg dP Tryz.func160 (let x1:List Chunk:=(zMd2 s pos bad out); .ite true (.need ((0:Int)≤3∧(3:Int)<(↑(13:Nat):Int)) (.ite ((ax (18:Int)).2==p&&bm ((aB s (some pos) none).2) ((ax (18:Int)).1)) (.ret (.tup [.i 18,.i (af ((ax (18:Int)).1))]) x1) (.stop zMd1 { n:=41,fr:=[(6,.p (.str ((aB s (some pos) none).2))),(1,.i p),(4,.i 0),(5,.i 0),(20,.x (.agg [.i 17,.i 19,.i 21,.i 18,.i 20,.i 16,.i 23,.i 22,.i 11,.i 12,.i 13,.i 14,.i 15])),(21,.i (IntKind.wrap .i64 ((3:Int)+1)))],ck:=x1,m:=2 }))) (.ret (.tup [.i 0,.i 0]) x1)) ?_
  conv=>zeta
  refine ⟨fun _=>⟨by decide,fun h=>?_,fun h=>?_⟩,fun h=>Bool.noConfusion h⟩
  · have e:bg (s.drop pos.toNat) p (opsL.drop 3)=(18,af (ax 18).1):=ga h
    rw [e]; exact ⟨rfl,rfl⟩
  · have e:bg (s.drop pos.toNat) p (opsL.drop 3)=bg (s.drop pos.toNat) p (opsL.drop 4):=ft (op:=18) h
    rw [e]; exact s4
 have s2:zJ160Md Γ (Eq2 (.tup [.i (bg (s.drop pos.toNat) p (opsL.drop 2)).1,.i (bg (s.drop pos.toNat) p (opsL.drop 2)).2]) [Chunk.cells [SC.pd (PD.str s),SC.i pos,SC.own 1,SC.i bad] 169,Chunk.own 92 ETy.cell out]) zMd1 ({ n:=41,fr:=[(6,.p (.str ((aB s (some pos) none).2))),(1,.i p),(4,.i 0),(5,.i 0),(20,.x (.agg [.i 17,.i 19,.i 21,.i 18,.i 20,.i 16,.i 23,.i 22,.i 11,.i 12,.i 13,.i 14,.i 15])),(21,.i ((2:Int)))],ck:=(zMd2 s pos bad out),m:=2 }):=by
  refine jg dP Tryz.func160 (let x1:List Chunk:=(zMd2 s pos bad out); .ite true (.need ((0:Int)≤2∧(2:Int)<(↑(13:Nat):Int)) (.ite ((ax (21:Int)).2==p&&bm ((aB s (some pos) none).2) ((ax (21:Int)).1)) (.ret (.tup [.i 21,.i (af ((ax (21:Int)).1))]) x1) (.stop zMd1 { n:=41,fr:=[(6,.p (.str ((aB s (some pos) none).2))),(1,.i p),(4,.i 0),(5,.i 0),(20,.x (.agg [.i 17,.i 19,.i 21,.i 18,.i 20,.i 16,.i 23,.i 22,.i 11,.i 12,.i 13,.i 14,.i 15])),(21,.i (IntKind.wrap .i64 ((2:Int)+1)))],ck:=x1,m:=2 }))) (.ret (.tup [.i 0,.i 0]) x1)) ?_
  conv=>zeta
  refine ⟨fun _=>⟨by decide,fun h=>?_,fun h=>?_⟩,fun h=>Bool.noConfusion h⟩
  · have e:bg (s.drop pos.toNat) p (opsL.drop 2)=(21,af (ax 21).1):=ga h
    rw [e]; exact ⟨rfl,rfl⟩
  · have e:bg (s.drop pos.toNat) p (opsL.drop 2)=bg (s.drop pos.toNat) p (opsL.drop 3):=ft (op:=21) h
    rw [e]; exact s3
 have s1:zJ160Md Γ (Eq2 (.tup [.i (bg (s.drop pos.toNat) p (opsL.drop 1)).1,.i (bg (s.drop pos.toNat) p (opsL.drop 1)).2]) [Chunk.cells [SC.pd (PD.str s),SC.i pos,SC.own 1,SC.i bad] 169,Chunk.own 92 ETy.cell out]) zMd1 ({ n:=41,fr:=[(6,.p (.str ((aB s (some pos) none).2))),(1,.i p),(4,.i 0),(5,.i 0),(20,.x (.agg [.i 17,.i 19,.i 21,.i 18,.i 20,.i 16,.i 23,.i 22,.i 11,.i 12,.i 13,.i 14,.i 15])),(21,.i ((1:Int)))],ck:=(zMd2 s pos bad out),m:=2 }):=by
  refine jg dP Tryz.func160 (let x1:List Chunk:=(zMd2 s pos bad out); .ite true (.need ((0:Int)≤1∧(1:Int)<(↑(13:Nat):Int)) (.ite ((ax (19:Int)).2==p&&bm ((aB s (some pos) none).2) ((ax (19:Int)).1)) (.ret (.tup [.i 19,.i (af ((ax (19:Int)).1))]) x1) (.stop zMd1 { n:=41,fr:=[(6,.p (.str ((aB s (some pos) none).2))),(1,.i p),(4,.i 0),(5,.i 0),(20,.x (.agg [.i 17,.i 19,.i 21,.i 18,.i 20,.i 16,.i 23,.i 22,.i 11,.i 12,.i 13,.i 14,.i 15])),(21,.i (IntKind.wrap .i64 ((1:Int)+1)))],ck:=x1,m:=2 }))) (.ret (.tup [.i 0,.i 0]) x1)) ?_
  conv=>zeta
  refine ⟨fun _=>⟨by decide,fun h=>?_,fun h=>?_⟩,fun h=>Bool.noConfusion h⟩
  · have e:bg (s.drop pos.toNat) p (opsL.drop 1)=(19,af (ax 19).1):=ga h
    rw [e]; exact ⟨rfl,rfl⟩
  · have e:bg (s.drop pos.toNat) p (opsL.drop 1)=bg (s.drop pos.toNat) p (opsL.drop 2):=ft (op:=19) h
    rw [e]; exact s2
 have s0:zJ160Md Γ (Eq2 (.tup [.i (bg (s.drop pos.toNat) p (opsL.drop 0)).1,.i (bg (s.drop pos.toNat) p (opsL.drop 0)).2]) [Chunk.cells [SC.pd (PD.str s),SC.i pos,SC.own 1,SC.i bad] 169,Chunk.own 92 ETy.cell out]) zMd1 ({ n:=41,fr:=[(6,.p (.str ((aB s (some pos) none).2))),(1,.i p),(4,.i 0),(5,.i 0),(20,.x (.agg [.i 17,.i 19,.i 21,.i 18,.i 20,.i 16,.i 23,.i 22,.i 11,.i 12,.i 13,.i 14,.i 15])),(21,.i ((0:Int)))],ck:=(zMd2 s pos bad out),m:=2 }):=by
  refine jg dP Tryz.func160 (let x1:List Chunk:=(zMd2 s pos bad out); .ite true (.need ((0:Int)≤0∧(0:Int)<(↑(13:Nat):Int)) (.ite ((ax (17:Int)).2==p&&bm ((aB s (some pos) none).2) ((ax (17:Int)).1)) (.ret (.tup [.i 17,.i (af ((ax (17:Int)).1))]) x1) (.stop zMd1 { n:=41,fr:=[(6,.p (.str ((aB s (some pos) none).2))),(1,.i p),(4,.i 0),(5,.i 0),(20,.x (.agg [.i 17,.i 19,.i 21,.i 18,.i 20,.i 16,.i 23,.i 22,.i 11,.i 12,.i 13,.i 14,.i 15])),(21,.i (IntKind.wrap .i64 ((0:Int)+1)))],ck:=x1,m:=2 }))) (.ret (.tup [.i 0,.i 0]) x1)) ?_
  conv=>zeta
  refine ⟨fun _=>⟨by decide,fun h=>?_,fun h=>?_⟩,fun h=>Bool.noConfusion h⟩
  · have e:bg (s.drop pos.toNat) p (opsL.drop 0)=(17,af (ax 17).1):=ga h
    rw [e]; exact ⟨rfl,rfl⟩
  · have e:bg (s.drop pos.toNat) p (opsL.drop 0)=bg (s.drop pos.toNat) p (opsL.drop 1):=ft (op:=17) h
    rw [e]; exact s1
 exact s0
def vf:Ent:=(160,fun
 | [.c (.loc 0 0),.c (.pd (.int .i64 p))],[.cells [.pd (.str s),.pd (.int .i64 pos),.own 1,.pd (.int .i64 bad)] 169,.own 92 .cell out]=>some (some (0≤pos∧pos≤af s),.tup [.c (.pd (.int .i64 (bp (s.drop pos.toNat) p).1)),.c (.pd (.int .i64 (bp (s.drop pos.toNat) p).2))],[.cells [.pd (.str s),.pd (.int .i64 pos),.own 1,.pd (.int .i64 bad)] 169,.own 92 .cell out])
 | _,_=>none)
theorem Hb:EntOk Tryz.prog vf:=entOk fun vs ck=>by
 unfold vf; dsimp only; split
 · rename_i p s pos bad out; exact entS fun hp=>E7 s pos bad p out hp.1 hp.2
 · exact entN
/-! ### a closing parenthesis -/
def yX:Cfg:=⟨bu,[j1]⟩
theorem Cl:ai Tryz.prog yX.tab:=(ai.cons jZ ai.nil)
theorem Cw (hb:bad<0→0≤pos∧pos≤af s) (h0 : -1≤pos) (h1:pos≤1099511627776):ak Tryz.prog 208 [.c (.loc 0 0)] (zMd3 s pos bad out) (.tup []) [.cells [.pd (.str s),.i (pos+1),.own 1,.i (bQ s ⟨pos,out,bad⟩).bad] 169,.own 92 .cell out]:=by
 refine dg Cl Tryz.func208 (.need ((((16,18,false,iS false (pos==af s) (some (5,7,true,iS true (decide (bad<(0:Int))) none))).2).2).2→(0:Int)≤pos∧pos<af s) (.ite (decide (bad<(0:Int))&&(pos==af s||(↑((List.getD s (Int.toNat pos) (0:UInt8)).toNat):Int) != 41)) (.ret (.tup []) [.cells [.pd (.str s),.i (IntKind.wrap .i64 (pos+(1:Int))),.own 1,.i (if bad<(0:Int) then pos else bad)] 169,.own 92 .cell out]) (.ret (.tup []) [.cells [.pd (.str s),.i (IntKind.wrap .i64 (pos+(1:Int))),.own 1,.i bad] 169,.own 92 .cell out]))) fun Γ=>?_
 have e:IntKind.wrap .i64 (pos+1)=pos+1:=cI (by omega) (by omega)
 rw [e]
 refine ⟨fun h=>?_,fun h=>⟨rfl,?_⟩,fun h=>⟨rfl,?_⟩⟩
 · simp [iS] at h
   have:=hb h.1
   omega
 · have h':bad<0∧(pos=af s∨bU s pos≠41):=by
    simp only [ab,aF,decide_eq_true_eq,beq_iff_eq,bne_iff_ne] at h
    exact h
   have e2:(bQ s ⟨pos,out,bad⟩).bad=(if bad<0 then pos else bad):=by unfold bQ; rw [if_pos h']; rfl
   rw [e2]
 · have h':¬(bad<0∧(pos=af s∨bU s pos≠41)):=by
    intro hh
    have:(decide (bad<0)&&(pos==af s||((s.getD pos.toNat 0).toNat:Int) != 41))=true:=by
     simp only [ab,aF,decide_eq_true_eq,beq_iff_eq,bne_iff_ne]
     exact hh
    rw [this] at h; cases h
   have e2:(bQ s ⟨pos,out,bad⟩).bad=bad:=by unfold bQ; rw [if_neg h']; rfl
   rw [e2]
def oq:Ent:=(208,fun
 | [.c (.loc 0 0)],[.cells [.pd (.str s),.pd (.int .i64 pos),.own 1,.pd (.int .i64 bad)] 169,.own 92 .cell out]=>some (some ((bad<0→0≤pos∧pos≤af s)∧-1≤pos∧pos≤1099511627776),.tup [],[.cells [.pd (.str s),.pd (.int .i64 (pos+1)),.own 1,.pd (.int .i64 (bQ s ⟨pos,out,bad⟩).bad)] 169,.own 92 .cell out])
 | _,_=>none)
theorem tO:EntOk Tryz.prog oq:=entOk fun vs ck=>by
 unfold oq; dsimp only; split
 · rename_i s pos bad out; exact entS fun hp=>Cw s pos bad out hp.1 hp.2.1 hp.2.2
 · exact entN
/-! ### numbers -/
def yV:Cfg:=⟨bu,[j1,eNb,om,mT]⟩
theorem w9:ai Tryz.prog yV.tab:=(ai.cons jZ (ai.cons A2 (ai.cons qu (ai.cons mq ai.nil))))
theorem Mc {s:Str} {k m:Nat} (hk:k≤m) (hm:m≤s.length):(seg s k m).length=m - k:=by
 unfold seg; rw [bF,bw]; omega
theorem lg {s:Str} {r:Rd} (h:((bb (cX s r.pos)).2 != 0||decide (bx (fB s r.pos)<0))=true):cC s r=r.wrong r.pos:=by
 unfold cC
 rw [if_pos (by simpa only [aF,bne_iff_ne,decide_eq_true_eq] using h)]
theorem kX {s:Str} {r:Rd} (h:((bb (cX s r.pos)).2 != 0||decide (bx (fB s r.pos)<0))=false):cC s r=(r.to (if dn s r.pos=true then cg s r.pos+1 else cg s r.pos)).emit (fB s r.pos):=by
 unfold cC
 rw [if_neg]
 intro hh
 have:((bb (cX s r.pos)).2 != 0||decide (bx (fB s r.pos)<0))=true:=by simpa only [aF,bne_iff_ne,decide_eq_true_eq] using hh
 rw [this] at h; cases h
abbrev zMd5:List PI:=[.code [1,0,0,0],.inLoop [1,0,0,0],.inBlock 0,.code [1,1]]
theorem Ie (k:Nat) (out:List Cell) (Γ:Ctx) (hs:s.length≤1048576) (ho:room (out.length+1) 32) (hk:k<s.length) (hd:isD (s.getD k 0)=true):∀ (n m:Nat),s.length - m≤n→m≤s.length→k≤m→(s.drop k).takeWhile isD=seg s k m++(s.drop m).takeWhile isD →
 J Tryz.prog 207 (aH Tryz.f207) Γ (RdQ s (cC s ⟨(k:Int),out,bad⟩)) zMd5 ({ n:=115,fr:=[(0,.x (.c (.loc 0 0))),(2,.i ((m:Int)))],ck:=[.cells [.pd (.str s),.i k,.own 1,.i bad] 169,.own 92 .cell out],m:=2 }):=by
 intro n
 induction n with
 | zero=>?_
 | succ n ih=>?_
 all_goals
  intro m hn hm hkm hseg
  refine jg w9 Tryz.func207 (let x6:=(IntKind.wrap .i64 ((k:Int)+1)); let x1:=((aB s (some (k:Int)) (some x6)).2); let x2:Tree:=(.ret (.tup []) [.cells [.pd (.str s),.i k,.own 1,.i (if bad<(0:Int) then (k:Int) else bad)] 169,.own 92 .cell out]); let x16:=((aB s (some (k:Int)) (some (m:Int))).2); let x3:=(bb x16); let x4:=(room (out.length+1) 32); let x5:=(↑((List.getD s m (0:UInt8)).toNat):Int); let x10:=((m:Int)<af s); let x7:=(decide x10=true→(0:Int)≤(m:Int)∧(m:Int)<af s); let x8:=(IntKind.wrap .i64 ((m:Int)+1)); let x9:=(IntKind.wrap .i64 (IntKind.wrap .i64 ((k:Int)+1)+(1:Int))); let x11:=(out++[{ op:=(2:Int),a:=(bb x1).1,name:=[] }]); let x12:=(out++[{ op:=(1:Int),a:=(bb x1).1,name:=[] }]); let x13:=(out++[{ op:=(2:Int),a:=x3.1,name:=[] }]); let x14:=(out++[{ op:=(1:Int),a:=x3.1,name:=[] }]); let x15:=(IntKind.wrap .i64 ((k:Int)+1)<af s); .need x7 (.need ((decide x10&&decide (x5≥48))=true→(0:Int)≤(m:Int)∧(m:Int)<af s) (.ite (decide x10&&decide (x5≥48)&&decide (x5≤57)) (.stop zMd5 { n:=115,fr:=[(0,.x (.c (.loc 0 0))),(2,.i x8)],ck:=[.cells [.pd (.str s),.i k,.own 1,.i bad] 169,.own 92 .cell out],m:=2 }) (.need ((0:Int)≤(k:Int)∧(k:Int)<af s) (.ite ((↑((List.getD s k (0:UInt8)).toNat):Int)==48) (.need ((0:Int)≤(k:Int)∧(k:Int)≤IntKind.wrap .i64 ((k:Int)+1)∧IntKind.wrap .i64 ((k:Int)+1)≤(s.length:Int)) (.need (x1.length≤281474976710656) (.need (decide x15=true→(0:Int)≤IntKind.wrap .i64 ((k:Int)+1)∧IntKind.wrap .i64 ((k:Int)+1)<af s) (.ite (decide x15&&(↑((List.getD s (x6.toNat) (0:UInt8)).toNat):Int)==105) (.ite ((bb x1).2 != (0:Int)||decide (fC (2:Int) ((bb x1).1) []<(0:Int))) x2 (.ite true (.need x4 (.ret (.tup []) [.cells [.pd (.str s),.i x9,.own 2,.i bad] 169,.dead,.own 92 .cell x11])) (.need x4 (.ret (.tup []) [.cells [.pd (.str s),.i x6,.own 2,.i bad] 169,.dead,.own 92 .cell x11])))) (.ite ((bb x1).2 != (0:Int)||decide (fC (1:Int) ((bb x1).1) []<(0:Int))) x2 (.ite false (.need x4 (.ret (.tup []) [.cells [.pd (.str s),.i x9,.own 2,.i bad] 169,.dead,.own 92 .cell x12])) (.need x4 (.ret (.tup []) [.cells [.pd (.str s),.i x6,.own 2,.i bad] 169,.dead,.own 92 .cell x12])))))))) (.need ((0:Int)≤(k:Int)∧(k:Int)≤(m:Int)∧(m:Int)≤(s.length:Int)) (.need (x16.length≤281474976710656) (.need x7 (.ite (decide x10&&x5==105) (.ite (x3.2 != (0:Int)||decide (fC (2:Int) (x3.1) []<(0:Int))) x2 (.ite true (.need x4 (.ret (.tup []) [.cells [.pd (.str s),.i x8,.own 2,.i bad] 169,.dead,.own 92 .cell x13])) (.need x4 (.ret (.tup []) [.cells [.pd (.str s),.i m,.own 2,.i bad] 169,.dead,.own 92 .cell x13])))) (.ite (x3.2 != (0:Int)||decide (fC (1:Int) (x3.1) []<(0:Int))) x2 (.ite false (.need x4 (.ret (.tup []) [.cells [.pd (.str s),.i x8,.own 2,.i bad] 169,.dead,.own 92 .cell x14])) (.need x4 (.ret (.tup []) [.cells [.pd (.str s),.i m,.own 2,.i bad] 169,.dead,.own 92 .cell x14]))))))))))))) ?_
  conv=>zeta
  have hL:af s=(s.length:Int):=rfl
  have inb:decide ((m:Int)<af s)=true→0≤(m:Int)∧(m:Int)<af s:=fun h=>⟨by omega,of_decide_eq_true h⟩
  have hcm:=Mc (s:=s) hkm hm
  have hnb:=jJ (s:=s) (k:=(k:Int)) (by omega) (by omega) hd
  refine ⟨inb,fun h=>inb (by simp only [ab] at h; exact h.1),fun h=>?_,fun h=>⟨⟨by omega,by omega⟩,fun h48=>?_,fun h48=>?_⟩⟩
  · have h':(decide ((m:Int)<af s)&&isD (s.getD m 0))=true:=by simpa only [isD,dj] using h
    simp only [ab,decide_eq_true_eq] at h'
    have hlt:m<s.length:=by omega
    first
    | (exfalso; omega)
    | (rw [dY (by omega)]
       exact ih (m+1) (by omega) (by omega) (by omega) (by rw [hseg,C3 hkm hlt h'.2]))
  · have e1:IntKind.wrap .i64 ((k:Int)+1)=cg s (k:Int):=by
     have h48':bU s (k:Int)=48:=eq_of_beq h48
     rw [cI (by omega) (by omega),cg,if_pos h48']
    have hnb0:(k:Int)≤cg s (k:Int):=by omega
    rw [e1]
    have hcl:(cX s (k:Int)).length≤281474976710656:=by
     unfold cX; rw [bF,bw]; omega
    refine ⟨⟨by omega,hnb0,hnb.2⟩,hcl,fun h=>⟨by omega,of_decide_eq_true h⟩,fun hi=>?_,fun hi=>?_⟩
    · have hi':dn s (k:Int)=true:=by first | exact hi | (rw [dn,bU,show (cg s (k:Int)).toNat=m by omega]; exact hi)
      have hc:fB s (k:Int)=⟨2,(bb (cX s (k:Int))).1,[]⟩:=by rw [fB,if_pos hi']
      refine ⟨fun hb=>?_,fun hb=>⟨fun _=>⟨ho,?_⟩,fun h=>Bool.noConfusion h⟩⟩
      · exact RdQ.one (by rw [lg (by rw [hc]; exact hb)]; rfl)
      · exact RdQ.two (by rw [kX (by rw [hc]; exact hb),if_pos hi',hc,cI (by omega) (by omega)]; rfl)
    · have hi':¬dn s (k:Int)=true:=by
       have:dn s (k:Int)=false:=by first | exact hi | (rw [dn,bU,show (cg s (k:Int)).toNat=m by omega]; exact hi)
       rw [this]; simp
      have hc:fB s (k:Int)=⟨1,(bb (cX s (k:Int))).1,[]⟩:=by rw [fB,if_neg hi']
      refine ⟨fun hb=>?_,fun hb=>⟨fun h=>Bool.noConfusion h,fun _=>⟨ho,?_⟩⟩⟩
      · exact RdQ.one (by rw [lg (by rw [hc]; exact hb)]; rfl)
      · exact RdQ.two (by rw [kX (by rw [hc]; exact hb),if_neg hi',hc]; rfl)
  · have e1:(m:Int)=cg s (k:Int):=by
     have e:(s.drop m).takeWhile isD=[]:=Bt fun hlt=>by
      have h':(decide ((m:Int)<af s)&&isD (s.getD m 0))=false:=by rw [← h]; simp only [isD,dj]
      rw [decide_eq_true (by omega),bT] at h'; exact h'
     have h48':¬bU s (k:Int)=48:=ne_of_beq_false h48
     rw [cg,if_neg h48']
     show (m:Int)=(k:Int)+af ((s.drop k).takeWhile isD)
     rw [hseg,e,bt]
     show (m:Int)=(k:Int)+((seg s k m).length:Int)
     omega
    have hnb0:(k:Int)≤cg s (k:Int):=by omega
    rw [e1]
    have hcl:(cX s (k:Int)).length≤281474976710656:=by
     unfold cX; rw [bF,bw]; omega
    refine ⟨⟨by omega,hnb0,hnb.2⟩,hcl,fun h=>⟨by omega,of_decide_eq_true h⟩,fun hi=>?_,fun hi=>?_⟩
    · have hi':dn s (k:Int)=true:=by first | exact hi | (rw [dn,bU,show (cg s (k:Int)).toNat=m by omega]; exact hi)
      have hc:fB s (k:Int)=⟨2,(bb (cX s (k:Int))).1,[]⟩:=by rw [fB,if_pos hi']
      refine ⟨fun hb=>?_,fun hb=>⟨fun _=>⟨ho,?_⟩,fun h=>Bool.noConfusion h⟩⟩
      · exact RdQ.one (by rw [lg (by rw [hc]; exact hb)]; rfl)
      · exact RdQ.two (by rw [kX (by rw [hc]; exact hb),if_pos hi',hc,cI (by omega) (by omega)]; rfl)
    · have hi':¬dn s (k:Int)=true:=by
       have:dn s (k:Int)=false:=by first | exact hi | (rw [dn,bU,show (cg s (k:Int)).toNat=m by omega]; exact hi)
       rw [this]; simp
      have hc:fB s (k:Int)=⟨1,(bb (cX s (k:Int))).1,[]⟩:=by rw [fB,if_neg hi']
      refine ⟨fun hb=>?_,fun hb=>⟨fun h=>Bool.noConfusion h,fun _=>⟨ho,?_⟩⟩⟩
      · exact RdQ.one (by rw [lg (by rw [hc]; exact hb)]; rfl)
      · exact RdQ.two (by rw [kX (by rw [hc]; exact hb),if_neg hi',hc]; rfl)
theorem GP (hs:s.length≤1048576) (ho:room (out.length+1) 32) (h0:0≤pos) (h1:pos<af s) (hd:isD (s.getD pos.toNat 0)=true):ak Tryz.prog 207 [.c (.loc 0 0)] (zMd3 s pos bad out) (.tup []) (rd2 s (cC s ⟨pos,out,bad⟩)):=by
 obtain ⟨k,rfl⟩:=dX h0
 have hL:af s=(s.length:Int):=rfl
 refine ak.rd Tryz.func207 (by kernel_rfl) (by kernel_rfl) rfl fun Γ=>?_
 refine jg w9 Tryz.func207 (.stop zMd5 { n:=115,fr:=[(0,.x (.c (.loc 0 0))),(2,.i k)],ck:=[.cells [.pd (.str s),.i k,.own 1,.i bad] 169,.own 92 .cell out],m:=2 }) ?_
 exact Ie s bad k out Γ hs ho (by omega) hd s.length k (by omega) (by omega) (aw _) (by rw [iH]; rfl)
def yN:Ent:=(207,fun
 | [.c (.loc 0 0)],[.cells [.pd (.str s),.pd (.int .i64 pos),.own 1,.pd (.int .i64 bad)] 169,.own 92 .cell out]=>some (some (s.length≤1048576∧room (out.length+1) 32∧0≤pos∧pos<af s∧isD (s.getD pos.toNat 0)=true),.tup [],[.cells [.pd (.str s),.pd (.int .i64 (cC s ⟨pos,out,bad⟩).pos),.own 2,.pd (.int .i64 (cC s ⟨pos,out,bad⟩).bad)] 169,.dead,.own 92 .cell (cC s ⟨pos,out,bad⟩).out])
 | _,_=>none)
theorem JJ:EntOk Tryz.prog yN:=entOk fun vs ck=>by
 unfold yN; dsimp only; split
 · rename_i s pos bad out; exact entS fun hp=>GP s pos bad out hp.1 hp.2.1 hp.2.2.1 hp.2.2.2.1 hp.2.2.2.2
 · exact entN
end Go.Proofs.YtpfidgnkokidoaaGreatDoor
