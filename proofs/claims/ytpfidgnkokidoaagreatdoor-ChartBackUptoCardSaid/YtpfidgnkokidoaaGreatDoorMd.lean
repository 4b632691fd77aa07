/- Contracts of the program's reader of expressions: its small steps. Conditions: places within the text. -/
import Derived.Test.YtpfidgnkokidoaaGreatDoorNc
import Derived.Test.YtpfidgnkokidoaaGreatDoorUq
import Derived.Test.YtpfidgnkokidoaaGreatDoorVb
namespace Go.Proofs.YtpfidgnkokidoaaGreatDoor
open Go Go.Ev
set_option maxRecDepth 100000
abbrev zJ160Md:=J Tryz.prog 160 (aI Tryz.f160)
variable (s:Str) (pos bad:Int) (a:Str) {rest:Str} (b:Int) {p:Int} (c k:Int) {op:Int} (out d:List Cell) {l:List Int} (r:Rd)
def rdB (i:Nat):List SC:=[SC.pd (PD.str s),SC.i r.pos,SC.own i,SC.i r.bad]
abbrev rd1:List Chunk:=[Chunk.cells (rdB s r 1) 169,Chunk.own 92 ETy.cell r.out]
abbrev rd2:List Chunk:=[Chunk.cells (rdB s r 2) 169,Chunk.dead,Chunk.own 92 ETy.cell r.out]
abbrev RdQ (o:Rd):Out:=Kept (.tup []) (rdB s o 1) 169 92 .cell o.out
theorem ak.rd {f:FuncId} {fn:Func} {args:List SX} {ck:List Chunk} {s:Str} {o:Rd} (hf:Tryz.prog.funcs[f]?=some fn) (hb:fn.body.isSome=true) (hn:Nat.ble args.length fn.ntmps=true) (hl:ck.length=2)
 (h:∀ Γ,J Tryz.prog f (aI fn) Γ (RdQ s o) [.code []] (cN fn.ntmps args ck)):ak Tryz.prog f args ck (.tup []) (rd2 s o) :=
 ak.kept (cs:=rdB s o 1) hf hb hn hl (.inl rfl) rfl h
theorem RdQ.one {s:Str} {o:Rd} {ck:List Chunk} (h:ck=rd1 s o):RdQ s o (.tup []) ck:=⟨rfl,.inl h⟩
theorem RdQ.two {s:Str} {o:Rd} {ck:List Chunk} (h:ck=rd2 s o):RdQ s o (.tup []) ck:=⟨rfl,.inr h⟩
abbrev zMd2:List Chunk:=[.cells [.pd (.str a),.i b,.own 1,.i c] 169,.own 92 .cell d]
theorem FD:ak Tryz.prog 121 [.c (.loc 0 0),.i k] (zMd2 s pos bad out) (.tup []) [.cells [.pd (.str s),.i pos,.own 1,.i (if bad<0 then k else bad)] 169,.own 92 .cell out]:=by
 refine dg bG Tryz.func121 (.ite (decide (bad<(0:Int))) (.ret (.tup []) (zMd2 s pos k out)) (.ret (.tup []) (zMd2 s pos bad out))) fun Γ=>?_
 refine ⟨fun h=>?_,fun h=>?_⟩
 · rw [if_pos (of_decide_eq_true h)]; exact ⟨rfl,rfl⟩
 · rw [if_neg (of_decide_eq_false h)]; exact ⟨rfl,rfl⟩
def ko:Ent:=(121,fun
 | [.c (.loc 0 0),.c (.pd (.int .i64 k))],[.cells [.pd (.str s),.pd (.int .i64 pos),.own 1,.pd (.int .i64 bad)] 169,.own 92 .cell out]=>some (none,.tup [],[.cells [.pd (.str s),.pd (.int .i64 pos),.own 1,.pd (.int .i64 (if bad<0 then k else bad))] 169,.own 92 .cell out])
 | _,_=>none)
theorem j8:EntOk Tryz.prog ko:=entOk fun vs ck=>by
 unfold ko; dsimp only; split
 · rename_i k s pos bad out; exact entS fun hp=>FD s pos bad k out
 · exact entN
theorem GM (c:Cell) (h:room (out.length+1) 32):ak Tryz.prog 161 [.c (.loc 0 0),.e .cell c] (zMd2 s pos bad out) (.tup []) [.cells [.pd (.str s),.i pos,.own 2,.i bad] 169,.dead,.own 92 .cell (out++[c])]:=by
 refine dg bG Tryz.func161 (.need (room ((out++[c]).length) 32) (.ret (.tup []) [.cells [.pd (.str s),.i pos,.own 2,.i bad] 169,.dead,.own 92 .cell (out++[c])])) fun Γ=>?_
 exact ⟨by rw [ag]; exact h,rfl,rfl⟩
def nu:Ent:=(161,fun
 | [.c (.loc 0 0),.agg [.pd (.int .i64 op),.pd (.int .i64 a),.pd (.str nm)]],[.cells [.pd (.str s),.pd (.int .i64 pos),.own 1,.pd (.int .i64 bad)] 169,.own 92 .cell out]=>some (some (room (out.length+1) 32),.tup [],[.cells [.pd (.str s),.pd (.int .i64 pos),.own 2,.pd (.int .i64 bad)] 169,.dead,.own 92 .cell (out++[(⟨op,a,nm⟩:Cell)])])
 | _,_=>none)
theorem mA:EntOk Tryz.prog nu:=entOk fun vs ck=>by
 unfold nu; dsimp only; split
 · rename_i op a nm s pos bad out; exact entS fun hp=>GM s pos bad out ⟨op,a,nm⟩ hp
 · exact entN
theorem GR (op:Int):ak Tryz.prog 104 [.i op] [] (.tup [.s (ax op).1,.i (ax op).2]) []:=by
 refine dg bG Tryz.func104 (.ite (op==(23:Int)) (.ret (.tup [.p (.str [124]),.i 1]) []) (.ite (op==(22:Int)) (.ret (.tup [.p (.str [38]),.i 2]) []) (.ite (op==(16:Int)) (.ret (.tup [.p (.str [61]),.i 3]) []) (.ite (op==(17:Int)) (.ret (.tup [.p (.str [33,61]),.i 3]) []) (.ite (op==(18:Int)) (.ret (.tup [.p (.str [60]),.i 3]) []) (.ite (op==(19:Int)) (.ret (.tup [.p (.str [60,61]),.i 3]) []) (.ite (op==(20:Int)) (.ret (.tup [.p (.str [62]),.i 3]) []) (.ite (op==(21:Int)) (.ret (.tup [.p (.str [62,61]),.i 3]) []) (.ite (op==(11:Int)) (.ret (.tup [.p (.str [43]),.i 4]) []) (.ite (op==(12:Int)) (.ret (.tup [.p (.str [45]),.i 4]) []) (.ite (op==(13:Int)) (.ret (.tup [.p (.str [42]),.i 5]) []) (.ite (op==(14:Int)) (.ret (.tup [.p (.str [47]),.i 5]) []) (.ite (op==(15:Int)) (.ret (.tup [.p (.str [37]),.i 5]) []) (.ite (op==(7:Int)) (.ret (.tup [.p (.str [45]),.i 6]) []) (.ite (op==(8:Int)) (.ret (.tup [.p (.str [33]),.i 6]) []) (.ret (.tup [.p (.str []),.i 7]) [])))))))))))))))) fun Γ=>?_
 (repeat' (first | intro h | constructor)) <;> simp only [ax, *,cond_true,cond_false]
def uY:Ent:=(104,fun
 | [.c (.pd (.int .i64 op))],[]=>some (none,.tup [.c (.pd (.str (ax op).1)),.c (.pd (.int .i64 (ax op).2))],[])
 | _,_=>none)
theorem Ay:EntOk Tryz.prog uY:=entOk fun vs ck=>by
 unfold uY; dsimp only; split
 · rename_i op; exact entS fun hp=>GR op
 · exact entN
def Hy:Cfg:=⟨bx,[eHp]⟩
theorem Hi:ai Tryz.prog Hy.tab:=(ai.cons Ie ai.nil)
theorem vF (b:Str):ak Tryz.prog 99 [.s a,.s b] [] (.x (.b (bo a b))) []:=by
 refine dg Hi Tryz.func99 (.ret (.p (.bool (decide (af a≥af b)&&List.take ((af b).toNat) a==b))) []) fun Γ=>?_
 exact ⟨rfl,rfl⟩
def DY:Ent:=(99,fun
 | [.c (.pd (.str a)),.c (.pd (.str b))],[]=>some (none,.x (.c (.pd (.bool (bo a b)))),[])
 | _,_=>none)
theorem Nh:EntOk Tryz.prog DY:=entOk fun vs ck=>by
 unfold DY; dsimp only; split
 · rename_i a b; exact entS fun hp=>vF a b
 · exact entN
/-! ### words -/
theorem AL {p:UInt8→Bool} {s:Str} {m:Nat} (h:m<s.length→p (s.getD m 0)=false):(s.drop m).takeWhile p=[]:=by
 by_cases hm:m<s.length
 · rw [eA hm,eo,if_neg (by rw [h hm]; simp)]
 · rw [cb hm]; rfl
theorem Dl {p:UInt8→Bool} {s:Str} {k m:Nat} (hk:k≤m) (hm:m<s.length) (h:p (s.getD m 0)=true):seg s k m++(s.drop m).takeWhile p=seg s k (m+1)++(s.drop (m+1)).takeWhile p:=by
 rw [eA hm,eo,if_pos h,j4 hm hk,aY]; rfl
abbrev zMd4:List PI:=[.code [1,1,0,0,0],.inLoop [1,1,0,0,0],.inBlock 0,.code [1,1,1]]
theorem Ge (k:Nat) (out:List Cell) (Γ:Ctx) (hs:s.length≤1048576):∀ (n m:Nat),s.length - m≤n→m≤s.length→k≤m →
 J Tryz.prog 209 (aI Tryz.f209) Γ (Eq2 (.x (.s (seg s k m++(s.drop m).takeWhile fI))) [Chunk.cells [SC.pd (PD.str s),SC.i pos,SC.own 1,SC.i bad] 169,Chunk.own 92 ETy.cell out]) zMd4 ({ n:=68,fr:=[(0,.x (.c (.loc 0 0))),(1,.i ((k:Int))),(4,.p (.str [])),(5,.i ((m:Int)))],ck:=(zMd2 s pos bad out),m:=2 }):=by
 intro n
 induction n with
 | zero=>?_
 | succ n ih=>?_
 all_goals
  intro m hn hm hk
  refine jg bG Tryz.func209 (let x1:=(↑((List.getD s m (0:UInt8)).toNat):Int); let x2:=((m:Int)<af s); let x3:List Chunk:=(zMd2 s pos bad out); let x4:=(decide (x1≥97)&&decide (x1≤122)); .need (decide x2=true→(0:Int)≤(m:Int)∧(m:Int)<af s) (.need (decide x2=true∧decide (x1≥97)=true→(0:Int)≤(m:Int)∧(m:Int)<af s) (.need (decide x2=true∧x4=false→(0:Int)≤(m:Int)∧(m:Int)<af s) (.need ((decide x2=true∧x4=false)∧decide (x1≥48)=true→(0:Int)≤(m:Int)∧(m:Int)<af s) (.need (decide x2=true∧(decide (x1≥97)&&decide (x1≤122)||decide (x1≥48)&&decide (x1≤57))=false→(0:Int)≤(m:Int)∧(m:Int)<af s) (.ite (decide x2&&(decide (x1≥97)&&decide (x1≤122)||decide (x1≥48)&&decide (x1≤57)||x1==95)) (.stop zMd4 { n:=68,fr:=[(0,.x (.c (.loc 0 0))),(1,.i k),(4,.p (.str [])),(5,.i (IntKind.wrap .i64 ((m:Int)+1)))],ck:=x3,m:=2 }) (.need ((0:Int)≤(k:Int)∧(k:Int)≤(m:Int)∧(m:Int)≤(s.length:Int)) (.ret (.p (.str ((aC s (some (k:Int)) (some (m:Int))).2))) x3)))))))) ?_
  conv=>zeta
  have hL:af s=(s.length:Int):=rfl
  have inb:decide ((m:Int)<af s)=true→0≤(m:Int)∧(m:Int)<af s:=fun h=>⟨by omega,of_decide_eq_true h⟩
  refine ⟨inb,fun h=>inb h.1,fun h=>inb h.1,fun h=>inb h.1.1,fun h=>inb h.1,fun h=>?_,fun h=>⟨⟨by omega,by omega,by omega⟩,?_,rfl⟩⟩
  · have h':(decide ((m:Int)<af s)&&fI (s.getD m 0))=true:=h
    simp only [ab,decide_eq_true_eq] at h'
    have hlt:m<s.length:=by omega
    first
    | (exfalso; omega)
    | (rw [ee (by omega),Dl hk hlt h'.2]
       exact ih (m+1) (by omega) (by omega) (by omega))
  · have h':(decide ((m:Int)<af s)&&fI (s.getD m 0))=false:=h
    have e:(s.drop m).takeWhile fI=[]:=AL fun hlt=>by
     rw [decide_eq_true (by omega),bV] at h'; exact h'
    rw [e,bu]; rfl
abbrev zMd3:List Chunk:=[.cells [.pd (.str a),.pd (.int .i64 b),.own 1,.pd (.int .i64 c)] 169,.own 92 .cell d]
theorem FM (hs:s.length≤1048576) (h0:0≤k) (h1:k≤af s):ak Tryz.prog 209 [.c (.loc 0 0),.i k] (zMd3 s pos bad out) (.x (.s (aG s k))) (zMd3 s pos bad out):=by
 obtain ⟨k,rfl⟩:=dZ h0
 refine dg bG Tryz.func209 (.stop zMd4 { n:=68,fr:=[(0,.x (.c (.loc 0 0))),(1,.i k),(4,.p (.str [])),(5,.i k)],ck:=(zMd2 s pos bad out),m:=2 }) fun Γ=>?_
 have hL:af s=(s.length:Int):=rfl
 have h:=Ge s pos bad k out Γ hs s.length k (by omega) (by omega) (av _)
 rw [iI] at h
 exact h
def qM:Ent:=(209,fun
 | [.c (.loc 0 0),.c (.pd (.int .i64 k))],[.cells [.pd (.str s),.pd (.int .i64 pos),.own 1,.pd (.int .i64 bad)] 169,.own 92 .cell out]=>some (some (s.length≤1048576∧0≤k∧k≤af s),.x (.c (.pd (.str (aG s k)))),[.cells [.pd (.str s),.pd (.int .i64 pos),.own 1,.pd (.int .i64 bad)] 169,.own 92 .cell out])
 | _,_=>none)
theorem xU:EntOk Tryz.prog qM:=entOk fun vs ck=>by
 unfold qM; dsimp only; split
 · rename_i k s pos bad out; exact entS fun hp=>FM s pos bad k out hp.1 hp.2.1 hp.2.2
 · exact entN
/-! ### operators -/
theorem gf (h:((ax op).2==p&&bo rest (ax op).1)=true):bm rest p (op::l)=(op,af (ax op).1):=by
 rw [bm,h]; rfl
theorem fy (h:((ax op).2==p&&bo rest (ax op).1)=false):bm rest p (op::l)=bm rest p l:=by
 rw [bm,h]; rfl
def fT:Cfg:=⟨bx,[uY,DY]⟩
theorem dU:ai Tryz.prog fT.tab:=(ai.cons Ay (ai.cons Nh ai.nil))
abbrev zMd1:List PI:=[.code [1,1,0,1,0,0],.inLoop [1,1,0,1,0,0],.inBlock 0,.code [1,1,1]]
theorem Ew (p:Int) (out:List Cell) (h0:0≤pos) (h1:pos≤af s):ak Tryz.prog 160 [.c (.loc 0 0),.i p] (zMd3 s pos bad out) (.tup [.i (bp (s.drop pos.toNat) p).1,.i (bp (s.drop pos.toNat) p).2]) (zMd3 s pos bad out):=by
 refine dg dU Tryz.func160 (.need ((0:Int)≤pos∧pos≤(s.length:Int)) (.stop zMd1 { n:=41,fr:=[(6,.p (.str ((aC s (some pos) none).2))),(1,.i p),(4,.i 0),(5,.i 0),(20,.x (.agg [.i 17,.i 19,.i 21,.i 18,.i 20,.i 16,.i 23,.i 22,.i 11,.i 12,.i 13,.i 14,.i 15])),(21,.i 0)],ck:=(zMd2 s pos bad out),m:=2 })) fun Γ=>?_
 refine ⟨⟨h0,h1⟩,?_⟩
 have fin:zJ160Md Γ (Eq2 (.tup [.i (bm (s.drop pos.toNat) p (opsL.drop 13)).1,.i (bm (s.drop pos.toNat) p (opsL.drop 13)).2]) [Chunk.cells [SC.pd (PD.str s),SC.i pos,SC.own 1,SC.i bad] 169,Chunk.own 92 ETy.cell out]) zMd1 ({ n:=41,fr:=[(6,.p (.str ((aC s (some pos) none).2))),(1,.i p),(4,.i 0),(5,.i 0),(20,.x (.agg [.i 17,.i 19,.i 21,.i 18,.i 20,.i 16,.i 23,.i 22,.i 11,.i 12,.i 13,.i 14,.i 15])),(21,.i ((13:Int)))],ck:=(zMd2 s pos bad out),m:=2 }):=by
  refine jg dU Tryz.func160 (.ite false (.stop [.ops [1,1,0,1,0,0,1,1,0,0,0] 0,.code [1,1,0,1,0,0,1,1,0,0,1],.inBlock 1,.code [1,1,0,1,0,0,1,1,1],.inLoop [1,1,0,1,0,0],.inBlock 0,.code [1,1,1]] { n:=41,fr:=[(6,.p (.str ((aC s (some pos) none).2))),(1,.i p),(4,.i 0),(5,.i 0),(20,.x (.agg [.i 17,.i 19,.i 21,.i 18,.i 20,.i 16,.i 23,.i 22,.i 11,.i 12,.i 13,.i 14,.i 15])),(21,.i 13)],ck:=(zMd2 s pos bad out),m:=2 }) (.ret (.tup [.i 0,.i 0]) (zMd2 s pos bad out))) ?_
  exact ⟨fun h=>Bool.noConfusion h,fun _=>⟨rfl,rfl⟩⟩
 have s12:zJ160Md Γ (Eq2 (.tup [.i (bm (s.drop pos.toNat) p (opsL.drop 12)).1,.i (bm (s.drop pos.toNat) p (opsL.drop 12)).2]) [Chunk.cells [SC.pd (PD.str s),SC.i pos,SC.own 1,SC.i bad] 169,Chunk.own 92 ETy.cell out]) zMd1 ({ n:=41,fr:=[(6,.p (.str ((aC s (some pos) none).2))),(1,.i p),(4,.i 0),(5,.i 0),(20,.x (.agg [.i 17,.i 19,.i 21,.i 18,.i 20,.i 16,.i 23,.i 22,.i 11,.i 12,.i 13,.i 14,.i 15])),(21,.i ((12:Int)))],ck:=(zMd2 s pos bad out),m:=2 }):=by
  refine jg dU Tryz.func160 (let x1:List Chunk:=(zMd2 s pos bad out); .ite true (.need ((0:Int)≤12∧(12:Int)<(↑(13:Nat):Int)) (.ite ((ax (15:Int)).2==p&&bo ((aC s (some pos) none).2) ((ax (15:Int)).1)) (.ret (.tup [.i 15,.i (af ((ax (15:Int)).1))]) x1) (.stop zMd1 { n:=41,fr:=[(6,.p (.str ((aC s (some pos) none).2))),(1,.i p),(4,.i 0),(5,.i 0),(20,.x (.agg [.i 17,.i 19,.i 21,.i 18,.i 20,.i 16,.i 23,.i 22,.i 11,.i 12,.i 13,.i 14,.i 15])),(21,.i (IntKind.wrap .i64 ((12:Int)+1)))],ck:=x1,m:=2 }))) (.ret (.tup [.i 0,.i 0]) x1)) ?_
  conv=>zeta
  refine ⟨fun _=>⟨by decide,fun h=>?_,fun h=>?_⟩,fun h=>Bool.noConfusion h⟩
  · have e:bm (s.drop pos.toNat) p (opsL.drop 12)=(15,af (ax 15).1):=gf h
    rw [e]; exact ⟨rfl,rfl⟩
  · have e:bm (s.drop pos.toNat) p (opsL.drop 12)=bm (s.drop pos.toNat) p (opsL.drop 13):=fy (op:=15) h
    rw [e]; exact fin
 have s11:zJ160Md Γ (Eq2 (.tup [.i (bm (s.drop pos.toNat) p (opsL.drop 11)).1,.i (bm (s.drop pos.toNat) p (opsL.drop 11)).2]) [Chunk.cells [SC.pd (PD.str s),SC.i pos,SC.own 1,SC.i bad] 169,Chunk.own 92 ETy.cell out]) zMd1 ({ n:=41,fr:=[(6,.p (.str ((aC s (some pos) none).2))),(1,.i p),(4,.i 0),(5,.i 0),(20,.x (.agg [.i 17,.i 19,.i 21,.i 18,.i 20,.i 16,.i 23,.i 22,.i 11,.i 12,.i 13,.i 14,.i 15])),(21,.i ((11:Int)))],ck:=(zMd2 s pos bad out),m:=2 }):=by
  refine jg dU Tryz.func160 (let x1:List Chunk:=(zMd2 s pos bad out); .ite true (.need ((0:Int)≤11∧(11:Int)<(↑(13:Nat):Int)) (.ite ((ax (14:Int)).2==p&&bo ((aC s (some pos) none).2) ((ax (14:Int)).1)) (.ret (.tup [.i 14,.i (af ((ax (14:Int)).1))]) x1) (.stop zMd1 { n:=41,fr:=[(6,.p (.str ((aC s (some pos) none).2))),(1,.i p),(4,.i 0),(5,.i 0),(20,.x (.agg [.i 17,.i 19,.i 21,.i 18,.i 20,.i 16,.i 23,.i 22,.i 11,.i 12,.i 13,.i 14,.i 15])),(21,.i (IntKind.wrap .i64 ((11:Int)+1)))],ck:=x1,m:=2 }))) (.ret (.tup [.i 0,.i 0]) x1)) ?_
  conv=>zeta
  refine ⟨fun _=>⟨by decide,fun h=>?_,fun h=>?_⟩,fun h=>Bool.noConfusion h⟩
  · have e:bm (s.drop pos.toNat) p (opsL.drop 11)=(14,af (ax 14).1):=gf h
    rw [e]; exact ⟨rfl,rfl⟩
  · have e:bm (s.drop pos.toNat) p (opsL.drop 11)=bm (s.drop pos.toNat) p (opsL.drop 12):=fy (op:=14) h
    rw [e]; exact s12
 have s10:zJ160Md Γ (Eq2 (.tup [.i (bm (s.drop pos.toNat) p (opsL.drop 10)).1,.i (bm (s.drop pos.toNat) p (opsL.drop 10)).2]) [Chunk.cells [SC.pd (PD.str s),SC.i pos,SC.own 1,SC.i bad] 169,Chunk.own 92 ETy.cell out]) zMd1 ({ n:=41,fr:=[(6,.p (.str ((aC s (some pos) none).2))),(1,.i p),(4,.i 0),(5,.i 0),(20,.x (.agg [.i 17,.i 19,.i 21,.i 18,.i 20,.i 16,.i 23,.i 22,.i 11,.i 12,.i 13,.i 14,.i 15])),(21,.i ((10:Int)))],ck:=(zMd2 s pos bad out),m:=2 }):=by
  refine jg dU Tryz.func160 (let x1:List Chunk:=(zMd2 s pos bad out); .ite true (.need ((0:Int)≤10∧(10:Int)<(↑(13:Nat):Int)) (.ite ((ax (13:Int)).2==p&&bo ((aC s (some pos) none).2) ((ax (13:Int)).1)) (.ret (.tup [.i 13,.i (af ((ax (13:Int)).1))]) x1) (.stop zMd1 { n:=41,fr:=[(6,.p (.str ((aC s (some pos) none).2))),(1,.i p),(4,.i 0),(5,.i 0),(20,.x (.agg [.i 17,.i 19,.i 21,.i 18,.i 20,.i 16,.i 23,.i 22,.i 11,.i 12,.i 13,.i 14,.i 15])),(21,.i (IntKind.wrap .i64 ((10:Int)+1)))],ck:=x1,m:=2 }))) (.ret (.tup [.i 0,.i 0]) x1)) ?_
  conv=>zeta
  refine ⟨fun _=>⟨by decide,fun h=>?_,fun h=>?_⟩,fun h=>Bool.noConfusion h⟩
  · have e:bm (s.drop pos.toNat) p (opsL.drop 10)=(13,af (ax 13).1):=gf h
    rw [e]; exact ⟨rfl,rfl⟩
  · have e:bm (s.drop pos.toNat) p (opsL.drop 10)=bm (s.drop pos.toNat) p (opsL.drop 11):=fy (op:=13) h
    rw [e]; exact s11
 have s9:zJ160Md Γ (Eq2 (.tup [.i (bm (s.drop pos.toNat) p (opsL.drop 9)).1,.i (bm (s.drop pos.toNat) p (opsL.drop 9)).2]) [Chunk.cells [SC.pd (PD.str s),SC.i pos,SC.own 1,SC.i bad] 169,Chunk.own 92 ETy.cell out]) zMd1 ({ n:=41,fr:=[(6,.p (.str ((aC s (some pos) none).2))),(1,.i p),(4,.i 0),(5,.i 0),(20,.x (.agg [.i 17,.i 19,.i 21,.i 18,.i 20,.i 16,.i 23,.i 22,.i 11,.i 12,.i 13,.i 14,.i 15])),(21,.i ((9:Int)))],ck:=(zMd2 s pos bad out),m:=2 }):=by
  refine jg dU Tryz.func160 (let x1:List Chunk:=(zMd2 s pos bad out); .ite true (.need ((0:Int)≤9∧(9:Int)<(↑(13:Nat):Int)) (.ite ((ax (12:Int)).2==p&&bo ((aC s (some pos) none).2) ((ax (12:Int)).1)) (.ret (.tup [.i 12,.i (af ((ax (12:Int)).1))]) x1) (.stop zMd1 { n:=41,fr:=[(6,.p (.str ((aC s (some pos) none).2))),(1,.i p),(4,.i 0),(5,.i 0),(20,.x (.agg [.i 17,.i 19,.i 21,.i 18,.i 20,.i 16,.i 23,.i 22,.i 11,.i 12,.i 13,.i 14,.i 15])),(21,.i (IntKind.wrap .i64 ((9:Int)+1)))],ck:=x1,m:=2 }))) (.ret (.tup [.i 0,.i 0]) x1)) ?_
  conv=>zeta
  refine ⟨fun _=>⟨by decide,fun h=>?_,fun h=>?_⟩,fun h=>Bool.noConfusion h⟩
  · have e:bm (s.drop pos.toNat) p (opsL.drop 9)=(12,af (ax 12).1):=gf h
    rw [e]; exact ⟨rfl,rfl⟩
  · have e:bm (s.drop pos.toNat) p (opsL.drop 9)=bm (s.drop pos.toNat) p (opsL.drop 10):=fy (op:=12) h
    rw [e]; exact s10
 have s8:zJ160Md Γ (Eq2 (.tup [.i (bm (s.drop pos.toNat) p (opsL.drop 8)).1,.i (bm (s.drop pos.toNat) p (opsL.drop 8)).2]) [Chunk.cells [SC.pd (PD.str s),SC.i pos,SC.own 1,SC.i bad] 169,Chunk.own 92 ETy.cell out]) zMd1 ({ n:=41,fr:=[(6,.p (.str ((aC s (some pos) none).2))),(1,.i p),(4,.i 0),(5,.i 0),(20,.x (.agg [.i 17,.i 19,.i 21,.i 18,.i 20,.i 16,.i 23,.i 22,.i 11,.i 12,.i 13,.i 14,.i 15])),(21,.i ((8:Int)))],ck:=(zMd2 s pos bad out),m:=2 }):=by
  refine jg dU Tryz.func160 (let x1:List Chunk:=(zMd2 s pos bad out); .ite true (.need ((0:Int)≤8∧(8:Int)<(↑(13:Nat):Int)) (.ite ((ax (11:Int)).2==p&&bo ((aC s (some pos) none).2) ((ax (11:Int)).1)) (.ret (.tup [.i 11,.i (af ((ax (11:Int)).1))]) x1) (.stop zMd1 { n:=41,fr:=[(6,.p (.str ((aC s (some pos) none).2))),(1,.i p),(4,.i 0),(5,.i 0),(20,.x (.agg [.i 17,.i 19,.i 21,.i 18,.i 20,.i 16,.i 23,.i 22,.i 11,.i 12,.i 13,.i 14,.i 15])),(21,.i (IntKind.wrap .i64 ((8:Int)+1)))],ck:=x1,m:=2 }))) (.ret (.tup [.i 0,.i 0]) x1)) ?_
  conv=>zeta
  refine ⟨fun _=>⟨by decide,fun h=>?_,fun h=>?_⟩,fun h=>Bool.noConfusion h⟩
  · have e:bm (s.drop pos.toNat) p (opsL.drop 8)=(11,af (ax 11).1):=gf h
    rw [e]; exact ⟨rfl,rfl⟩
  · have e:bm (s.drop pos.toNat) p (opsL.drop 8)=bm (s.drop pos.toNat) p (opsL.drop 9):=fy (op:=11) h
    rw [e]; exact s9
 have s7:zJ160Md Γ (Eq2 (.tup [.i (bm (s.drop pos.toNat) p (opsL.drop 7)).1,.i (bm (s.drop pos.toNat) p (opsL.drop 7)).2]) [Chunk.cells [SC.pd (PD.str s),SC.i pos,SC.own 1,SC.i bad] 169,Chunk.own 92 ETy.cell out]) zMd1 ({ n:=41,fr:=[(6,.p (.str ((aC s (some pos) none).2))),(1,.i p),(4,.i 0),(5,.i 0),(20,.x (.agg [.i 17,.i 19,.i 21,.i 18,.i 20,.i 16,.i 23,.i 22,.i 11,.i 12,.i 13,.i 14,.i 15])),(21,.i ((7:Int)))],ck:=(zMd2 s pos bad out),m:=2 }):=by
  refine jg dU Tryz.func160 (let x1:List Chunk:=(zMd2 s pos bad out); .ite true (.need ((0:Int)≤7∧(7:Int)<(↑(13:Nat):Int)) (.ite ((ax (22:Int)).2==p&&bo ((aC s (some pos) none).2) ((ax (22:Int)).1)) (.ret (.tup [.i 22,.i (af ((ax (22:Int)).1))]) x1) (.stop zMd1 { n:=41,fr:=[(6,.p (.str ((aC s (some pos) none).2))),(1,.i p),(4,.i 0),(5,.i 0),(20,.x (.agg [.i 17,.i 19,.i 21,.i 18,.i 20,.i 16,.i 23,.i 22,.i 11,.i 12,.i 13,.i 14,.i 15])),(21,.i (IntKind.wrap .i64 ((7:Int)+1)))],ck:=x1,m:=2 }))) (.ret (.tup [.i 0,.i 0]) x1)) ?_
  conv=>zeta
  refine ⟨fun _=>⟨by decide,fun h=>?_,fun h=>?_⟩,fun h=>Bool.noConfusion h⟩
  · have e:bm (s.drop pos.toNat) p (opsL.drop 7)=(22,af (ax 22).1):=gf h
    rw [e]; exact ⟨rfl,rfl⟩
  · have e:bm (s.drop pos.toNat) p (opsL.drop 7)=bm (s.drop pos.toNat) p (opsL.drop 8):=fy (op:=22) h
    rw [e]; exact s8
 have s6:zJ160Md Γ (Eq2 (.tup [.i (bm (s.drop pos.toNat) p (opsL.drop 6)).1,.i (bm (s.drop pos.toNat) p (opsL.drop 6)).2]) [Chunk.cells [SC.pd (PD.str s),SC.i pos,SC.own 1,SC.i bad] 169,Chunk.own 92 ETy.cell out]) zMd1 ({ n:=41,fr:=[(6,.p (.str ((aC s (some pos) none).2))),(1,.i p),(4,.i 0),(5,.i 0),(20,.x (.agg [.i 17,.i 19,.i 21,.i 18,.i 20,.i 16,.i 23,.i 22,.i 11,.i 12,.i 13,.i 14,.i 15])),(21,.i ((6:Int)))],ck:=(zMd2 s pos bad out),m:=2 }):=by
  refine jg dU Tryz.func160 (let x1:List Chunk:=(zMd2 s pos bad out); .ite true (.need ((0:Int)≤6∧(6:Int)<(↑(13:Nat):Int)) (.ite ((ax (23:Int)).2==p&&bo ((aC s (some pos) none).2) ((ax (23:Int)).1)) (.ret (.tup [.i 23,.i (af ((ax (23:Int)).1))]) x1) (.stop zMd1 { n:=41,fr:=[(6,.p (.str ((aC s (some pos) none).2))),(1,.i p),(4,.i 0),(5,.i 0),(20,.x (.agg [.i 17,.i 19,.i 21,.i 18,.i 20,.i 16,.i 23,.i 22,.i 11,.i 12,.i 13,.i 14,.i 15])),(21,.i (IntKind.wrap .i64 ((6:Int)+1)))],ck:=x1,m:=2 }))) (.ret (.tup [.i 0,.i 0]) x1)) ?_
  conv=>zeta
  refine ⟨fun _=>⟨by decide,fun h=>?_,fun h=>?_⟩,fun h=>Bool.noConfusion h⟩
  · have e:bm (s.drop pos.toNat) p (opsL.drop 6)=(23,af (ax 23).1):=gf h
    rw [e]; exact ⟨rfl,rfl⟩
  · have e:bm (s.drop pos.toNat) p (opsL.drop 6)=bm (s.drop pos.toNat) p (opsL.drop 7):=fy (op:=23) h
    rw [e]; exact s7
 have s5:zJ160Md Γ (Eq2 (.tup [.i (bm (s.drop pos.toNat) p (opsL.drop 5)).1,.i (bm (s.drop pos.toNat) p (opsL.drop 5)).2]) [Chunk.cells [SC.pd (PD.str s),SC.i pos,SC.own 1,SC.i bad] 169,Chunk.own 92 ETy.cell out]) zMd1 ({ n:=41,fr:=[(6,.p (.str ((aC s (some pos) none).2))),(1,.i p),(4,.i 0),(5,.i 0),(20,.x (.agg [.i 17,.i 19,.i 21,.i 18,.i 20,.i 16,.i 23,.i 22,.i 11,.i 12,.i 13,.i 14,.i 15])),(21,.i ((5:Int)))],ck:=(zMd2 s pos bad out),m:=2 }):=by
  refine jg dU Tryz.func160 (let x1:List Chunk:=(zMd2 s pos bad out); .ite true (.need ((0:Int)≤5∧(5:Int)<(↑(13:Nat):Int)) (.ite ((ax (16:Int)).2==p&&bo ((aC s (some pos) none).2) ((ax (16:Int)).1)) (.ret (.tup [.i 16,.i (af ((ax (16:Int)).1))]) x1) (.stop zMd1 { n:=41,fr:=[(6,.p (.str ((aC s (some pos) none).2))),(1,.i p),(4,.i 0),(5,.i 0),(20,.x (.agg [.i 17,.i 19,.i 21,.i 18,.i 20,.i 16,.i 23,.i 22,.i 11,.i 12,.i 13,.i 14,.i 15])),(21,.i (IntKind.wrap .i64 ((5:Int)+1)))],ck:=x1,m:=2 }))) (.ret (.tup [.i 0,.i 0]) x1)) ?_
  conv=>zeta
  refine ⟨fun _=>⟨by decide,fun h=>?_,fun h=>?_⟩,fun h=>Bool.noConfusion h⟩
  · have e:bm (s.drop pos.toNat) p (opsL.drop 5)=(16,af (ax 16).1):=gf h
    rw [e]; exact ⟨rfl,rfl⟩
  · have e:bm (s.drop pos.toNat) p (opsL.drop 5)=bm (s.drop pos.toNat) p (opsL.drop 6):=fy (op:=16) h
    rw [e]; exact s6
 have s4:zJ160Md Γ (Eq2 (.tup [.i (bm (s.drop pos.toNat) p (opsL.drop 4)).1,.i (bm (s.drop pos.toNat) p (opsL.drop 4)).2]) [Chunk.cells [SC.pd (PD.str s),SC.i pos,SC.own 1,SC.i bad] 169,Chunk.own 92 ETy.cell out]) zMd1 ({ n:=41,fr:=[(6,.p (.str ((aC s (some pos) none).2))),(1,.i p),(4,.i 0),(5,.i 0),(20,.x (.agg [.i 17,.i 19,.i 21,.i 18,.i 20,.i 16,.i 23,.i 22,.i 11,.i 12,.i 13,.i 14,.i 15])),(21,.i ((4:Int)))],ck:=(zMd2 s pos bad out),m:=2 }):=by
  refine jg dU Tryz.func160 (let x1:List Chunk:=(zMd2 s pos bad out); .ite true (.need ((0:Int)≤4∧(4:Int)<(↑(13:Nat):Int)) (.ite ((ax (20:Int)).2==p&&bo ((aC s (some pos) none).2) ((ax (20:Int)).1)) (.ret (.tup [.i 20,.i (af ((ax (20:Int)).1))]) x1) (.stop zMd1 { n:=41,fr:=[(6,.p (.str ((aC s (some pos) none).2))),(1,.i p),(4,.i 0),(5,.i 0),(20,.x (.agg [.i 17,.i 19,.i 21,.i 18,.i 20,.i 16,.i 23,.i 22,.i 11,.i 12,.i 13,.i 14,.i 15])),(21,.i (IntKind.wrap .i64 ((4:Int)+1)))],ck:=x1,m:=2 }))) (.ret (.tup [.i 0,.i 0]) x1)) ?_
  conv=>zeta
  refine ⟨fun _=>⟨by decide,fun h=>?_,fun h=>?_⟩,fun h=>Bool.noConfusion h⟩
  · have e:bm (s.drop pos.toNat) p (opsL.drop 4)=(20,af (ax 20).1):=gf h
    rw [e]; exact ⟨rfl,rfl⟩
  · have e:bm (s.drop pos.toNat) p (opsL.drop 4)=bm (s.drop pos.toNat) p (opsL.drop 5):=fy (op:=20) h
    rw [e]; exact s5
 have s3:zJ160Md Γ (Eq2 (.tup [.i (bm (s.drop pos.toNat) p (opsL.drop 3)).1,.i (bm (s.drop pos.toNat) p (opsL.drop 3)).2]) [Chunk.cells [SC.pd (PD.str s),SC.i pos,SC.own 1,SC.i bad] 169,Chunk.own 92 ETy.cell out]) zMd1 ({ n:=41,fr:=[(6,.p (.str ((aC s (some pos) none).2))),(1,.i p),(4,.i 0),(5,.i 0),(20,.x (.agg [.i 17,.i 19,.i 21,.i 18,.i 20,.i 16,.i 23,.i 22,.i 11,.i 12,.i 13,.i 14,.i 15])),(21,.i ((3:Int)))],ck:=(zMd2 s pos bad out),m:=2 }):=by
  refine jg dU Tryz.func160 (let x1:List Chunk:=(zMd2 s pos bad out); .ite true (.need ((0:Int)≤3∧(3:Int)<(↑(13:Nat):Int)) (.ite ((ax (18:Int)).2==p&&bo ((aC s (some pos) none).2) ((ax (18:Int)).1)) (.ret (.tup [.i 18,.i (af ((ax (18:Int)).1))]) x1) (.stop zMd1 { n:=41,fr:=[(6,.p (.str ((aC s (some pos) none).2))),(1,.i p),(4,.i 0),(5,.i 0),(20,.x (.agg [.i 17,.i 19,.i 21,.i 18,.i 20,.i 16,.i 23,.i 22,.i 11,.i 12,.i 13,.i 14,.i 15])),(21,.i (IntKind.wrap .i64 ((3:Int)+1)))],ck:=x1,m:=2 }))) (.ret (.tup [.i 0,.i 0]) x1)) ?_
  conv=>zeta
  refine ⟨fun _=>⟨by decide,fun h=>?_,fun h=>?_⟩,fun h=>Bool.noConfusion h⟩
  · have e:bm (s.drop pos.toNat) p (opsL.drop 3)=(18,af (ax 18).1):=gf h
    rw [e]; exact ⟨rfl,rfl⟩
  · have e:bm (s.drop pos.toNat) p (opsL.drop 3)=bm (s.drop pos.toNat) p (opsL.drop 4):=fy (op:=18) h
    rw [e]; exact s4
 have s2:zJ160Md Γ (Eq2 (.tup [.i (bm (s.drop pos.toNat) p (opsL.drop 2)).1,.i (bm (s.drop pos.toNat) p (opsL.drop 2)).2]) [Chunk.cells [SC.pd (PD.str s),SC.i pos,SC.own 1,SC.i bad] 169,Chunk.own 92 ETy.cell out]) zMd1 ({ n:=41,fr:=[(6,.p (.str ((aC s (some pos) none).2))),(1,.i p),(4,.i 0),(5,.i 0),(20,.x (.agg [.i 17,.i 19,.i 21,.i 18,.i 20,.i 16,.i 23,.i 22,.i 11,.i 12,.i 13,.i 14,.i 15])),(21,.i ((2:Int)))],ck:=(zMd2 s pos bad out),m:=2 }):=by
  refine jg dU Tryz.func160 (let x1:List Chunk:=(zMd2 s pos bad out); .ite true (.need ((0:Int)≤2∧(2:Int)<(↑(13:Nat):Int)) (.ite ((ax (21:Int)).2==p&&bo ((aC s (some pos) none).2) ((ax (21:Int)).1)) (.ret (.tup [.i 21,.i (af ((ax (21:Int)).1))]) x1) (.stop zMd1 { n:=41,fr:=[(6,.p (.str ((aC s (some pos) none).2))),(1,.i p),(4,.i 0),(5,.i 0),(20,.x (.agg [.i 17,.i 19,.i 21,.i 18,.i 20,.i 16,.i 23,.i 22,.i 11,.i 12,.i 13,.i 14,.i 15])),(21,.i (IntKind.wrap .i64 ((2:Int)+1)))],ck:=x1,m:=2 }))) (.ret (.tup [.i 0,.i 0]) x1)) ?_
  conv=>zeta
  refine ⟨fun _=>⟨by decide,fun h=>?_,fun h=>?_⟩,fun h=>Bool.noConfusion h⟩
  · have e:bm (s.drop pos.toNat) p (opsL.drop 2)=(21,af (ax 21).1):=gf h
    rw [e]; exact ⟨rfl,rfl⟩
  · have e:bm (s.drop pos.toNat) p (opsL.drop 2)=bm (s.drop pos.toNat) p (opsL.drop 3):=fy (op:=21) h
    rw [e]; exact s3
 have s1:zJ160Md Γ (Eq2 (.tup [.i (bm (s.drop pos.toNat) p (opsL.drop 1)).1,.i (bm (s.drop pos.toNat) p (opsL.drop 1)).2]) [Chunk.cells [SC.pd (PD.str s),SC.i pos,SC.own 1,SC.i bad] 169,Chunk.own 92 ETy.cell out]) zMd1 ({ n:=41,fr:=[(6,.p (.str ((aC s (some pos) none).2))),(1,.i p),(4,.i 0),(5,.i 0),(20,.x (.agg [.i 17,.i 19,.i 21,.i 18,.i 20,.i 16,.i 23,.i 22,.i 11,.i 12,.i 13,.i 14,.i 15])),(21,.i ((1:Int)))],ck:=(zMd2 s pos bad out),m:=2 }):=by
  refine jg dU Tryz.func160 (let x1:List Chunk:=(zMd2 s pos bad out); .ite true (.need ((0:Int)≤1∧(1:Int)<(↑(13:Nat):Int)) (.ite ((ax (19:Int)).2==p&&bo ((aC s (some pos) none).2) ((ax (19:Int)).1)) (.ret (.tup [.i 19,.i (af ((ax (19:Int)).1))]) x1) (.stop zMd1 { n:=41,fr:=[(6,.p (.str ((aC s (some pos) none).2))),(1,.i p),(4,.i 0),(5,.i 0),(20,.x (.agg [.i 17,.i 19,.i 21,.i 18,.i 20,.i 16,.i 23,.i 22,.i 11,.i 12,.i 13,.i 14,.i 15])),(21,.i (IntKind.wrap .i64 ((1:Int)+1)))],ck:=x1,m:=2 }))) (.ret (.tup [.i 0,.i 0]) x1)) ?_
  conv=>zeta
  refine ⟨fun _=>⟨by decide,fun h=>?_,fun h=>?_⟩,fun h=>Bool.noConfusion h⟩
  · have e:bm (s.drop pos.toNat) p (opsL.drop 1)=(19,af (ax 19).1):=gf h
    rw [e]; exact ⟨rfl,rfl⟩
  · have e:bm (s.drop pos.toNat) p (opsL.drop 1)=bm (s.drop pos.toNat) p (opsL.drop 2):=fy (op:=19) h
    rw [e]; exact s2
 have s0:zJ160Md Γ (Eq2 (.tup [.i (bm (s.drop pos.toNat) p (opsL.drop 0)).1,.i (bm (s.drop pos.toNat) p (opsL.drop 0)).2]) [Chunk.cells [SC.pd (PD.str s),SC.i pos,SC.own 1,SC.i bad] 169,Chunk.own 92 ETy.cell out]) zMd1 ({ n:=41,fr:=[(6,.p (.str ((aC s (some pos) none).2))),(1,.i p),(4,.i 0),(5,.i 0),(20,.x (.agg [.i 17,.i 19,.i 21,.i 18,.i 20,.i 16,.i 23,.i 22,.i 11,.i 12,.i 13,.i 14,.i 15])),(21,.i ((0:Int)))],ck:=(zMd2 s pos bad out),m:=2 }):=by
  refine jg dU Tryz.func160 (let x1:List Chunk:=(zMd2 s pos bad out); .ite true (.need ((0:Int)≤0∧(0:Int)<(↑(13:Nat):Int)) (.ite ((ax (17:Int)).2==p&&bo ((aC s (some pos) none).2) ((ax (17:Int)).1)) (.ret (.tup [.i 17,.i (af ((ax (17:Int)).1))]) x1) (.stop zMd1 { n:=41,fr:=[(6,.p (.str ((aC s (some pos) none).2))),(1,.i p),(4,.i 0),(5,.i 0),(20,.x (.agg [.i 17,.i 19,.i 21,.i 18,.i 20,.i 16,.i 23,.i 22,.i 11,.i 12,.i 13,.i 14,.i 15])),(21,.i (IntKind.wrap .i64 ((0:Int)+1)))],ck:=x1,m:=2 }))) (.ret (.tup [.i 0,.i 0]) x1)) ?_
  conv=>zeta
  refine ⟨fun _=>⟨by decide,fun h=>?_,fun h=>?_⟩,fun h=>Bool.noConfusion h⟩
  · have e:bm (s.drop pos.toNat) p (opsL.drop 0)=(17,af (ax 17).1):=gf h
    rw [e]; exact ⟨rfl,rfl⟩
  · have e:bm (s.drop pos.toNat) p (opsL.drop 0)=bm (s.drop pos.toNat) p (opsL.drop 1):=fy (op:=17) h
    rw [e]; exact s1
 exact s0
def uK:Ent:=(160,fun
 | [.c (.loc 0 0),.c (.pd (.int .i64 p))],[.cells [.pd (.str s),.pd (.int .i64 pos),.own 1,.pd (.int .i64 bad)] 169,.own 92 .cell out]=>some (some (0≤pos∧pos≤af s),.tup [.c (.pd (.int .i64 (bp (s.drop pos.toNat) p).1)),.c (.pd (.int .i64 (bp (s.drop pos.toNat) p).2))],[.cells [.pd (.str s),.pd (.int .i64 pos),.own 1,.pd (.int .i64 bad)] 169,.own 92 .cell out])
 | _,_=>none)
theorem GY:EntOk Tryz.prog uK:=entOk fun vs ck=>by
 unfold uK; dsimp only; split
 · rename_i p s pos bad out; exact entS fun hp=>Ew s pos bad p out hp.1 hp.2
 · exact entN
/-! ### a closing parenthesis -/
def Be:Cfg:=⟨bx,[ko]⟩
theorem CH:ai Tryz.prog Be.tab:=(ai.cons j8 ai.nil)
theorem Cm (hb:bad<0→0≤pos∧pos≤af s) (h0 : -1≤pos) (h1:pos≤1099511627776):ak Tryz.prog 208 [.c (.loc 0 0)] (zMd3 s pos bad out) (.tup []) [.cells [.pd (.str s),.i (pos+1),.own 1,.i (bS s ⟨pos,out,bad⟩).bad] 169,.own 92 .cell out]:=by
 refine dg CH Tryz.func208 (.need ((((16,18,false,iX false (pos==af s) (some (5,7,true,iX true (decide (bad<(0:Int))) none))).2).2).2→(0:Int)≤pos∧pos<af s) (.ite (decide (bad<(0:Int))&&(pos==af s||(↑((List.getD s (Int.toNat pos) (0:UInt8)).toNat):Int) != 41)) (.ret (.tup []) [.cells [.pd (.str s),.i (IntKind.wrap .i64 (pos+(1:Int))),.own 1,.i (if bad<(0:Int) then pos else bad)] 169,.own 92 .cell out]) (.ret (.tup []) [.cells [.pd (.str s),.i (IntKind.wrap .i64 (pos+(1:Int))),.own 1,.i bad] 169,.own 92 .cell out]))) fun Γ=>?_
 have e:IntKind.wrap .i64 (pos+1)=pos+1:=cG (by omega) (by omega)
 rw [e]
 refine ⟨fun h=>?_,fun h=>⟨rfl,?_⟩,fun h=>⟨rfl,?_⟩⟩
 · simp [iX] at h
   have:=hb h.1
   omega
 · have h':bad<0∧(pos=af s∨bW s pos≠41):=by
    simp only [ab,aH,decide_eq_true_eq,beq_iff_eq,bne_iff_ne] at h
    exact h
   have e2:(bS s ⟨pos,out,bad⟩).bad=(if bad<0 then pos else bad):=by unfold bS; rw [if_pos h']; rfl
   rw [e2]
 · have h':¬(bad<0∧(pos=af s∨bW s pos≠41)):=by
    intro hh
    have:(decide (bad<0)&&(pos==af s||((s.getD pos.toNat 0).toNat:Int) != 41))=true:=by
     simp only [ab,aH,decide_eq_true_eq,beq_iff_eq,bne_iff_ne]
     exact hh
    rw [this] at h; cases h
   have e2:(bS s ⟨pos,out,bad⟩).bad=bad:=by unfold bS; rw [if_neg h']; rfl
   rw [e2]
def ot:Ent:=(208,fun
 | [.c (.loc 0 0)],[.cells [.pd (.str s),.pd (.int .i64 pos),.own 1,.pd (.int .i64 bad)] 169,.own 92 .cell out]=>some (some ((bad<0→0≤pos∧pos≤af s)∧-1≤pos∧pos≤1099511627776),.tup [],[.cells [.pd (.str s),.pd (.int .i64 (pos+1)),.own 1,.pd (.int .i64 (bS s ⟨pos,out,bad⟩).bad)] 169,.own 92 .cell out])
 | _,_=>none)
theorem vk:EntOk Tryz.prog ot:=entOk fun vs ck=>by
 unfold ot; dsimp only; split
 · rename_i s pos bad out; exact entS fun hp=>Cm s pos bad out hp.1 hp.2.1 hp.2.2
 · exact entN
/-! ### numbers -/
def AO:Cfg:=⟨bx,[ko,eNb,oN,nu]⟩
theorem xE:ai Tryz.prog AO.tab:=(ai.cons j8 (ai.cons AM (ai.cons rz (ai.cons mA ai.nil))))
theorem NS {s:Str} {k m:Nat} (hk:k≤m) (hm:m≤s.length):(seg s k m).length=m - k:=by
 unfold seg; rw [bH,bw]; omega
theorem lg {s:Str} {r:Rd} (h:((bg (cZ s r.pos)).2 != 0||decide (bA (fE s r.pos)<0))=true):cD s r=r.wrong r.pos:=by
 unfold cD
 rw [if_pos (by simpa only [aH,bne_iff_ne,decide_eq_true_eq] using h)]
theorem lE {s:Str} {r:Rd} (h:((bg (cZ s r.pos)).2 != 0||decide (bA (fE s r.pos)<0))=false):cD s r=(r.to (if dn s r.pos=true then cg s r.pos+1 else cg s r.pos)).emit (fE s r.pos):=by
 unfold cD
 rw [if_neg]
 intro hh
 have:((bg (cZ s r.pos)).2 != 0||decide (bA (fE s r.pos)<0))=true:=by simpa only [aH,bne_iff_ne,decide_eq_true_eq] using hh
 rw [this] at h; cases h
abbrev zMd5:List PI:=[.code [1,0,0,0],.inLoop [1,0,0,0],.inBlock 0,.code [1,1]]
theorem Hr (k:Nat) (out:List Cell) (Γ:Ctx) (hs:s.length≤1048576) (ho:room (out.length+1) 32) (hk:k<s.length) (hd:isD (s.getD k 0)=true):∀ (n m:Nat),s.length - m≤n→m≤s.length→k≤m→(s.drop k).takeWhile isD=seg s k m++(s.drop m).takeWhile isD →
 J Tryz.prog 207 (aI Tryz.f207) Γ (RdQ s (cD s ⟨(k:Int),out,bad⟩)) zMd5 ({ n:=115,fr:=[(0,.x (.c (.loc 0 0))),(2,.i ((m:Int)))],ck:=[.cells [.pd (.str s),.i k,.own 1,.i bad] 169,.own 92 .cell out],m:=2 }):=by
 intro n
 induction n with
 | zero=>?_
 | succ n ih=>?_
 all_goals
  intro m hn hm hkm hseg
  refine jg xE Tryz.func207 (let x6:=(IntKind.wrap .i64 ((k:Int)+1)); let x1:=((aC s (some (k:Int)) (some x6)).2); let x2:Tree:=(.ret (.tup []) [.cells [.pd (.str s),.i k,.own 1,.i (if bad<(0:Int) then (k:Int) else bad)] 169,.own 92 .cell out]); let x16:=((aC s (some (k:Int)) (some (m:Int))).2); let x3:=(bg x16); let x4:=(room (out.length+1) 32); let x5:=(↑((List.getD s m (0:UInt8)).toNat):Int); let x10:=((m:Int)<af s); let x7:=(decide x10=true→(0:Int)≤(m:Int)∧(m:Int)<af s); let x8:=(IntKind.wrap .i64 ((m:Int)+1)); let x9:=(IntKind.wrap .i64 (IntKind.wrap .i64 ((k:Int)+1)+(1:Int))); let x11:=(out++[{ op:=(2:Int),a:=(bg x1).1,name:=[] }]); let x12:=(out++[{ op:=(1:Int),a:=(bg x1).1,name:=[] }]); let x13:=(out++[{ op:=(2:Int),a:=x3.1,name:=[] }]); let x14:=(out++[{ op:=(1:Int),a:=x3.1,name:=[] }]); let x15:=(IntKind.wrap .i64 ((k:Int)+1)<af s); .need x7 (.need ((decide x10&&decide (x5≥48))=true→(0:Int)≤(m:Int)∧(m:Int)<af s) (.ite (decide x10&&decide (x5≥48)&&decide (x5≤57)) (.stop zMd5 { n:=115,fr:=[(0,.x (.c (.loc 0 0))),(2,.i x8)],ck:=[.cells [.pd (.str s),.i k,.own 1,.i bad] 169,.own 92 .cell out],m:=2 }) (.need ((0:Int)≤(k:Int)∧(k:Int)<af s) (.ite ((↑((List.getD s k (0:UInt8)).toNat):Int)==48) (.need ((0:Int)≤(k:Int)∧(k:Int)≤IntKind.wrap .i64 ((k:Int)+1)∧IntKind.wrap .i64 ((k:Int)+1)≤(s.length:Int)) (.need (x1.length≤281474976710656) (.need (decide x15=true→(0:Int)≤IntKind.wrap .i64 ((k:Int)+1)∧IntKind.wrap .i64 ((k:Int)+1)<af s) (.ite (decide x15&&(↑((List.getD s (x6.toNat) (0:UInt8)).toNat):Int)==105) (.ite ((bg x1).2 != (0:Int)||decide (fL (2:Int) ((bg x1).1) []<(0:Int))) x2 (.ite true (.need x4 (.ret (.tup []) [.cells [.pd (.str s),.i x9,.own 2,.i bad] 169,.dead,.own 92 .cell x11])) (.need x4 (.ret (.tup []) [.cells [.pd (.str s),.i x6,.own 2,.i bad] 169,.dead,.own 92 .cell x11])))) (.ite ((bg x1).2 != (0:Int)||decide (fL (1:Int) ((bg x1).1) []<(0:Int))) x2 (.ite false (.need x4 (.ret (.tup []) [.cells [.pd (.str s),.i x9,.own 2,.i bad] 169,.dead,.own 92 .cell x12])) (.need x4 (.ret (.tup []) [.cells [.pd (.str s),.i x6,.own 2,.i bad] 169,.dead,.own 92 .cell x12])))))))) (.need ((0:Int)≤(k:Int)∧(k:Int)≤(m:Int)∧(m:Int)≤(s.length:Int)) (.need (x16.length≤281474976710656) (.need x7 (.ite (decide x10&&x5==105) (.ite (x3.2 != (0:Int)||decide (fL (2:Int) (x3.1) []<(0:Int))) x2 (.ite true (.need x4 (.ret (.tup []) [.cells [.pd (.str s),.i x8,.own 2,.i bad] 169,.dead,.own 92 .cell x13])) (.need x4 (.ret (.tup []) [.cells [.pd (.str s),.i m,.own 2,.i bad] 169,.dead,.own 92 .cell x13])))) (.ite (x3.2 != (0:Int)||decide (fL (1:Int) (x3.1) []<(0:Int))) x2 (.ite false (.need x4 (.ret (.tup []) [.cells [.pd (.str s),.i x8,.own 2,.i bad] 169,.dead,.own 92 .cell x14])) (.need x4 (.ret (.tup []) [.cells [.pd (.str s),.i m,.own 2,.i bad] 169,.dead,.own 92 .cell x14]))))))))))))) ?_
  conv=>zeta
  have hL:af s=(s.length:Int):=rfl
  have inb:decide ((m:Int)<af s)=true→0≤(m:Int)∧(m:Int)<af s:=fun h=>⟨by omega,of_decide_eq_true h⟩
  have hcm:=NS (s:=s) hkm hm
  have hnb:=jU (s:=s) (k:=(k:Int)) (by omega) (by omega) hd
  refine ⟨inb,fun h=>inb (by simp only [ab] at h; exact h.1),fun h=>?_,fun h=>⟨⟨by omega,by omega⟩,fun h48=>?_,fun h48=>?_⟩⟩
  · have h':(decide ((m:Int)<af s)&&isD (s.getD m 0))=true:=by simpa only [isD,dj] using h
    simp only [ab,decide_eq_true_eq] at h'
    have hlt:m<s.length:=by omega
    first
    | (exfalso; omega)
    | (rw [ee (by omega)]
       exact ih (m+1) (by omega) (by omega) (by omega) (by rw [hseg,Dl hkm hlt h'.2]))
  · have e1:IntKind.wrap .i64 ((k:Int)+1)=cg s (k:Int):=by
     have h48':bW s (k:Int)=48:=eq_of_beq h48
     rw [cG (by omega) (by omega),cg,if_pos h48']
    have hnb0:(k:Int)≤cg s (k:Int):=by omega
    rw [e1]
    have hcl:(cZ s (k:Int)).length≤281474976710656:=by
     unfold cZ; rw [bH,bw]; omega
    refine ⟨⟨by omega,hnb0,hnb.2⟩,hcl,fun h=>⟨by omega,of_decide_eq_true h⟩,fun hi=>?_,fun hi=>?_⟩
    · have hi':dn s (k:Int)=true:=by first | exact hi | (rw [dn,bW,show (cg s (k:Int)).toNat=m by omega]; exact hi)
      have hc:fE s (k:Int)=⟨2,(bg (cZ s (k:Int))).1,[]⟩:=by rw [fE,if_pos hi']
      refine ⟨fun hb=>?_,fun hb=>⟨fun _=>⟨ho,?_⟩,fun h=>Bool.noConfusion h⟩⟩
      · exact RdQ.one (by rw [lg (by rw [hc]; exact hb)]; rfl)
      · exact RdQ.two (by rw [lE (by rw [hc]; exact hb),if_pos hi',hc,cG (by omega) (by omega)]; rfl)
    · have hi':¬dn s (k:Int)=true:=by
       have:dn s (k:Int)=false:=by first | exact hi | (rw [dn,bW,show (cg s (k:Int)).toNat=m by omega]; exact hi)
       rw [this]; simp
      have hc:fE s (k:Int)=⟨1,(bg (cZ s (k:Int))).1,[]⟩:=by rw [fE,if_neg hi']
      refine ⟨fun hb=>?_,fun hb=>⟨fun h=>Bool.noConfusion h,fun _=>⟨ho,?_⟩⟩⟩
      · exact RdQ.one (by rw [lg (by rw [hc]; exact hb)]; rfl)
      · exact RdQ.two (by rw [lE (by rw [hc]; exact hb),if_neg hi',hc]; rfl)
  · have e1:(m:Int)=cg s (k:Int):=by
     have e:(s.drop m).takeWhile isD=[]:=AL fun hlt=>by
      have h':(decide ((m:Int)<af s)&&isD (s.getD m 0))=false:=by rw [← h]; simp only [isD,dj]
      rw [decide_eq_true (by omega),bV] at h'; exact h'
     have h48':¬bW s (k:Int)=48:=ne_of_beq_false h48
     rw [cg,if_neg h48']
     show (m:Int)=(k:Int)+af ((s.drop k).takeWhile isD)
     rw [hseg,e,bu]
     show (m:Int)=(k:Int)+((seg s k m).length:Int)
     omega
    have hnb0:(k:Int)≤cg s (k:Int):=by omega
    rw [e1]
    have hcl:(cZ s (k:Int)).length≤281474976710656:=by
     unfold cZ; rw [bH,bw]; omega
    refine ⟨⟨by omega,hnb0,hnb.2⟩,hcl,fun h=>⟨by omega,of_decide_eq_true h⟩,fun hi=>?_,fun hi=>?_⟩
    · have hi':dn s (k:Int)=true:=by first | exact hi | (rw [dn,bW,show (cg s (k:Int)).toNat=m by omega]; exact hi)
      have hc:fE s (k:Int)=⟨2,(bg (cZ s (k:Int))).1,[]⟩:=by rw [fE,if_pos hi']
      refine ⟨fun hb=>?_,fun hb=>⟨fun _=>⟨ho,?_⟩,fun h=>Bool.noConfusion h⟩⟩
      · exact RdQ.one (by rw [lg (by rw [hc]; exact hb)]; rfl)
      · exact RdQ.two (by rw [lE (by rw [hc]; exact hb),if_pos hi',hc,cG (by omega) (by omega)]; rfl)
    · have hi':¬dn s (k:Int)=true:=by
       have:dn s (k:Int)=false:=by first | exact hi | (rw [dn,bW,show (cg s (k:Int)).toNat=m by omega]; exact hi)
       rw [this]; simp
      have hc:fE s (k:Int)=⟨1,(bg (cZ s (k:Int))).1,[]⟩:=by rw [fE,if_neg hi']
      refine ⟨fun hb=>?_,fun hb=>⟨fun h=>Bool.noConfusion h,fun _=>⟨ho,?_⟩⟩⟩
      · exact RdQ.one (by rw [lg (by rw [hc]; exact hb)]; rfl)
      · exact RdQ.two (by rw [lE (by rw [hc]; exact hb),if_neg hi',hc]; rfl)
theorem H3 (hs:s.length≤1048576) (ho:room (out.length+1) 32) (h0:0≤pos) (h1:pos<af s) (hd:isD (s.getD pos.toNat 0)=true):ak Tryz.prog 207 [.c (.loc 0 0)] (zMd3 s pos bad out) (.tup []) (rd2 s (cD s ⟨pos,out,bad⟩)):=by
 obtain ⟨k,rfl⟩:=dZ h0
 have hL:af s=(s.length:Int):=rfl
 refine ak.rd Tryz.func207 (by kernel_rfl) (by kernel_rfl) rfl fun Γ=>?_
 refine jg xE Tryz.func207 (.stop zMd5 { n:=115,fr:=[(0,.x (.c (.loc 0 0))),(2,.i k)],ck:=[.cells [.pd (.str s),.i k,.own 1,.i bad] 169,.own 92 .cell out],m:=2 }) ?_
 exact Hr s bad k out Γ hs ho (by omega) hd s.length k (by omega) (by omega) (av _) (by rw [iI]; rfl)
def yV:Ent:=(207,fun
 | [.c (.loc 0 0)],[.cells [.pd (.str s),.pd (.int .i64 pos),.own 1,.pd (.int .i64 bad)] 169,.own 92 .cell out]=>some (some (s.length≤1048576∧room (out.length+1) 32∧0≤pos∧pos<af s∧isD (s.getD pos.toNat 0)=true),.tup [],[.cells [.pd (.str s),.pd (.int .i64 (cD s ⟨pos,out,bad⟩).pos),.own 2,.pd (.int .i64 (cD s ⟨pos,out,bad⟩).bad)] 169,.dead,.own 92 .cell (cD s ⟨pos,out,bad⟩).out])
 | _,_=>none)
theorem KD:EntOk Tryz.prog yV:=entOk fun vs ck=>by
 unfold yV; dsimp only; split
 · rename_i s pos bad out; exact entS fun hp=>H3 s pos bad out hp.1 hp.2.1 hp.2.2.1 hp.2.2.2.1 hp.2.2.2.2
 · exact entN
end Go.Proofs.YtpfidgnkokidoaaGreatDoor
