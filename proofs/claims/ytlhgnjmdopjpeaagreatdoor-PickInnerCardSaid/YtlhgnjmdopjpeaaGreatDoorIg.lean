/- Contracts: what eval's searches find. Conditions: none. One step of eval's loop over a list. Conditions: none. Plain laws: values of lists of cells, of trees. Conditions: each theorem's own. -/
import Derived.Test.YtlhgnjmdopjpeaaGreatDoorTh
import Derived.Test.YtlhgnjmdopjpeaaGreatDoorTn
import Derived.Test.YtlhgnjmdopjpeaaGreatDoorJb
namespace Go.Proofs.YtlhgnjmdopjpeaaGreatDoor
open Go Go.Ev
set_option maxRecDepth 100000
def It:Cfg:=⟨aU,[mS]⟩
theorem Iu:ag Tryz.prog It.tab:=(ag.cons sL ag.nil)
theorem Gq(v:Val):ah Tryz.prog 107 [.e .val v] [] (.x (.b (!vR v))) []:=by
 refine dg Iu Tryz.func107 (.ret (.p (.bool !vR v)) []) fun Γ=>⟨rfl,rfl⟩
def uB:Ent:=(107,fun
 |[.agg [.pd (.int .i64 a),.pd (.int .i64 b),.pd (.int .i64 d)]],[]=>some (none,.x (.c (.pd (.bool (!vR ⟨a,b,d⟩)))),[])
 |_,_=>none)
theorem I3:EntOk Tryz.prog uB:=entOk fun vs ck=>by
 unfold uB;dsimp only;split
 ·rename_i a b d;exact entS fun hp=>Gq ⟨a,b,d⟩
 ·exact entN
theorem Gr(v:Var)(c:Cell):ah Tryz.prog 113 [.e .var v,.p (.ref .cell c 0)] [] (.x (.b (v.name==c.name))) []:=by
 refine dg aX Tryz.func113 (.ret (.p (.bool (v.name==c.name))) []) fun Γ=>⟨rfl,rfl⟩
def uC:Ent:=(113,fun
 |[.agg [.pd (.str a),.pd (.int .i64 b),.pd (.int .i64 d),.pd (.int .i64 e),.pd (.int .i64 f),.pd (.int .i64 g),.pd (.int .i64 h)],.c (.pd (.ref .cell c 0))],[]=>some (none,.x (.c (.pd (.bool (a==c.name)))),[])
 |_,_=>none)
theorem I4:EntOk Tryz.prog uC:=entOk fun vs ck=>by
 unfold uC;dsimp only;split
 ·rename_i a b d e f g h c;exact entS fun hp=>Gr ⟨a,b,d,e,⟨f,g,h⟩⟩ c
 ·exact entN
def A9:Cfg:=⟨aU,[uB]⟩
theorem xB:ag Tryz.prog A9.tab:=(ag.cons I3 ag.nil)
def Ba:Cfg:=⟨aU,[uC]⟩
theorem xC:ag Tryz.prog Ba.tab:=(ag.cons I4 ag.nil)
abbrev zJd1:List PI:=[.code [1,0,1,0,0],.inLoop [1,0,1,0,0],.inBlock 0,.code [1,1]]
variable(vs:List Val)(Γ:Ctx)
theorem P4(hl:vs.length≤maxLen):∀(n k:Nat),vs.length - k≤n→k≤vs.length →
 J Tryz.prog 174 (ar Tryz.f174) Γ (Eq2 (.x (.i (ay (fun v:Val=>!vR v) (vs.drop k) k))) []) zJd1 ({n:=19,fr:=[(0,.p (.lst .val vs)),(1,.x (.c (.fn (.func 107) [] []))),(4,.i 0),(7,.i vs.length),(8,.i k)],ck:=[]}):=by
 intro n
 induction n with
 |zero=>?_
 |succ n ih=>?_
 all_goals
  intro k hn hk
  refine jg xB Tryz.func174 (.ite (decide ((k:Int)<(vs.length:Int))) (.need (inRg k vs.length) (.ite (!vR (ETy.get .val vs k)) (.ret (.i k) []) (.stop zJd1 {n:=19,fr:=[(0,.p (.lst .val vs)),(1,.x (.c (.fn (.func 107) [] []))),(4,.i 0),(7,.i vs.length),(8,.i (IntKind.wrap .i64 ((k:Int)+1)))],ck:=[]}))) (.ret (.i (-1:Int)) [])) ?_
  refine⟨fun hlt=>?_,fun hge=>⟨?_,rfl⟩⟩
  · have hk':k<vs.length:=by have:=of_decide_eq_true hlt;omega
    rw[bx (t:=.val) hk']
    refine⟨by omega,?_⟩
    generalize ETy.get .val vs k=v
    refine⟨fun hb=>⟨?_,rfl⟩,fun hb=>?_⟩
    · have hb':(!vR v)=true:=hb
      simp only[ay,hb',cond_true]
    · have hb':(!vR v)=false:=hb
      simp only[ay,hb',cond_false]
      rw[aZ (aG hk' hl)]
      first
      |(exfalso;omega)
      |exact ih (k+1) (by omega) (by omega)
  ·rw[bS (by have:=of_decide_eq_false hge;omega)];rfl
theorem P5:ah Tryz.prog 174 [.l .val vs,.c (.fn (.func 107) [] [])] [] (.x (.i (ay (fun v:Val=>!vR v) vs 0))) []:=by
 refine dg xB Tryz.func174 (.stop zJd1 {n:=19,fr:=[(0,.p (.lst .val vs)),(1,.x (.c (.fn (.func 107) [] []))),(4,.i 0),(7,.i vs.length),(8,.i 0)],ck:=[]}) fun Γ=>?_
 exact J.len 0 rfl fun hl=>P4 vs Γ hl vs.length 0 (by omega) (by omega)
def eIv:Ent:=(174,fun
 |[.c (.pd (.lst .val vs)),.c (.fn (.func 107) [] [])],[]=>some (none,.x (.c (.pd (.int .i64 (ay (fun v:Val=>!vR v) vs 0)))),[])
 |_,_=>none)
theorem RE:EntOk Tryz.prog eIv:=entOk fun vs ck=>by
 unfold eIv;dsimp only;split
 ·rename_i vs;exact entS fun hp=>P5 vs
 ·exact entN
def Ib:Cfg:=⟨aU,[eIv]⟩
theorem Ic:ag Tryz.prog Ib.tab:=(ag.cons RE ag.nil)
theorem Pa:ah Tryz.prog 106 [.l .val vs,.c (.fn (.func 107) [] [])] [] (.x (.b (vs.any fun v=>!vR v))) []:=by
 refine dg Ic Tryz.func106 (.ret (.p (.bool (decide (ay (fun v=>!vR v) vs (0:Int)≥0)))) []) fun Γ=>⟨?_,rfl⟩
 rw[iO _ _ _ (by omega)]
def eCv:Ent:=(106,fun
 |[.c (.pd (.lst .val vs)),.c (.fn (.func 107) [] [])],[]=>some (none,.x (.c (.pd (.bool (vs.any fun v=>!vR v)))),[])
 |_,_=>none)
theorem Rv:EntOk Tryz.prog eCv:=entOk fun vs ck=>by
 unfold eCv;dsimp only;split
 ·rename_i vs;exact entS fun hp=>Pa vs
 ·exact entN
theorem Mu(vs:List Var)(c:Cell)(Γ:Ctx)(hl:vs.length≤maxLen):∀(n k:Nat),vs.length - k≤n→k≤vs.length →
 J Tryz.prog 112 (ar Tryz.f112) Γ (Eq2 (.x (.i (ay (fun v:Var=>v.name==c.name) (vs.drop k) k))) []) zJd1 ({n:=19,fr:=[(0,.p (.lst .var vs)),(1,.x (.c (.fn (.func 113) [] [.pd (.ref .cell c 0)]))),(4,.i 0),(7,.i vs.length),(8,.i k)],ck:=[]}):=by
 intro n
 induction n with
 |zero=>?_
 |succ n ih=>?_
 all_goals
  intro k hn hk
  refine jg xC Tryz.func112 (.ite (decide ((k:Int)<(vs.length:Int))) (.need (inRg k vs.length) (.ite (Var.name (ETy.get .var vs k)==c.name) (.ret (.i k) []) (.stop zJd1 {n:=19,fr:=[(0,.p (.lst .var vs)),(1,.x (.c (.fn (.func 113) [] [.pd (.ref .cell c 0)]))),(4,.i 0),(7,.i vs.length),(8,.i (IntKind.wrap .i64 ((k:Int)+1)))],ck:=[]}))) (.ret (.i (-1:Int)) [])) ?_
  refine⟨fun hlt=>?_,fun hge=>⟨?_,rfl⟩⟩
  · have hk':k<vs.length:=by have:=of_decide_eq_true hlt;omega
    rw[bx (t:=.var) hk']
    refine⟨by omega,?_⟩
    generalize ETy.get .var vs k=v
    refine⟨fun hb=>⟨?_,rfl⟩,fun hb=>?_⟩
    ·simp only[ay,hb,cond_true]
    · simp only[ay,hb,cond_false]
      rw[aZ (aG hk' hl)]
      first
      |(exfalso;omega)
      |exact ih (k+1) (by omega) (by omega)
  ·rw[bS (by have:=of_decide_eq_false hge;omega)];rfl
theorem Mv(vs:List Var)(c:Cell):ah Tryz.prog 112 [.l .var vs,.c (.fn (.func 113) [] [.pd (.ref .cell c 0)])] [] (.x (.i (ay (fun v:Var=>v.name==c.name) vs 0))) []:=by
 refine dg xC Tryz.func112 (.stop zJd1 {n:=19,fr:=[(0,.p (.lst .var vs)),(1,.x (.c (.fn (.func 113) [] [.pd (.ref .cell c 0)]))),(4,.i 0),(7,.i vs.length),(8,.i 0)],ck:=[]}) fun Γ=>?_
 exact J.len 0 rfl fun hl=>Mu vs c Γ hl vs.length 0 (by omega) (by omega)
def FP:Ent:=(112,fun
 |[.c (.pd (.lst .var vs)),.c (.fn (.func 113) [] [.pd (.ref .cell c 0)])],[]=>some (none,.x (.c (.pd (.int .i64 (ay (fun v:Var=>v.name==c.name) vs 0)))),[])
 |_,_=>none)
theorem Pt:EntOk Tryz.prog FP:=entOk fun vs ck=>by
 unfold FP;dsimp only;split
 ·rename_i vs c;exact entS fun hp=>Mv vs c
 ·exact entN
def Fh:Cfg:=⟨aU,[oF,eCv,eSc,FP,oM,mH,FY,BQ]⟩
theorem Bb:ag Tryz.prog Fh.tab:=(ag.cons qp (ag.cons Rv (ag.cons uW (ag.cons Pt (ag.cons qw (ag.cons pq (ag.cons PB (ag.cons Er ag.nil))))))))
variable(l:List Cell)(vs:List Var)(vals:List Val)(act:List Str)(Γ:Ctx)(Q:Out)
abbrev EoJ(l:List Cell)(vs:List Var)(vals:List Val)(act:List Str)(k:Int)(st:List Val):Prop :=
 J Tryz.prog 63 (ar Tryz.f63) Γ Q [.code [1,1,1,1,0,1,0,0],.inLoop [1,1,1,1,0,1,0,0],.inBlock 0,.code [1,1,1,1,1]] ({n:=129,fr:=[(1,.p (.lst .var vs)),(2,.p (.lst .val vals)),(3,.p (.lst .str act)),(8,.x (.c (.loc 0 0))),(9,.i 0),(10,.x (.c (.own 1))),(31,.p (.lst .cell l)),(32,.i l.length),(33,.i k)],ck:=[.cells [.pd (.int .i64 0),.pd (.int .i64 0),.pd (.int .i64 0)] 83,.own 83 .val st]})
theorem PT(k:Nat)(st:List Val)(Γ:Ctx)(Q:Out)
 (h:Tree.J Tryz.prog 63 (ar Tryz.f63) Γ Q (let x7:=(↑(List.length st):Int);let x12:=(IntKind.wrap .i64 (x7 - (1:Int)));let x21:=(ETy.get .val st (Int.toNat x12));let x1:Val:={kind:=Val.kind x21,a:=Val.a x21,b:=Val.b x21};let x17:=((0:Int)≤IntKind.wrap .i64 (x7 - (1:Int))∧IntKind.wrap .i64 (x7 - (1:Int))<x7);let x27:=(Int.toNat x12<List.length st);let x9:=(Cell.op (ETy.get .cell l k));let x24:=(Prod.fst (bI x9 x1));let x15:=(List.take (Int.toNat x12) st++[{kind:=Val.kind x24,a:=Val.a x24,b:=Val.b x24}]);let x8:List PI:=[.code [1,1,1,1,0,1,0,0],.inLoop [1,1,1,1,0,1,0,0],.inBlock 0,.code [1,1,1,1,1]];let x23:=(↑(List.length l):Int);let x4:List (Nat×SV):=[(1,.p (.lst .var vs)),(2,.p (.lst .val vals)),(3,.p (.lst .str act)),(8,.x (.c (.loc 0 0))),(9,.i (0:Int)),(10,.x (.c (.own 1))),(31,.p (.lst .cell l)),(32,.i x23),(33,.i (IntKind.wrap .i64 ((↑k:Int)+(1:Int))))];let x2:Tree:=(.need x17 (.need x27 (.need (vOk x1=true) (.need ((0:Int)≤IntKind.wrap .i64 (x7 - (1:Int))∧IntKind.wrap .i64 (x7 - (1:Int))≤x7) (.ite (Prod.snd (bI x9 x1) != (0:Int)) (.ret (.tup [.agg [.i (0:Int),.i (0:Int),.i (0:Int)],.i (Prod.snd (bI x9 x1))]) []) (.need (room (List.length x15) 24) (.stop x8 {n:=129,fr:=x4,ck:=[.cells [.i (0:Int),.i (0:Int),.i (0:Int)] 83,.own 83 .val x15]})))))));let x26:=(IntKind.wrap .i64 (x7 - (2:Int)));let x16:=(Int.toNat x26);let x3:Val:={kind:=Val.kind (ETy.get .val st x16),a:=Val.a (ETy.get .val st x16),b:=Val.b (ETy.get .val st x16)};let x5:Cell:={op:=Cell.op (ETy.get .cell l k),a:=Cell.a (ETy.get .cell l k),name:=Cell.name (ETy.get .cell l k)};let x10:Tree:=(.ret (.tup [.agg [.i (0:Int),.i (0:Int),.i (0:Int)],.i (0:Int)]) []);let x25:=(Cell.op (ETy.get .cell l k)==(3:Int));let x11:=(bn x25);let x20:=(st++[{kind:=Val.kind x11,a:=Val.a x11,b:=Val.b x11}]);let x6:Tree:=(.ite false x10 (.need (room (List.length x20) 24) (.stop x8 {n:=129,fr:=x4,ck:=[.cells [.i (0:Int),.i (0:Int),.i (0:Int)] 83,.own 83 .val x20]})));let x22:=(Prod.fst (cP x9 x3 x1));let x13:=(List.take x16 st++[{kind:=Val.kind x22,a:=Val.a x22,b:=Val.b x22}]);let x14:=(cW (Cell.a (ETy.get .cell l k)));let x18:=(st++[{kind:=(3:Int),a:=(0:Int),b:=Cell.a (ETy.get .cell l k)}]);let x19:=(st++[{kind:=Val.kind x14,a:=Val.a x14,b:=Val.b x14}]);.ite (decide ((↑k:Int)<x23)) (.need ((0:Int)≤(↑k:Int)∧(↑k:Int)<x23) (.ite (Cell.op (ETy.get .cell l k)==(1:Int)) (.ite false x10 (.need (room (List.length x19) 24) (.stop x8 {n:=129,fr:=x4,ck:=[.cells [.i (0:Int),.i (0:Int),.i (0:Int)] 83,.own 83 .val x19]}))) (.ite (Cell.op (ETy.get .cell l k)==(2:Int)) (.ite false x10 (.need (room (List.length x18) 24) (.stop x8 {n:=129,fr:=x4,ck:=[.cells [.i (0:Int),.i (0:Int),.i (0:Int)] 83,.own 83 .val x18]}))) (.ite x25 x6 (.ite (Cell.op (ETy.get .cell l k)==(4:Int)) x6 (.ite (Cell.op (ETy.get .cell l k)==(6:Int)) (.ite false x10 (.need (room (List.length (st++[{kind:=Val.kind (bn (List.any act fun x=>Cell.name (ETy.get .cell l k)==x)),a:=Val.a (bn (List.any act fun x=>Cell.name (ETy.get .cell l k)==x)),b:=Val.b (bn (List.any act fun x=>Cell.name (ETy.get .cell l k)==x))}])) 24) (.stop x8 {n:=129,fr:=x4,ck:=[.cells [.i (0:Int),.i (0:Int),.i (0:Int)] 83,.own 83 .val (st++[{kind:=Val.kind (bn (List.any act fun x=>Cell.name (ETy.get .cell l k)==x)),a:=Val.a (bn (List.any act fun x=>Cell.name (ETy.get .cell l k)==x)),b:=Val.b (bn (List.any act fun x=>Cell.name (ETy.get .cell l k)==x))}])]}))) (.ite (Cell.op (ETy.get .cell l k)==(5:Int)) (.ite (decide (ay (fun v=>Var.name v==Cell.name x5) vs (0:Int)<(0:Int))) (.ret (.tup [.agg [.i (0:Int),.i (0:Int),.i (0:Int)],.i (2:Int)]) []) (.need ((0:Int)≤ay (fun v=>Var.name v==Cell.name x5) vs (0:Int)∧ay (fun v=>Var.name v==Cell.name x5) vs (0:Int)<(↑(List.length vals):Int)) (.ite false x10 (.need (room (List.length (st++[{kind:=Val.kind (ETy.get .val vals (Int.toNat (ay (fun v=>Var.name v==Cell.name x5) vs (0:Int)))),a:=Val.a (ETy.get .val vals (Int.toNat (ay (fun v=>Var.name v==Cell.name x5) vs (0:Int)))),b:=Val.b (ETy.get .val vals (Int.toNat (ay (fun v=>Var.name v==Cell.name x5) vs (0:Int))))}])) 24) (.stop x8 {n:=129,fr:=x4,ck:=[.cells [.i (0:Int),.i (0:Int),.i (0:Int)] 83,.own 83 .val (st++[{kind:=Val.kind (ETy.get .val vals (Int.toNat (ay (fun v=>Var.name v==Cell.name x5) vs (0:Int)))),a:=Val.a (ETy.get .val vals (Int.toNat (ay (fun v=>Var.name v==Cell.name x5) vs (0:Int)))),b:=Val.b (ETy.get .val vals (Int.toNat (ay (fun v=>Var.name v==Cell.name x5) vs (0:Int))))}])]}))))) (.ite (Cell.op (ETy.get .cell l k)==(7:Int)) x2 (.ite (Cell.op (ETy.get .cell l k)==(8:Int)) x2 (.ite (Cell.op (ETy.get .cell l k)==(9:Int)) x2 (.ite (Cell.op (ETy.get .cell l k)==(10:Int)) x2 (.need ((0:Int)≤IntKind.wrap .i64 (x7 - (2:Int))∧IntKind.wrap .i64 (x7 - (2:Int))<x7) (.need (Int.toNat x26<List.length st) (.need x17 (.need x27 (.need (((11:Int)≤Cell.op (ETy.get .cell l k)∧Cell.op (ETy.get .cell l k)≤(23:Int))∧vOk x3=true∧vOk x1=true) (.need ((0:Int)≤IntKind.wrap .i64 (x7 - (2:Int))∧IntKind.wrap .i64 (x7 - (2:Int))≤x7) (.ite (Prod.snd (cP x9 x3 x1) != (0:Int)) (.ret (.tup [.agg [.i (0:Int),.i (0:Int),.i (0:Int)],.i (Prod.snd (cP x9 x3 x1))]) []) (.need (room (List.length x13) 24) (.stop x8 {n:=129,fr:=x4,ck:=[.cells [.i (0:Int),.i (0:Int),.i (0:Int)] 83,.own 83 .val x13]})))))))))))))))))))) (.need ((0:Int)≤(0:Int)∧(0:Int)<x7) (.need (0<List.length st) (.ret (.tup [.agg [.i (Val.kind (ETy.get .val st 0)),.i (Val.a (ETy.get .val st 0)),.i (Val.b (ETy.get .val st 0))],.i (0:Int)]) []))))):EoJ Γ Q l vs vals act k st :=
 J.go (cfg:=Fh) Bb Tryz.func63 1000 (by kernel_rfl) h
theorem L6{ret:SV}
 (h1:dH l=false→ret = .tup [.agg [.i 0,.i 0,.i 0],.i 1])
 (h2:dH l=true→(((vs.length:Int) != (vals.length:Int))||vals.any fun v=>!vR v)=true→ret = .tup [.agg [.i 0,.i 0,.i 0],.i 12])
 (h3:dH l=true→(((vs.length:Int) != (vals.length:Int))||vals.any fun v=>!vR v)=false→∀Γ,EoJ Γ (Eq2 ret []) l vs vals act (0:Nat) []) :
 ah Tryz.prog 63 [.l .cell l,.l .var vs,.l .val vals,.l .str act] [] ret []:=by
 refine dg Bb Tryz.func63 (.ite (!dH l) (.ret (.tup [.agg [.i 0,.i 0,.i 0],.i 1]) []) (.ite ((vs.length:Int) != (vals.length:Int)||List.any vals fun v=>!vR v) (.ret (.tup [.agg [.i 0,.i 0,.i 0],.i 12]) []) (.stop [.code [1,1,1,1,0,1,0,0],.inLoop [1,1,1,1,0,1,0,0],.inBlock 0,.code [1,1,1,1,1]] {n:=129,fr:=[(1,.p (.lst .var vs)),(2,.p (.lst .val vals)),(3,.p (.lst .str act)),(8,.x (.c (.loc 0 0))),(9,.i 0),(10,.p (.v (Value.slice none 0 0))),(31,.p (.lst .cell l)),(32,.i l.length),(33,.i 0)],ck:=[.cells [.i 0,.i 0,.i 0] 83]}))) fun Γ=>?_
 refine⟨fun h=>?_,fun h=>⟨fun h'=>?_,fun h'=>?_⟩⟩
 ·rw[h1 (by simpa using h)];exact⟨rfl,rfl⟩
 ·rw[h2 (by simpa using h) h'];exact⟨rfl,rfl⟩
 · refine J.nilOwn 10 83 .val rfl rfl ?_
   exact h3 (by simpa using h) h' Γ
def gC (vs : List Var) (vals : List Val) (act : List Str) (c : Cell) : Val × Int :=
 if c.op = 1 then (cW c.a, 0) else if c.op = 2 then (⟨3, 0, c.a⟩, 0) else if c.op = 3 ∨ c.op = 4 then (bn (c.op == 3), 0)
 else if c.op = 6 then (bn (act.any fun x => c.name == x), 0)
 else if ay (fun v : Var => v.name == c.name) vs 0 < 0 then (Val.zero, 2)
 else (ETy.get .val vals (ay (fun v : Var => v.name == c.name) vs 0).toNat, 0)
def je (vs : List Var) (vals : List Val) (act : List Str) (c : Cell) (st : List Val) : (Val × Int) × List Val :=
 if c.op < 7 then (gC vs vals act c, st) else if c.op < 11 then (bI c.op (st.headD Val.zero), st.drop 1) else (cP c.op (st.getD 1 Val.zero) (st.headD Val.zero), st.drop 2)
def fS (vs : List Var) (vals : List Val) (act : List Str) : List Cell → List Val → Val × Int
 | [], st => (st.headD Val.zero, 0)
 | c :: l, st => if (je vs vals act c st).1.2 ≠ 0 then (Val.zero, (je vs vals act c st).1.2) else fS vs vals act l ((je vs vals act c st).1.1 :: (je vs vals act c st).2)
def ny (vs : List Var) (vals : List Val) : Bool := ((vs.length : Int) != (vals.length : Int)) || vals.any fun v => !vR v
def eE (l : List Cell) (vs : List Var) (vals : List Val) (act : List Str) : Val × Int :=
 if dH l = false then (Val.zero, 1) else if ny vs vals = true then (Val.zero, 12) else fS vs vals act l []
def Tm.val (vs : List Var) (vals : List Val) (act : List Str) : Tm → Val × Int
 | .leaf c => gC vs vals act c
 | .un c t => if (t.val vs vals act).2 ≠ 0 then (Val.zero, (t.val vs vals act).2) else bI c.op (t.val vs vals act).1
 | .bin c t u => if (t.val vs vals act).2 ≠ 0 then (Val.zero, (t.val vs vals act).2) else if (u.val vs vals act).2 ≠ 0 then (Val.zero, (u.val vs vals act).2) else cP c.op (t.val vs vals act).1 (u.val vs vals act).1
def Plain (r : Val × Int) : Prop := r.2 ≠ 0 → r.1 = Val.zero
theorem Plain.ok {v : Val} : Plain (v, 0) := fun h => absurd rfl h
theorem Plain.err {e : Int} : Plain (Val.zero, e) := fun _ => rfl
theorem Plain.ite {c : Prop} [Decidable c] {x y : Val × Int} (hx : Plain x) (hy : Plain y) : Plain (if c then x else y) := by
 by_cases h : c
 · rw [if_pos h]; exact hx
 · rw [if_neg h]; exact hy
theorem vZ (c : Cell) (h : aV c = 0) : (c.op = 1 ∧ 0 ≤ c.a ∧ c.a ≤ 1099511627776) ∨ (c.op = 2 ∧ 0 ≤ c.a ∧ c.a ≤ 1048576) ∨ c.op = 3 ∨ c.op = 4 ∨ c.op = 5 ∨ c.op = 6 := by
 revert h
 unfold aV cV
 simp only [cond_eq_ite, beq_iff_eq, Bool.or_eq_true, decide_eq_true_eq, bne_iff_ne]
 intro h
 (repeat' split at h) <;> omega
theorem HI {vs : List Var} {vals : List Val} (h : ny vs vals = false) : vs.length = vals.length ∧ ∀ v ∈ vals, vR v = true := by
 simp only [ny, Bool.or_eq_false_iff, bne_eq_false_iff_eq, List.any_eq_false, Bool.not_eq_true', Bool.not_eq_false] at h
 exact ⟨by omega, h.2⟩
theorem Jo {vs : List Var} {vals : List Val} (act : List Str) {c : Cell} (hc : aV c = 0) (hl : vs.length = vals.length) (hv : ∀ v ∈ vals, vOk v = true) : (gC vs vals act c).2 = 0 → vOk (gC vs vals act c).1 = true := by
 have hw := vZ c hc
 unfold gC
 by_cases h1 : c.op = 1
 · rw [if_pos h1]; intro _
   refine sj (eZ.2 ?_)
   omega
 rw [if_neg h1]
 by_cases h2 : c.op = 2
 · rw [if_pos h2]; intro _
   have h3 : pIn c.a = true := by simp only [pIn, Bool.and_eq_true, decide_eq_true_eq]; omega
   have h4 : pIn 0 = true := by decide
   have h5 : i64 0 = true := by decide
   simp [vOk, vR, h3, h4, h5]
 rw [if_neg h2]
 by_cases h3 : c.op = 3 ∨ c.op = 4
 · rw [if_pos h3]; intro _; exact nZ _
 rw [if_neg h3]
 by_cases h6 : c.op = 6
 · rw [if_pos h6]; intro _; exact nZ _
 rw [if_neg h6]
 rcases ij (fun v : Var => v.name == c.name) vs 0 with ⟨g1, _⟩ | ⟨k, x, g1, g2, _⟩
 · simp only [Int.natCast_zero] at g1
   rw [g1]
   intro h; simp at h
 · simp only [Int.natCast_zero, Nat.zero_add] at g1
   have hk := (List.getElem?_eq_some_iff.1 g2).1
   rw [g1, if_neg (by omega), Int.toNat_natCast]
   intro _
   have hk' : k < vals.length := by omega
   rw [ETy.get_eq (t := .val) (List.getElem?_eq_getElem hk')]
   exact hv _ (List.getElem_mem hk')
def Own (r : Val × Int) : Prop := r.2 ≠ 12 ∧ r.2 ≠ 1
theorem Own.ite {c : Prop} [Decidable c] {x y : Val × Int} (hx : Own x) (hy : Own y) : Own (if c then x else y) := by
 by_cases h : c
 · rw [if_pos h]; exact hx
 · rw [if_neg h]; exact hy
end Go.Proofs.YtlhgnjmdopjpeaaGreatDoor
