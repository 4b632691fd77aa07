/- Contracts: what eval's searches find. Conditions: none. One step of eval's loop over a list. Conditions: none. Plain laws: values of lists of cells, of trees. Conditions: each theorem's own. -/
import Derived.Test.YtlhgnjmdopjpeaaGreatDoorTh
import Derived.Test.YtlhgnjmdopjpeaaGreatDoorTn
import Derived.Test.YtlhgnjmdopjpeaaGreatDoorJb
namespace Go.Proofs.YtlhgnjmdopjpeaaGreatDoor
open Go Go.Ev
set_option maxRecDepth 100000
def HC:Cfg:=⟨aX,[mI]⟩
theorem HD:ah Tryz.prog HC.tab:=(ah.cons sC ah.nil)
theorem Fy(v:Val):ag Tryz.prog 107 [.e .val v] [] (.x (.b (!vR v))) []:=by
 refine dg HD Tryz.func107 (.ret (.p (.bool !vR v)) []) fun Γ=>⟨rfl,rfl⟩
def ug:Ent:=(107,fun
 |[.agg [.pd (.int .i64 a),.pd (.int .i64 b),.pd (.int .i64 d)]],[]=>some (none,.x (.c (.pd (.bool (!vR ⟨a,b,d⟩)))),[])
 |_,_=>none)
theorem Ih:EntOk Tryz.prog ug:=entOk fun vs ck=>by
 unfold ug;dsimp only;split
 ·rename_i a b d;exact entS fun hp=>Fy ⟨a,b,d⟩
 ·exact entN
theorem Fz(v:Var)(c:Cell):ag Tryz.prog 113 [.e .var v,.p (.ref .cell c 0)] [] (.x (.b (v.name==c.name))) []:=by
 refine dg aV Tryz.func113 (.ret (.p (.bool (v.name==c.name))) []) fun Γ=>⟨rfl,rfl⟩
def uh:Ent:=(113,fun
 |[.agg [.pd (.str a),.pd (.int .i64 b),.pd (.int .i64 d),.pd (.int .i64 e),.pd (.int .i64 f),.pd (.int .i64 g),.pd (.int .i64 h)],.c (.pd (.ref .cell c 0))],[]=>some (none,.x (.c (.pd (.bool (a==c.name)))),[])
 |_,_=>none)
theorem Ii:EntOk Tryz.prog uh:=entOk fun vs ck=>by
 unfold uh;dsimp only;split
 ·rename_i a b d e f g h c;exact entS fun hp=>Fz ⟨a,b,d,e,⟨f,g,h⟩⟩ c
 ·exact entN
def AH:Cfg:=⟨aX,[ug]⟩
theorem w9:ah Tryz.prog AH.tab:=(ah.cons Ih ah.nil)
def AI:Cfg:=⟨aX,[uh]⟩
theorem xc:ah Tryz.prog AI.tab:=(ah.cons Ii ah.nil)
abbrev zJd1:List PI:=[.code [1,0,1,0,0],.inLoop [1,0,1,0,0],.inBlock 0,.code [1,1]]
variable(vs:List Val)(Γ:Ctx)
theorem Pp(hl:vs.length≤maxLen):∀(n k:Nat),vs.length - k≤n→k≤vs.length →
 J Tryz.prog 174 (aB Tryz.f174) Γ (Eq2 (.x (.i (ax (fun v:Val=>!vR v) (vs.drop k) k))) []) zJd1 ({n:=19,fr:=[(0,.p (.lst .val vs)),(1,.x (.c (.fn (.func 107) [] []))),(4,.i 0),(7,.i vs.length),(8,.i k)],ck:=[]}):=by
 intro n
 induction n with
 |zero=>?_
 |succ n ih=>?_
 all_goals
  intro k hn hk
  refine jg w9 Tryz.func174 (.ite (decide ((k:Int)<(vs.length:Int))) (.need (inRg k vs.length) (.ite (!vR (ETy.get .val vs k)) (.ret (.i k) []) (.stop zJd1 {n:=19,fr:=[(0,.p (.lst .val vs)),(1,.x (.c (.fn (.func 107) [] []))),(4,.i 0),(7,.i vs.length),(8,.i (IntKind.wrap .i64 ((k:Int)+1)))],ck:=[]}))) (.ret (.i (-1:Int)) [])) ?_
  refine⟨fun hlt=>?_,fun hge=>⟨?_,rfl⟩⟩
  · have hk':k<vs.length:=by have:=of_decide_eq_true hlt;omega
    rw[bK (t:=.val) hk']
    refine⟨by omega,?_⟩
    generalize ETy.get .val vs k=v
    refine⟨fun hb=>⟨?_,rfl⟩,fun hb=>?_⟩
    · have hb':(!vR v)=true:=hb
      simp only[ax,hb',cond_true]
    · have hb':(!vR v)=false:=hb
      simp only[ax,hb',cond_false]
      rw[ba (aK hk' hl)]
      first
      |(exfalso;omega)
      |exact ih (k+1) (by omega) (by omega)
  ·rw[bZ (by have:=of_decide_eq_false hge;omega)];rfl
theorem Pq:ag Tryz.prog 174 [.l .val vs,.c (.fn (.func 107) [] [])] [] (.x (.i (ax (fun v:Val=>!vR v) vs 0))) []:=by
 refine dg w9 Tryz.func174 (.stop zJd1 {n:=19,fr:=[(0,.p (.lst .val vs)),(1,.x (.c (.fn (.func 107) [] []))),(4,.i 0),(7,.i vs.length),(8,.i 0)],ck:=[]}) fun Γ=>?_
 exact J.len 0 rfl fun hl=>Pp vs Γ hl vs.length 0 (by omega) (by omega)
def eIv:Ent:=(174,fun
 |[.c (.pd (.lst .val vs)),.c (.fn (.func 107) [] [])],[]=>some (none,.x (.c (.pd (.int .i64 (ax (fun v:Val=>!vR v) vs 0)))),[])
 |_,_=>none)
theorem Q2:EntOk Tryz.prog eIv:=entOk fun vs ck=>by
 unfold eIv;dsimp only;split
 ·rename_i vs;exact entS fun hp=>Pq vs
 ·exact entN
def Hm:Cfg:=⟨aX,[eIv]⟩
theorem Hn:ah Tryz.prog Hm.tab:=(ah.cons Q2 ah.nil)
theorem Om:ag Tryz.prog 106 [.l .val vs,.c (.fn (.func 107) [] [])] [] (.x (.b (vs.any fun v=>!vR v))) []:=by
 refine dg Hn Tryz.func106 (.ret (.p (.bool (decide (ax (fun v=>!vR v) vs (0:Int)≥0)))) []) fun Γ=>⟨?_,rfl⟩
 rw[iI _ _ _ (by omega)]
def eCv:Ent:=(106,fun
 |[.c (.pd (.lst .val vs)),.c (.fn (.func 107) [] [])],[]=>some (none,.x (.c (.pd (.bool (vs.any fun v=>!vR v)))),[])
 |_,_=>none)
theorem QU:EntOk Tryz.prog eCv:=entOk fun vs ck=>by
 unfold eCv;dsimp only;split
 ·rename_i vs;exact entS fun hp=>Om vs
 ·exact entN
theorem LR(vs:List Var)(c:Cell)(Γ:Ctx)(hl:vs.length≤maxLen):∀(n k:Nat),vs.length - k≤n→k≤vs.length →
 J Tryz.prog 112 (aB Tryz.f112) Γ (Eq2 (.x (.i (ax (fun v:Var=>v.name==c.name) (vs.drop k) k))) []) zJd1 ({n:=19,fr:=[(0,.p (.lst .var vs)),(1,.x (.c (.fn (.func 113) [] [.pd (.ref .cell c 0)]))),(4,.i 0),(7,.i vs.length),(8,.i k)],ck:=[]}):=by
 intro n
 induction n with
 |zero=>?_
 |succ n ih=>?_
 all_goals
  intro k hn hk
  refine jg xc Tryz.func112 (.ite (decide ((k:Int)<(vs.length:Int))) (.need (inRg k vs.length) (.ite (Var.name (ETy.get .var vs k)==c.name) (.ret (.i k) []) (.stop zJd1 {n:=19,fr:=[(0,.p (.lst .var vs)),(1,.x (.c (.fn (.func 113) [] [.pd (.ref .cell c 0)]))),(4,.i 0),(7,.i vs.length),(8,.i (IntKind.wrap .i64 ((k:Int)+1)))],ck:=[]}))) (.ret (.i (-1:Int)) [])) ?_
  refine⟨fun hlt=>?_,fun hge=>⟨?_,rfl⟩⟩
  · have hk':k<vs.length:=by have:=of_decide_eq_true hlt;omega
    rw[bK (t:=.var) hk']
    refine⟨by omega,?_⟩
    generalize ETy.get .var vs k=v
    refine⟨fun hb=>⟨?_,rfl⟩,fun hb=>?_⟩
    ·simp only[ax,hb,cond_true]
    · simp only[ax,hb,cond_false]
      rw[ba (aK hk' hl)]
      first
      |(exfalso;omega)
      |exact ih (k+1) (by omega) (by omega)
  ·rw[bZ (by have:=of_decide_eq_false hge;omega)];rfl
theorem LS(vs:List Var)(c:Cell):ag Tryz.prog 112 [.l .var vs,.c (.fn (.func 113) [] [.pd (.ref .cell c 0)])] [] (.x (.i (ax (fun v:Var=>v.name==c.name) vs 0))) []:=by
 refine dg xc Tryz.func112 (.stop zJd1 {n:=19,fr:=[(0,.p (.lst .var vs)),(1,.x (.c (.fn (.func 113) [] [.pd (.ref .cell c 0)]))),(4,.i 0),(7,.i vs.length),(8,.i 0)],ck:=[]}) fun Γ=>?_
 exact J.len 0 rfl fun hl=>LR vs c Γ hl vs.length 0 (by omega) (by omega)
def EW:Ent:=(112,fun
 |[.c (.pd (.lst .var vs)),.c (.fn (.func 113) [] [.pd (.ref .cell c 0)])],[]=>some (none,.x (.c (.pd (.int .i64 (ax (fun v:Var=>v.name==c.name) vs 0)))),[])
 |_,_=>none)
theorem OK:EntOk Tryz.prog EW:=entOk fun vs ck=>by
 unfold EW;dsimp only;split
 ·rename_i vs c;exact entS fun hp=>LS vs c
 ·exact entN
def Eo:Cfg:=⟨aX,[oy,eCv,eSc,EW,oE,mu,E8,Bl]⟩
theorem AJ:ah Tryz.prog Eo.tab:=(ah.cons qi (ah.cons QU (ah.cons uE (ah.cons OK (ah.cons qm (ah.cons pe (ah.cons OT (ah.cons DE ah.nil))))))))
variable(l:List Cell)(vs:List Var)(vals:List Val)(act:List Str)(Γ:Ctx)(Q:Out)
abbrev EoJ(l:List Cell)(vs:List Var)(vals:List Val)(act:List Str)(k:Int)(st:List Val):Prop :=
 J Tryz.prog 63 (aB Tryz.f63) Γ Q [.code [1,1,1,1,0,1,0,0],.inLoop [1,1,1,1,0,1,0,0],.inBlock 0,.code [1,1,1,1,1]] ({n:=129,fr:=[(1,.p (.lst .var vs)),(2,.p (.lst .val vals)),(3,.p (.lst .str act)),(8,.x (.c (.loc 0 0))),(9,.i 0),(10,.x (.c (.own 1))),(31,.p (.lst .cell l)),(32,.i l.length),(33,.i k)],ck:=[.cells [.pd (.int .i64 0),.pd (.int .i64 0),.pd (.int .i64 0)] 83,.own 83 .val st]})
theorem Pb(k:Nat)(st:List Val)(Γ:Ctx)(Q:Out)
 (h:Tree.J Tryz.prog 63 (aB Tryz.f63) Γ Q (let x7:=(↑(List.length st):Int);let x12:=(IntKind.wrap .i64 (x7 - (1:Int)));let x21:=(ETy.get .val st (Int.toNat x12));let x1:Val:={kind:=Val.kind x21,a:=Val.a x21,b:=Val.b x21};let x17:=((0:Int)≤IntKind.wrap .i64 (x7 - (1:Int))∧IntKind.wrap .i64 (x7 - (1:Int))<x7);let x27:=(Int.toNat x12<List.length st);let x9:=(Cell.op (ETy.get .cell l k));let x24:=(Prod.fst (bM x9 x1));let x15:=(List.take (Int.toNat x12) st++[{kind:=Val.kind x24,a:=Val.a x24,b:=Val.b x24}]);let x8:List PI:=[.code [1,1,1,1,0,1,0,0],.inLoop [1,1,1,1,0,1,0,0],.inBlock 0,.code [1,1,1,1,1]];let x23:=(↑(List.length l):Int);let x4:List (Nat×SV):=[(1,.p (.lst .var vs)),(2,.p (.lst .val vals)),(3,.p (.lst .str act)),(8,.x (.c (.loc 0 0))),(9,.i (0:Int)),(10,.x (.c (.own 1))),(31,.p (.lst .cell l)),(32,.i x23),(33,.i (IntKind.wrap .i64 ((↑k:Int)+(1:Int))))];let x2:Tree:=(.need x17 (.need x27 (.need (vOk x1=true) (.need ((0:Int)≤IntKind.wrap .i64 (x7 - (1:Int))∧IntKind.wrap .i64 (x7 - (1:Int))≤x7) (.ite (Prod.snd (bM x9 x1) != (0:Int)) (.ret (.tup [.agg [.i (0:Int),.i (0:Int),.i (0:Int)],.i (Prod.snd (bM x9 x1))]) []) (.need (room (List.length x15) 24) (.stop x8 {n:=129,fr:=x4,ck:=[.cells [.i (0:Int),.i (0:Int),.i (0:Int)] 83,.own 83 .val x15]})))))));let x26:=(IntKind.wrap .i64 (x7 - (2:Int)));let x16:=(Int.toNat x26);let x3:Val:={kind:=Val.kind (ETy.get .val st x16),a:=Val.a (ETy.get .val st x16),b:=Val.b (ETy.get .val st x16)};let x5:Cell:={op:=Cell.op (ETy.get .cell l k),a:=Cell.a (ETy.get .cell l k),name:=Cell.name (ETy.get .cell l k)};let x10:Tree:=(.ret (.tup [.agg [.i (0:Int),.i (0:Int),.i (0:Int)],.i (0:Int)]) []);let x25:=(Cell.op (ETy.get .cell l k)==(3:Int));let x11:=(bf x25);let x20:=(st++[{kind:=Val.kind x11,a:=Val.a x11,b:=Val.b x11}]);let x6:Tree:=(.ite false x10 (.need (room (List.length x20) 24) (.stop x8 {n:=129,fr:=x4,ck:=[.cells [.i (0:Int),.i (0:Int),.i (0:Int)] 83,.own 83 .val x20]})));let x22:=(Prod.fst (cL x9 x3 x1));let x13:=(List.take x16 st++[{kind:=Val.kind x22,a:=Val.a x22,b:=Val.b x22}]);let x14:=(cV (Cell.a (ETy.get .cell l k)));let x18:=(st++[{kind:=(3:Int),a:=(0:Int),b:=Cell.a (ETy.get .cell l k)}]);let x19:=(st++[{kind:=Val.kind x14,a:=Val.a x14,b:=Val.b x14}]);.ite (decide ((↑k:Int)<x23)) (.need ((0:Int)≤(↑k:Int)∧(↑k:Int)<x23) (.ite (Cell.op (ETy.get .cell l k)==(1:Int)) (.ite false x10 (.need (room (List.length x19) 24) (.stop x8 {n:=129,fr:=x4,ck:=[.cells [.i (0:Int),.i (0:Int),.i (0:Int)] 83,.own 83 .val x19]}))) (.ite (Cell.op (ETy.get .cell l k)==(2:Int)) (.ite false x10 (.need (room (List.length x18) 24) (.stop x8 {n:=129,fr:=x4,ck:=[.cells [.i (0:Int),.i (0:Int),.i (0:Int)] 83,.own 83 .val x18]}))) (.ite x25 x6 (.ite (Cell.op (ETy.get .cell l k)==(4:Int)) x6 (.ite (Cell.op (ETy.get .cell l k)==(6:Int)) (.ite false x10 (.need (room (List.length (st++[{kind:=Val.kind (bf (List.any act fun x=>Cell.name (ETy.get .cell l k)==x)),a:=Val.a (bf (List.any act fun x=>Cell.name (ETy.get .cell l k)==x)),b:=Val.b (bf (List.any act fun x=>Cell.name (ETy.get .cell l k)==x))}])) 24) (.stop x8 {n:=129,fr:=x4,ck:=[.cells [.i (0:Int),.i (0:Int),.i (0:Int)] 83,.own 83 .val (st++[{kind:=Val.kind (bf (List.any act fun x=>Cell.name (ETy.get .cell l k)==x)),a:=Val.a (bf (List.any act fun x=>Cell.name (ETy.get .cell l k)==x)),b:=Val.b (bf (List.any act fun x=>Cell.name (ETy.get .cell l k)==x))}])]}))) (.ite (Cell.op (ETy.get .cell l k)==(5:Int)) (.ite (decide (ax (fun v=>Var.name v==Cell.name x5) vs (0:Int)<(0:Int))) (.ret (.tup [.agg [.i (0:Int),.i (0:Int),.i (0:Int)],.i (2:Int)]) []) (.need ((0:Int)≤ax (fun v=>Var.name v==Cell.name x5) vs (0:Int)∧ax (fun v=>Var.name v==Cell.name x5) vs (0:Int)<(↑(List.length vals):Int)) (.ite false x10 (.need (room (List.length (st++[{kind:=Val.kind (ETy.get .val vals (Int.toNat (ax (fun v=>Var.name v==Cell.name x5) vs (0:Int)))),a:=Val.a (ETy.get .val vals (Int.toNat (ax (fun v=>Var.name v==Cell.name x5) vs (0:Int)))),b:=Val.b (ETy.get .val vals (Int.toNat (ax (fun v=>Var.name v==Cell.name x5) vs (0:Int))))}])) 24) (.stop x8 {n:=129,fr:=x4,ck:=[.cells [.i (0:Int),.i (0:Int),.i (0:Int)] 83,.own 83 .val (st++[{kind:=Val.kind (ETy.get .val vals (Int.toNat (ax (fun v=>Var.name v==Cell.name x5) vs (0:Int)))),a:=Val.a (ETy.get .val vals (Int.toNat (ax (fun v=>Var.name v==Cell.name x5) vs (0:Int)))),b:=Val.b (ETy.get .val vals (Int.toNat (ax (fun v=>Var.name v==Cell.name x5) vs (0:Int))))}])]}))))) (.ite (Cell.op (ETy.get .cell l k)==(7:Int)) x2 (.ite (Cell.op (ETy.get .cell l k)==(8:Int)) x2 (.ite (Cell.op (ETy.get .cell l k)==(9:Int)) x2 (.ite (Cell.op (ETy.get .cell l k)==(10:Int)) x2 (.need ((0:Int)≤IntKind.wrap .i64 (x7 - (2:Int))∧IntKind.wrap .i64 (x7 - (2:Int))<x7) (.need (Int.toNat x26<List.length st) (.need x17 (.need x27 (.need (((11:Int)≤Cell.op (ETy.get .cell l k)∧Cell.op (ETy.get .cell l k)≤(23:Int))∧vOk x3=true∧vOk x1=true) (.need ((0:Int)≤IntKind.wrap .i64 (x7 - (2:Int))∧IntKind.wrap .i64 (x7 - (2:Int))≤x7) (.ite (Prod.snd (cL x9 x3 x1) != (0:Int)) (.ret (.tup [.agg [.i (0:Int),.i (0:Int),.i (0:Int)],.i (Prod.snd (cL x9 x3 x1))]) []) (.need (room (List.length x13) 24) (.stop x8 {n:=129,fr:=x4,ck:=[.cells [.i (0:Int),.i (0:Int),.i (0:Int)] 83,.own 83 .val x13]})))))))))))))))))))) (.need ((0:Int)≤(0:Int)∧(0:Int)<x7) (.need (0<List.length st) (.ret (.tup [.agg [.i (Val.kind (ETy.get .val st 0)),.i (Val.a (ETy.get .val st 0)),.i (Val.b (ETy.get .val st 0))],.i (0:Int)]) []))))):EoJ Γ Q l vs vals act k st :=
 J.go (cfg:=Eo) AJ Tryz.func63 1000 (by kernel_rfl) h
theorem Lr{ret:SV}
 (h1:dD l=false→ret = .tup [.agg [.i 0,.i 0,.i 0],.i 1])
 (h2:dD l=true→(((vs.length:Int) != (vals.length:Int))||vals.any fun v=>!vR v)=true→ret = .tup [.agg [.i 0,.i 0,.i 0],.i 12])
 (h3:dD l=true→(((vs.length:Int) != (vals.length:Int))||vals.any fun v=>!vR v)=false→∀Γ,EoJ Γ (Eq2 ret []) l vs vals act (0:Nat) []) :
 ag Tryz.prog 63 [.l .cell l,.l .var vs,.l .val vals,.l .str act] [] ret []:=by
 refine dg AJ Tryz.func63 (.ite (!dD l) (.ret (.tup [.agg [.i 0,.i 0,.i 0],.i 1]) []) (.ite ((vs.length:Int) != (vals.length:Int)||List.any vals fun v=>!vR v) (.ret (.tup [.agg [.i 0,.i 0,.i 0],.i 12]) []) (.stop [.code [1,1,1,1,0,1,0,0],.inLoop [1,1,1,1,0,1,0,0],.inBlock 0,.code [1,1,1,1,1]] {n:=129,fr:=[(1,.p (.lst .var vs)),(2,.p (.lst .val vals)),(3,.p (.lst .str act)),(8,.x (.c (.loc 0 0))),(9,.i 0),(10,.p (.v (Value.slice none 0 0))),(31,.p (.lst .cell l)),(32,.i l.length),(33,.i 0)],ck:=[.cells [.i 0,.i 0,.i 0] 83]}))) fun Γ=>?_
 refine⟨fun h=>?_,fun h=>⟨fun h'=>?_,fun h'=>?_⟩⟩
 ·rw[h1 (by simpa using h)];exact⟨rfl,rfl⟩
 ·rw[h2 (by simpa using h) h'];exact⟨rfl,rfl⟩
 · refine J.nilOwn 10 83 .val rfl rfl ?_
   exact h3 (by simpa using h) h' Γ
def gr (vs : List Var) (vals : List Val) (act : List Str) (c : Cell) : Val × Int :=
 if c.op = 1 then (cV c.a, 0) else if c.op = 2 then (⟨3, 0, c.a⟩, 0) else if c.op = 3 ∨ c.op = 4 then (bf (c.op == 3), 0)
 else if c.op = 6 then (bf (act.any fun x => c.name == x), 0)
 else if ax (fun v : Var => v.name == c.name) vs 0 < 0 then (Val.zero, 2)
 else (ETy.get .val vals (ax (fun v : Var => v.name == c.name) vs 0).toNat, 0)
def ja (vs : List Var) (vals : List Val) (act : List Str) (c : Cell) (st : List Val) : (Val × Int) × List Val :=
 if c.op < 7 then (gr vs vals act c, st) else if c.op < 11 then (bM c.op (st.headD Val.zero), st.drop 1) else (cL c.op (st.getD 1 Val.zero) (st.headD Val.zero), st.drop 2)
def fL (vs : List Var) (vals : List Val) (act : List Str) : List Cell → List Val → Val × Int
 | [], st => (st.headD Val.zero, 0)
 | c :: l, st => if (ja vs vals act c st).1.2 ≠ 0 then (Val.zero, (ja vs vals act c st).1.2) else fL vs vals act l ((ja vs vals act c st).1.1 :: (ja vs vals act c st).2)
def nh (vs : List Var) (vals : List Val) : Bool := ((vs.length : Int) != (vals.length : Int)) || vals.any fun v => !vR v
def eA (l : List Cell) (vs : List Var) (vals : List Val) (act : List Str) : Val × Int :=
 if dD l = false then (Val.zero, 1) else if nh vs vals = true then (Val.zero, 12) else fL vs vals act l []
def Tm.val (vs : List Var) (vals : List Val) (act : List Str) : Tm → Val × Int
 | .leaf c => gr vs vals act c
 | .un c t => if (t.val vs vals act).2 ≠ 0 then (Val.zero, (t.val vs vals act).2) else bM c.op (t.val vs vals act).1
 | .bin c t u => if (t.val vs vals act).2 ≠ 0 then (Val.zero, (t.val vs vals act).2) else if (u.val vs vals act).2 ≠ 0 then (Val.zero, (u.val vs vals act).2) else cL c.op (t.val vs vals act).1 (u.val vs vals act).1
def Plain (r : Val × Int) : Prop := r.2 ≠ 0 → r.1 = Val.zero
theorem Plain.ok {v : Val} : Plain (v, 0) := fun h => absurd rfl h
theorem Plain.err {e : Int} : Plain (Val.zero, e) := fun _ => rfl
theorem Plain.ite {c : Prop} [Decidable c] {x y : Val × Int} (hx : Plain x) (hy : Plain y) : Plain (if c then x else y) := by
 by_cases h : c
 · rw [if_pos h]; exact hx
 · rw [if_neg h]; exact hy
theorem vI (c : Cell) (h : aT c = 0) : (c.op = 1 ∧ 0 ≤ c.a ∧ c.a ≤ 1099511627776) ∨ (c.op = 2 ∧ 0 ≤ c.a ∧ c.a ≤ 1048576) ∨ c.op = 3 ∨ c.op = 4 ∨ c.op = 5 ∨ c.op = 6 := by
 revert h
 unfold aT cT
 simp only [cond_eq_ite, beq_iff_eq, Bool.or_eq_true, decide_eq_true_eq, bne_iff_ne]
 intro h
 (repeat' split at h) <;> omega
theorem GT {vs : List Var} {vals : List Val} (h : nh vs vals = false) : vs.length = vals.length ∧ ∀ v ∈ vals, vR v = true := by
 simp only [nh, Bool.or_eq_false_iff, bne_eq_false_iff_eq, List.any_eq_false, Bool.not_eq_true', Bool.not_eq_false] at h
 exact ⟨by omega, h.2⟩
theorem IF {vs : List Var} {vals : List Val} (act : List Str) {c : Cell} (hc : aT c = 0) (hl : vs.length = vals.length) (hv : ∀ v ∈ vals, vOk v = true) : (gr vs vals act c).2 = 0 → vOk (gr vs vals act c).1 = true := by
 have hw := vI c hc
 unfold gr
 by_cases h1 : c.op = 1
 · rw [if_pos h1]; intro _
   refine sb (eX.2 ?_)
   omega
 rw [if_neg h1]
 by_cases h2 : c.op = 2
 · rw [if_pos h2]; intro _
   have h3 : pIn c.a = true := by simp only [pIn, Bool.and_eq_true, decide_eq_true_eq]; omega
   have h4 : pIn 0 = true := by decide
   have h5 : i64 0 = true := by decide
   simp [vOk, vR, h3, h4, h5]
 rw [if_neg h2]
 by_cases h3 : c.op = 3 ∨ c.op = 4
 · rw [if_pos h3]; intro _; exact nP _
 rw [if_neg h3]
 by_cases h6 : c.op = 6
 · rw [if_pos h6]; intro _; exact nP _
 rw [if_neg h6]
 rcases hU (fun v : Var => v.name == c.name) vs 0 with ⟨g1, _⟩ | ⟨k, x, g1, g2, _⟩
 · simp only [Int.natCast_zero] at g1
   rw [g1]
   intro h; simp at h
 · simp only [Int.natCast_zero, Nat.zero_add] at g1
   have hk := (List.getElem?_eq_some_iff.1 g2).1
   rw [g1, if_neg (by omega), Int.toNat_natCast]
   intro _
   have hk' : k < vals.length := by omega
   rw [ETy.get_eq (t := .val) (List.getElem?_eq_getElem hk')]
   exact hv _ (List.getElem_mem hk')
def Own (r : Val × Int) : Prop := r.2 ≠ 12 ∧ r.2 ≠ 1
theorem Own.ite {c : Prop} [Decidable c] {x y : Val × Int} (hx : Own x) (hy : Own y) : Own (if c then x else y) := by
 by_cases h : c
 · rw [if_pos h]; exact hx
 · rw [if_neg h]; exact hy
end Go.Proofs.YtlhgnjmdopjpeaaGreatDoor
