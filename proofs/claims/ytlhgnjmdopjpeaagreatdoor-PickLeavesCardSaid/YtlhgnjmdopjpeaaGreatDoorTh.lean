/- Contracts of the program's functions on values. Conditions: none. Contracts: valid: variables, a state's Initial. Conditions: sizes. Contracts: valid: blocks. Conditions: sizes. -/
import Derived.Test.YtlhgnjmdopjpeaaGreatDoorJb
import Derived.Test.YtlhgnjmdopjpeaaGreatDoorTf
namespace Go.Proofs.YtlhgnjmdopjpeaaGreatDoor
open Go Go.Ev
set_option maxRecDepth 100000
abbrev rv(r:Val×Int):SV:=.tup [.agg [.pd (.i r.1.kind),.pd (.i r.1.a),.pd (.i r.1.b)],.i r.2]
variable(k op a b:Int)(v:Val)
abbrev vx:SX:=.agg [.pd (.i v.kind),.pd (.i v.a),.pd (.i v.b)]
theorem Bp:ag Tryz.prog 108 [.agg [.pd (.i k),.pd (.i a),.pd (.i b)]] [] (.x (.b (vR ⟨k,a,b⟩))) []:=by
 refine dg (cfg:=(Dt)) Es Tryz.func108 (.ite (k==(1:Int)) (.ret (.p (.bool (b==(0:Int)))) []) (.ite (k==(2:Int)) (.ret (.p (.bool (b==(0:Int)&&(a==(0:Int)||a==(1:Int))))) []) (.ite (k==(3:Int)) (.ret (.p (.bool (gT a b==(0:Int)))) []) (.ret (.p (.bool false)) [])))) fun Γ=>?_
 refine⟨fun h=>⟨?_,rfl⟩,fun h1=>⟨fun h=>⟨?_,rfl⟩,fun h2=>⟨fun h=>⟨?_,rfl⟩,fun h3=>⟨?_,rfl⟩⟩⟩⟩
 ·simp_all [vR]
 ·simp_all [vR]
 · have e:vR ⟨k,a,b⟩=(pIn a&&pIn b):=by simp_all [vR]
   rw[e]
   cases h':(pIn a&&pIn b)
   ·simp[gT,h']
   ·simp[gT,h']
 ·simp_all [vR]
def mI:Ent:=(108,fun
 |[.agg [.pd (.int .i64 k),.pd (.int .i64 a),.pd (.int .i64 b)]],[]=>some (none,.x (.c (.pd (.bool (vR ⟨k,a,b⟩)))),[])
 |_,_=>none)
theorem sC:EntOk Tryz.prog mI:=entOk fun vs ck=>by
 unfold mI;dsimp only;split
 ·rename_i k a b;exact entS fun hp=>Bp k a b
 ·exact entN
theorem yv:ag Tryz.prog 91 [.agg [.pd (.i k),.pd (.i a),.pd (.i b)]] [] (.x (.b (vR ⟨k,a,b⟩))) []:=by
 refine dg (cfg:=(NI)) KC Tryz.func91 (.ite (k==(1:Int)) (.ret (.p (.bool (b==(0:Int)))) []) (.ite (k==(2:Int)) (.ret (.p (.bool (k==(2:Int)&&(a==(0:Int)&&b==(0:Int))||k==(2:Int)&&(a==(1:Int)&&b==(0:Int))))) []) (.ite (k==(3:Int)) (.ret (.p (.bool (pIn a&&pIn b))) []) (.ret (.p (.bool false)) [])))) fun Γ=>?_
 refine⟨fun h=>⟨?_,rfl⟩,fun h1=>⟨fun h=>⟨?_,rfl⟩,fun h2=>⟨fun h=>⟨?_,rfl⟩,fun h3=>⟨?_,rfl⟩⟩⟩⟩
 ·simp_all [vR]
 · have e:k=2:=by simpa using h
   subst e
   have e2:vR ⟨2,a,b⟩=(b==0&&(a==0||a==1)):=by simp[vR]
   rw[e2]
   cases hb:b==0 <;> cases h0:a==0 <;> cases h4:a==1 <;> simp
 ·simp_all [vR]
 ·simp_all [vR]
def nw:Ent:=(91,fun
 |[.agg [.pd (.int .i64 k),.pd (.int .i64 a),.pd (.int .i64 b)]],[]=>some (none,.x (.c (.pd (.bool (vR ⟨k,a,b⟩)))),[])
 |_,_=>none)
theorem Bg:EntOk Tryz.prog nw:=entOk fun vs ck=>by
 unfold nw;dsimp only;split
 ·rename_i k a b;exact entS fun hp=>yv k a b
 ·exact entN
theorem Fx(n:Int):ag Tryz.prog 109 [.i n] [] (.x (vx (cV n))) []:=by
 refine dg aV Tryz.func109 (.ret (.x (.agg [.i 1,.i n,.i 0])) []) fun Γ=>?_
 exact⟨rfl,rfl⟩
def mu:Ent:=(109,fun
 |[.c (.pd (.int .i64 n))],[]=>some (none,.x (.agg [.pd (.int .i64 (cV n).kind),.pd (.int .i64 (cV n).a),.pd (.int .i64 (cV n).b)]),[])
 |_,_=>none)
theorem pe:EntOk Tryz.prog mu:=entOk fun vs ck=>by
 unfold mu;dsimp only;split
 ·rename_i n;exact entS fun hp=>Fx n
 ·exact entN
theorem GH(b:Bool):ag Tryz.prog 110 [.b b] [] (.x (vx (bf b))) []:=by
 refine dg aV Tryz.func110 (.ite b (.ret (.x (.agg [.i 2,.i 1,.i 0])) []) (.ret (.x (.agg [.i 2,.i 0,.i 0])) [])) fun Γ=>?_
 refine⟨fun h=>⟨?_,rfl⟩,fun h=>⟨?_,rfl⟩⟩ <;> subst h <;> rfl
def oE:Ent:=(110,fun
 |[.c (.pd (.bool b))],[]=>some (none,.x (.agg [.pd (.int .i64 (bf b).kind),.pd (.int .i64 (bf b).a),.pd (.int .i64 (bf b).b)]),[])
 |_,_=>none)
theorem qm:EntOk Tryz.prog oE:=entOk fun vs ck=>by
 unfold oE;dsimp only;split
 ·rename_i b;exact entS fun hp=>GH b
 ·exact entN
def s7:Cfg:=⟨aX,[ur,qg]⟩
theorem sw:ah Tryz.prog s7.tab:=(ah.cons Io (ah.cons xp ah.nil))
theorem Ge(p:Nat×Nat)(e:Int):ag Tryz.prog 177 [.c (.pd (.cx (some p))),.i e] [] (rv (cy p e)) []:=by
 refine dg sw Tryz.func177 (.ite (e != (0:Int)) (.ret (.tup [.agg [.i 0,.i 0,.i 0],.i e]) []) (.ret (.tup [.agg [.i 3,.i (mi p),.i (mj p)],.i 0]) [])) fun Γ=>?_
 refine⟨fun h=>⟨?_,rfl⟩,fun h=>⟨?_,rfl⟩⟩
 · have h':e≠0:=by simpa using h
   have:cy p e=(Val.zero,e):=by simp[cy,h']
   rw[this];rfl
 · have h':e=0:=by simpa using h
   have:cy p e=(⟨3,mi p,mj p⟩,0):=by simp[cy,h']
   rw[this]
def qh:Ent:=(177,fun
 |[.c (.pd (.cx (some p))),.c (.pd (.int .i64 e))],[]=>some (none,.tup [.agg [.pd (.int .i64 (cy p e).1.kind),.pd (.int .i64 (cy p e).1.a),.pd (.int .i64 (cy p e).1.b)],.c (.pd (.int .i64 (cy p e).2))],[])
 |_,_=>none)
theorem xq:EntOk Tryz.prog qh:=entOk fun vs ck=>by
 unfold qh;dsimp only;split
 ·rename_i p e;exact entS fun hp=>Ge p e
 ·exact entN
theorem vQ:ag Tryz.prog 179 [.agg [.pd (.i k),.pd (.i a),.pd (.i b)]] [] (.x (.c (.pd (.cx (some (aw a b)))))) []:=by
 refine dg sw Tryz.func179 (.ret (.p (.cx (some (aw a b)))) []) fun Γ=>?_
 exact⟨rfl,rfl⟩
def km:Ent:=(179,fun
 |[.agg [.pd (.int .i64 k),.pd (.int .i64 a),.pd (.int .i64 b)]],[]=>some (none,.x (.c (.pd (.cx (some (aw a b))))),[])
 |_,_=>none)
theorem pN:EntOk Tryz.prog km:=entOk fun vs ck=>by
 unfold km;dsimp only;split
 ·rename_i k a b;exact entS fun hp=>vQ k a b
 ·exact entN
def HX:Cfg:=⟨aX,[oE,mu,qh,km,EH,Fo,E6,rX]⟩
theorem HY:ah Tryz.prog HX.tab:=(ah.cons qm (ah.cons pe (ah.cons xq (ah.cons pN (ah.cons Oz (ah.cons O0 (ah.cons OR (ah.cons Fu ah.nil))))))))
theorem Nv(u v:Val)(hop:11≤op∧op≤23)(hu:vOk u=true)(hv:vOk v=true):ag Tryz.prog 115 [.i op,vx u,vx v] [] (rv (cL op u v)) []:=by
 obtain⟨k,a,b⟩:=u
 obtain⟨k',c,d⟩:=v
 obtain⟨ru,iu⟩:=oU.1 hu
 obtain⟨rw',iv⟩:=oU.1 hv
 simp only at iu iv
 refine dg HY Tryz.func115 (let x7:=(cSumBits BinOp.add FloatKind.f64 ((aw a b).1) ((aw a b).2) ((aw c d).1) ((aw c d).2));let x1:=(cy (dz (aw a b) (aw c d) x7) (dy (aw a b) (aw c d) x7));let x8:=(cSumBits BinOp.sub FloatKind.f64 ((aw a b).1) ((aw a b).2) ((aw c d).1) ((aw c d).2));let x2:=(cy (dz (aw a b) (aw c d) x8) (dy (aw a b) (aw c d) x8));let x10:=(cMulBits ((aw a b).1) ((aw a b).2) ((aw c d).1) ((aw c d).2));let x3:=(cy (dz (aw a b) (aw c d) x10) (dy (aw a b) (aw c d) x10));let x4:=(k==k'&&(a==c&&b==d));let x5:Tree:=(.ret (.tup [.agg [.i 0,.i 0,.i 0],.i 8]) []);let x6:=(bf (decide (IntKind.wrap .i64 (a+c)>(0:Int))));let x9:=(bf (IntKind.wrap .i64 (a+c)==(2:Int)));let x11:=(cV ((cg op a c).1));let x12:=(bf (decide (a<c)));let x13:=(bf (decide (a≤c)));let x14:=(bf (decide (a>c)));let x15:=(bf (decide (a≥c)));.ite (k != k') x5 (.ite (op==(16:Int)) (.ret (.tup [.agg [.i (Val.kind (bf x4)),.i (Val.a (bf x4)),.i (Val.b (bf x4))],.i 0]) []) (.ite (op==(17:Int)) (.ret (.tup [.agg [.i (Val.kind (bf !x4)),.i (Val.a (bf !x4)),.i (Val.b (bf !x4))],.i 0]) []) (.ite (k==(2:Int)&&op==(22:Int)) (.ret (.tup [.agg [.i (Val.kind x9),.i (Val.a x9),.i (Val.b x9)],.i 0]) []) (.ite (k==(2:Int)&&op==(23:Int)) (.ret (.tup [.agg [.i (Val.kind x6),.i (Val.a x6),.i (Val.b x6)],.i 0]) []) (.ite (k==(3:Int)&&op==(11:Int)) (.ret (.tup [.agg [.i (Val.kind (x1.1)),.i (Val.a (x1.1)),.i (Val.b (x1.1))],.i (x1.2)]) []) (.ite (k==(3:Int)&&op==(12:Int)) (.ret (.tup [.agg [.i (Val.kind (x2.1)),.i (Val.a (x2.1)),.i (Val.b (x2.1))],.i (x2.2)]) []) (.ite (k==(3:Int)&&op==(13:Int)) (.ret (.tup [.agg [.i (Val.kind (x3.1)),.i (Val.a (x3.1)),.i (Val.b (x3.1))],.i (x3.2)]) []) (.ite (k != (1:Int)) x5 (.ite (op==(18:Int)) (.ret (.tup [.agg [.i (Val.kind x12),.i (Val.a x12),.i (Val.b x12)],.i 0]) []) (.ite (op==(19:Int)) (.ret (.tup [.agg [.i (Val.kind x13),.i (Val.a x13),.i (Val.b x13)],.i 0]) []) (.ite (op==(20:Int)) (.ret (.tup [.agg [.i (Val.kind x14),.i (Val.a x14),.i (Val.b x14)],.i 0]) []) (.ite (op==(21:Int)) (.ret (.tup [.agg [.i (Val.kind x15),.i (Val.a x15),.i (Val.b x15)],.i 0]) []) (.ite (op==(22:Int)) x5 (.ite (op==(23:Int)) x5 (.need (((11:Int)≤op∧op≤(15:Int))∧i64 a=true∧i64 c=true) (.ite ((cg op a c).2 != (0:Int)) (.ret (.tup [.agg [.i 0,.i 0,.i 0],.i ((cg op a c).2)]) []) (.ret (.tup [.agg [.i (Val.kind x11),.i (Val.a x11),.i (Val.b x11)],.i 0]) [])))))))))))))))))) fun Γ=>?_
 conv=>zeta
 refine⟨fun h=>⟨congrArg rv (a₁:=(Val.zero,8)) ?_,rfl⟩,fun h=>?_⟩
 · have h':k≠k':=by simpa using h
   simp[cL,h']
 have hk:k=k':=by simpa using h
 subst hk
 refine⟨fun h=>⟨congrArg rv (a₁:=(bf (k==k&&(a==c&&b==d)),0)) ?_,rfl⟩,fun n16=>⟨fun h=>⟨congrArg rv (a₁:=(bf !(k==k&&(a==c&&b==d)),0)) ?_,rfl⟩,fun n17=>?_⟩⟩
 · have e:op=16:=by simpa using h
   simp[cL,e]
 · have e:op=17:=by simpa using h
   simp[cL,e]
 have m16:op≠16:=by simpa using n16
 have m17:op≠17:=by simpa using n17
 refine⟨fun h=>⟨congrArg rv (a₁:=(bf (IntKind.i64.wrap (a+c)==2),0)) ?_,rfl⟩,fun n22=>⟨fun h=>⟨congrArg rv (a₁:=(bf (decide (IntKind.i64.wrap (a+c)>0)),0)) ?_,rfl⟩,fun n23=>?_⟩⟩
 · have e:k=2∧op=22:=by simpa using h
   obtain⟨rfl,rfl⟩:=e
   obtain⟨_,h1⟩:=sk ru rfl
   obtain⟨_,h2⟩:=sk rw' rfl
   simp only at h1 h2
   rcases h1 with rfl |rfl <;> rcases h2 with rfl |rfl <;> rfl
 · have e:k=2∧op=23:=by simpa using h
   obtain⟨rfl,rfl⟩:=e
   obtain⟨_,h1⟩:=sk ru rfl
   obtain⟨_,h2⟩:=sk rw' rfl
   simp only at h1 h2
   rcases h1 with rfl |rfl <;> rcases h2 with rfl |rfl <;> rfl
 have m22:¬(k=2∧op=22):=by simpa using n22
 have m23:¬(k=2∧op=23):=by simpa using n23
 refine⟨fun h=>⟨congrArg rv (a₁:=cy _ _) ?_,rfl⟩,fun n11=>⟨fun h=>⟨congrArg rv (a₁:=cy _ _) ?_,rfl⟩,fun n12=>⟨fun h=>⟨congrArg rv (a₁:=cy _ _) ?_,rfl⟩,fun n13=>?_⟩⟩⟩
 · have e:k=3∧op=11:=by simpa using h
   obtain⟨rfl,rfl⟩:=e
   obtain⟨h1,h2⟩:=iD ru rfl
   obtain⟨h3,h4⟩:=iD rw' rfl
   refine(D7 h1 h2 h3 h4).trans ?_
   simp[cL]
 · have e:k=3∧op=12:=by simpa using h
   obtain⟨rfl,rfl⟩:=e
   obtain⟨h1,h2⟩:=iD ru rfl
   obtain⟨h3,h4⟩:=iD rw' rfl
   refine(GA h1 h2 h3 h4).trans ?_
   simp[cL]
 · have e:k=3∧op=13:=by simpa using h
   obtain⟨rfl,rfl⟩:=e
   obtain⟨h1,h2⟩:=iD ru rfl
   obtain⟨h3,h4⟩:=iD rw' rfl
   refine(F2 h1 h2 h3 h4).trans ?_
   simp[cL]
 have m11:¬(k=3∧op=11):=by simpa using n11
 have m12:¬(k=3∧op=12):=by simpa using n12
 have m13:¬(k=3∧op=13):=by simpa using n13
 refine⟨fun h=>⟨congrArg rv (a₁:=(Val.zero,8)) ?_,rfl⟩,fun n1=>?_⟩
 · have e:k≠1:=by simpa using h
   simp[cL,m16,m17,m22,m23,m11,m12,m13,e]
 have e1:k=1:=by simpa using n1
 subst e1
 refine⟨fun h=>⟨congrArg rv (a₁:=(bf (decide (a<c)),0)) ?_,rfl⟩,fun n18=>⟨fun h=>⟨congrArg rv (a₁:=(bf (decide (a≤c)),0)) ?_,rfl⟩,fun n19=>⟨fun h=>⟨congrArg rv (a₁:=(bf (decide (a>c)),0)) ?_,rfl⟩,fun n20=>⟨fun h=>⟨congrArg rv (a₁:=(bf (decide (a≥c)),0)) ?_,rfl⟩,fun n21=>?_⟩⟩⟩⟩
 · have e:op=18:=by simpa using h
   simp[cL,e]
 · have e:op=19:=by simpa using h
   simp[cL,e]
 · have e:op=20:=by simpa using h
   simp[cL,e]
 · have e:op=21:=by simpa using h
   simp[cL,e]
 have m18:op≠18:=by simpa using n18
 have m19:op≠19:=by simpa using n19
 have m20:op≠20:=by simpa using n20
 have m21:op≠21:=by simpa using n21
 refine⟨fun h=>⟨congrArg rv (a₁:=(Val.zero,8)) ?_,rfl⟩,fun l22=>⟨fun h=>⟨congrArg rv (a₁:=(Val.zero,8)) ?_,rfl⟩,fun l23=>?_⟩⟩
 · have e:op=22:=by simpa using h
   simp[cL,e]
 · have e:op=23:=by simpa using h
   simp[cL,e]
 have k22:op≠22:=by simpa using l22
 have k23:op≠23:=by simpa using l23
 have hM:cL op ⟨1,a,b⟩ ⟨1,c,d⟩=qQ (cg op a c):=by simp[cL,m16,m17,m18,m19,m20,m21,k22,k23]
 rw[hM]
 refine⟨⟨by omega,iu,iv⟩,fun h=>⟨congrArg rv (a₁:=(Val.zero,(cg op a c).2)) ?_,rfl⟩,fun h=>⟨congrArg rv (a₁:=(cV (cg op a c).1,0)) ?_,rfl⟩⟩
 · have e:(cg op a c).2≠0:=by simpa using h
   simp[qQ,e]
 · have e:(cg op a c).2=0:=by simpa using h
   simp[qQ,e]
theorem J4(k a b k' c d:Int)(h:(11≤op∧op≤23)∧vOk ⟨k,a,b⟩=true∧vOk ⟨k',c,d⟩=true):ag Tryz.prog 115 [.i op,.agg [.pd (.i k),.pd (.i a),.pd (.i b)],.agg [.pd (.i k'),.pd (.i c),.pd (.i d)]] [] (rv (cL op ⟨k,a,b⟩ ⟨k',c,d⟩)) []:=Nv op ⟨k,a,b⟩ ⟨k',c,d⟩ h.1 h.2.1 h.2.2
def Bl:Ent:=(115,fun
 |[.c (.pd (.int .i64 op)),.agg [.pd (.int .i64 k),.pd (.int .i64 a),.pd (.int .i64 b)],.agg [.pd (.int .i64 k'),.pd (.int .i64 c),.pd (.int .i64 d)]],[]=>some (some ((11≤op∧op≤23)∧vOk ⟨k,a,b⟩=true∧vOk ⟨k',c,d⟩=true),.tup [.agg [.pd (.int .i64 (cL op ⟨k,a,b⟩ ⟨k',c,d⟩).1.kind),.pd (.int .i64 (cL op ⟨k,a,b⟩ ⟨k',c,d⟩).1.a),.pd (.int .i64 (cL op ⟨k,a,b⟩ ⟨k',c,d⟩).1.b)],.c (.pd (.int .i64 (cL op ⟨k,a,b⟩ ⟨k',c,d⟩).2))],[])
 |_,_=>none)
theorem DE:EntOk Tryz.prog Bl:=entOk fun vs ck=>by
 unfold Bl;dsimp only;split
 ·rename_i op k a b k' c d;exact entS fun hp=>J4 op k a b k' c d hp
 ·exact entN
def HE:Cfg:=⟨aX,[oE,mu,qh,km,yT,Bl]⟩
theorem HF:ah Tryz.prog HE.tab:=(ah.cons qm (ah.cons pe (ah.cons xq (ah.cons pN (ah.cons Lo (ah.cons DE ah.nil))))))
theorem Mi(k a b:Int)(hu:vOk ⟨k,a,b⟩=true):ag Tryz.prog 114 [.i op,.agg [.pd (.i k),.pd (.i a),.pd (.i b)]] [] (rv (bM op ⟨k,a,b⟩)) []:=by
 obtain⟨ru,iu⟩:=oU.1 hu
 simp only at iu
 refine dg HF Tryz.func114 (let x1:=(cL (12:Int) (cV (0:Int)) {kind:=k,a:=a,b:=b});let x2:=(cy (jR (aw a b) (2:Int)) (jQ (aw a b)));let x3:=(bf (a==(0:Int)));.ite (op==(7:Int)&&k==(1:Int)) (.need (((11:Int)≤12∧(12:Int)≤23)∧vOk (cV (0:Int))=true∧vOk {kind:=k,a:=a,b:=b}=true) (.ret (.tup [.agg [.i (Val.kind (Prod.fst x1)),.i (Val.a (Prod.fst x1)),.i (Val.b (Prod.fst x1))],.i (Prod.snd x1)]) [])) (.ite (op==(7:Int)&&k==(3:Int)) (.ret (.tup [.agg [.i (Val.kind (x2.1)),.i (Val.a (x2.1)),.i (Val.b (x2.1))],.i (x2.2)]) []) (.ite (op==(8:Int)&&k==(2:Int)) (.ret (.tup [.agg [.i (Val.kind x3),.i (Val.a x3),.i (Val.b x3)],.i 0]) []) (.ite (op==(9:Int)&&k==(3:Int)) (.ret (.tup [.agg [.i (Val.kind (cV a)),.i (Val.a (cV a)),.i (Val.b (cV a))],.i 0]) []) (.ite (op==(10:Int)&&k==(3:Int)) (.ret (.tup [.agg [.i (Val.kind (cV b)),.i (Val.a (cV b)),.i (Val.b (cV b))],.i 0]) []) (.ret (.tup [.agg [.i 0,.i 0,.i 0],.i 8]) [])))))) fun Γ=>?_
 conv=>zeta
 refine⟨fun h=>⟨⟨by omega,by decide,hu⟩,congrArg rv (a₁:=cL 12 (cV 0) ⟨k,a,b⟩) ?_,rfl⟩,fun n1=>⟨fun h=>⟨congrArg rv (a₁:=cy _ _) ?_,rfl⟩,fun n2=>⟨fun h=>⟨congrArg rv (a₁:=(bf (a==0),0)) ?_,rfl⟩,fun n3=>⟨fun h=>⟨congrArg rv (a₁:=(cV a,0)) ?_,rfl⟩,fun n4=>⟨fun h=>⟨congrArg rv (a₁:=(cV b,0)) ?_,rfl⟩,fun n5=>⟨congrArg rv (a₁:=(Val.zero,8)) ?_,rfl⟩⟩⟩⟩⟩⟩
 · have e:op=7∧k=1:=by simpa using h
   obtain⟨rfl,rfl⟩:=e
   simp[bM,cL,cV,cg]
 · have e:op=7∧k=3:=by simpa using h
   obtain⟨rfl,rfl⟩:=e
   obtain⟨h1,h2⟩:=iD ru rfl
   refine(GI h1 h2).trans ?_
   simp[bM]
 · have e:op=8∧k=2:=by simpa using h
   obtain⟨rfl,rfl⟩:=e
   simp[bM]
 · have e:op=9∧k=3:=by simpa using h
   obtain⟨rfl,rfl⟩:=e
   simp[bM]
 · have e:op=10∧k=3:=by simpa using h
   obtain⟨rfl,rfl⟩:=e
   simp[bM]
 · have m1:¬(op=7∧k=1):=by simpa using n1
   have m2:¬(op=7∧k=3):=by simpa using n2
   have m3:¬(op=8∧k=2):=by simpa using n3
   have m4:¬(op=9∧k=3):=by simpa using n4
   have m5:¬(op=10∧k=3):=by simpa using n5
   simp[bM,m1,m2,m3,m4,m5]
def E8:Ent:=(114,fun
 |[.c (.pd (.int .i64 op)),.agg [.pd (.int .i64 k),.pd (.int .i64 a),.pd (.int .i64 b)]],[]=>some (some (vOk ⟨k,a,b⟩=true),.tup [.agg [.pd (.int .i64 (bM op ⟨k,a,b⟩).1.kind),.pd (.int .i64 (bM op ⟨k,a,b⟩).1.a),.pd (.int .i64 (bM op ⟨k,a,b⟩).1.b)],.c (.pd (.int .i64 (bM op ⟨k,a,b⟩).2))],[])
 |_,_=>none)
theorem OT:EntOk Tryz.prog E8:=entOk fun vs ck=>by
 unfold E8;dsimp only;split
 ·rename_i op k a b;exact entS fun hp=>Mi op k a b hp
 ·exact entN
def NY:Cfg:=⟨aX,[mI,ma]⟩
theorem KS:ah Tryz.prog NY.tab:=(ah.cons sC (ah.cons kP ah.nil))
variable(c:Chart)(l:List Ev.Stat)(i:Nat)(v:Var)
def pw:Int:=if(v.kind==3)=true then 1048576 else 1099511627776
def wc:Int:=if(v.kind==3)=true then(if v.init.b<v.init.a then v.init.b else v.init.a)else v.init.a
def r6:Int:=if(v.kind==3)=true then(if v.init.b>v.init.a then v.init.b else v.init.a)else v.init.a
def fm:Int :=
 if(decide (v.kind<1)||decide (v.kind>3)||v.init.kind != v.kind)=true then 8
 else if(decide (v.lo>v.hi)||decide (v.lo < - pw v)||decide (v.hi>pw v)||v.kind==2&&(v.lo != 0||v.hi != 1))=true then 5
 else b9 (vR v.init&&decide (wc v≥v.lo)&&decide (r6 v≤v.hi)) 5
def dV:Int :=
 if((ETy.get .stat l i).kind != 2 && !a7 (ETy.get .stat l i).kind)=true then b9 ((ETy.get .stat l i).initial==[]) 1
 else if(decide (aG l (ETy.get .stat l i).initial<0)||a7 (ETy.get .stat l (aG l (ETy.get .stat l i).initial).toNat).kind)=true then 2
 else if((ETy.get .stat l i).kind==2)=true then b9 (c7 l (aG l (ETy.get .stat l i).initial)==(i:Int)) 2
 else if((ETy.get .stat l i).kind==5)=true then b9 (c7 l (aG l (ETy.get .stat l i).initial)==c7 l i) 2
 else b9 (iN l (c7 l i) (aG l (ETy.get .stat l i).initial)) 2
theorem J8:ag Tryz.prog 156 [.e .var v] [] (.x (.i (fm v))) []:=by
 refine dg KS Tryz.func156 (let x1:Tree:=(.ite (v.kind==(3:Int)) (.ret (.i (b9 (vR v.init&&decide ((if v.init.b<v.init.a then v.init.b else v.init.a)≥v.lo)&&decide ((if v.init.b>v.init.a then v.init.b else v.init.a)≤v.hi)) (5:Int))) []) (.ret (.i (b9 (vR v.init&&decide (v.init.a≥v.lo)&&decide (v.init.a≤v.hi)) (5:Int))) []));let x2:=(v.lo != (0:Int)||v.hi != (1:Int));.ite (decide (v.kind<(1:Int))||decide (v.kind>(3:Int))||v.init.kind != v.kind) (.ret (.i 8) []) (.ite (v.kind==(3:Int)) (.ite (decide (v.lo>v.hi)||decide (v.lo<IntKind.wrap .i64 ((0:Int) - 1048576))||decide (v.hi>(1048576:Int))||v.kind==(2:Int)&&x2) (.ret (.i 5) []) x1) (.ite (decide (v.lo>v.hi)||decide (v.lo<IntKind.wrap .i64 ((0:Int) - 1099511627776))||decide (v.hi>(1099511627776:Int))||v.kind==(2:Int)&&x2) (.ret (.i 5) []) x1))) fun Γ=>?_
 conv=>zeta
 have w1:IntKind.wrap .i64 (0 - 1048576) = -1048576:=by decide
 have w2:IntKind.wrap .i64 (0 - 1099511627776) = -1099511627776:=by decide
 refine⟨fun h=>?_,fun h=>⟨fun h3=>⟨fun hr=>?_,fun hr=>⟨fun h4=>?_,fun h4=>?_⟩⟩,fun h3=>⟨fun hr=>?_,fun hr=>⟨fun h4=>?_,fun h4=>?_⟩⟩⟩⟩
 ·unfold fm;rw[if_pos h];exact⟨rfl,rfl⟩
 · rw[w1]at hr
   unfold fm;rw[if_neg (by rw[h];decide)]
   simp only[pw,if_pos h3]
   rw[if_pos hr];exact⟨rfl,rfl⟩
 · rw[w1]at hr
   unfold fm;rw[if_neg (by rw[h];decide)]
   simp only[pw,wc,r6,if_pos h3]
   rw[if_neg (by rw[hr];decide)];exact⟨rfl,rfl⟩
 ·rw[h3]at h4;cases h4
 · rw[w2]at hr
   unfold fm;rw[if_neg (by rw[h];decide)]
   simp only[pw,if_neg (show ¬(v.kind==3)=true by rw[h3];decide)]
   rw[if_pos hr];exact⟨rfl,rfl⟩
 ·rw[h3]at h4;cases h4
 · rw[w2]at hr
   unfold fm;rw[if_neg (by rw[h];decide)]
   simp only[pw,wc,r6,if_neg (show ¬(v.kind==3)=true by rw[h3];decide)]
   rw[if_neg (by rw[hr];decide)];exact⟨rfl,rfl⟩
def yV:Ent:=(156,fun
 |[.agg [.pd (.str a),.pd (.int .i64 b),.pd (.int .i64 e),.pd (.int .i64 f),.pd (.int .i64 g),.pd (.int .i64 h),.pd (.int .i64 i)]],[]=>some (none,.x (.c (.pd (.int .i64 (fm ⟨a,b,e,f,⟨g,h,i⟩⟩)))),[])
 |_,_=>none)
theorem Lq:EntOk Tryz.prog yV:=entOk fun vs ck=>by
 unfold yV;dsimp only;split
 ·rename_i a b e f g h i;exact entS fun hp=>J8 ⟨a,b,e,f,⟨g,h,i⟩⟩
 ·exact entN
def Hy:Cfg:=⟨aX,[oF,ma,mJ,mv,oG]⟩
theorem Hz:ah Tryz.prog Hy.tab:=(ah.cons qn (ah.cons kP (ah.cons nr (ah.cons pf (ah.cons uR ah.nil)))))
theorem me{α:Type}(p:α→Bool):∀(l:List α) (i:Int),0≤i→ax p l i = -1∨(i≤ax p l i∧ax p l i<i+(l.length:Int))
 |[],i,_=>.inl rfl
 | x :: r,i,h=>by
   have ih:=me p r (i+1) (by omega)
   unfold ax
   cases p x
   · rw[cond_false]
     rcases ih with e |⟨h1,h2⟩
     ·exact .inl e
     · refine .inr ⟨by omega,?_⟩
       rw[av];omega
   · rw[cond_true]
     refine .inr ⟨by omega,?_⟩
     rw[av];omega
theorem kV(n:Str):aG l n = -1∨(0≤aG l n∧aG l n<(l.length:Int)):=by
 rcases me (fun s:Ev.Stat=>s.name==n) l 0 (by omega)with h |⟨h1,h2⟩
 ·exact .inl h
 ·exact .inr ⟨h1,by unfold aG;omega⟩
theorem J7(hi:i<c.states.length)(hl:c.states.length≤maxLen):ag Tryz.prog 154 [.e .chart c,.i (i:Int)] [] (.x (.i (dV c.states i))) []:=by
 refine dg Hz Tryz.func154 (let x1:=(ETy.get .stat c.states i);let x2:=(aG c.states (Stat.initial x1));let x3:=(c.states.length≤maxLen);let x4:=(aG c.states (Stat.initial x1)<(0:Int));.need (inRg i c.states.length) (.ite (Stat.kind x1 != (2:Int) && !a7 (Stat.kind x1)) (.ret (.i (b9 (Stat.initial x1==[]) (1:Int))) []) (.need (decide x4=false→(0:Int)≤aG c.states (Stat.initial x1)∧aG c.states (Stat.initial x1)<(c.states.length:Int)) (.ite (decide x4||a7 (Stat.kind (ETy.get .stat c.states (x2.toNat)))) (.ret (.i 2) []) (.need x3 (.ite (Stat.kind x1==(2:Int)) (.need x3 (.ret (.i (b9 (c7 c.states x2==(i:Int)) (2:Int))) [])) (.ite (Stat.kind x1==(5:Int)) (.need x3 (.ret (.i (b9 (c7 c.states x2==c7 c.states (i:Int)) (2:Int))) [])) (.need x3 (.ret (.i (b9 (iN c.states (c7 c.states (i:Int)) x2) (2:Int))) []))))))))) fun Γ=>?_
 conv=>zeta
 unfold dV
 have hp:=kV c.states (ETy.get .stat c.states i).initial
 refine⟨⟨by omega,by omega⟩,fun h=>?_,fun h=>⟨fun h2=>?_,fun h3=>?_,fun h3=>⟨hl,fun h4=>⟨hl,?_⟩,fun h4=>⟨fun h5=>⟨hl,?_⟩,fun h5=>⟨hl,?_⟩⟩⟩⟩⟩
 ·rw[if_pos h];exact⟨rfl,rfl⟩
 · have:=of_decide_eq_false h2
   rcases hp with e |e
   ·omega
   ·exact e
 ·rw[if_neg (by rw[h];decide),if_pos h3];exact⟨rfl,rfl⟩
 ·rw[if_neg (by rw[h];decide),if_neg (by rw[h3];decide),if_pos h4];exact⟨rfl,rfl⟩
 ·rw[if_neg (by rw[h];decide),if_neg (by rw[h3];decide),if_neg (by rw[h4];decide),if_pos h5];exact⟨rfl,rfl⟩
 ·rw[if_neg (by rw[h];decide),if_neg (by rw[h3];decide),if_neg (by rw[h4];decide),if_neg (by rw[h5];decide)];exact⟨rfl,rfl⟩
theorem GL(i:Int)(h:0≤i∧i<(c.states.length:Int)∧c.states.length≤maxLen):ag Tryz.prog 154 [.e .chart c,.i i] [] (.x (.i (dV c.states i.toNat))) []:=by
 obtain⟨k,rfl⟩:=aF h.1
 rw[ai]
 exact J7 c k (by omega) h.2.2
def uN:Ent:=(154,fun
 |[.agg [.pd (.str a),.pd (.lst .str b),.pd (.lst .var c),.pd (.lst .stat d),.pd (.lst .tran e)],.c (.pd (.int .i64 i))],[]=>some (some (0≤i∧i<(d.length:Int)∧d.length≤maxLen),.x (.c (.pd (.int .i64 (dV d i.toNat)))),[])
 |_,_=>none)
theorem IB:EntOk Tryz.prog uN:=entOk fun vs ck=>by
 unfold uN;dsimp only;split
 ·rename_i a b c d e i;exact entS fun hp=>GL ⟨a,b,c,d,e⟩ i hp
 ·exact entN
theorem Kt(v:Var)(a:Deed):ag Tryz.prog 257 [.e .var v,.p (.ref .deed a 0)] [] (.x (.b (v.name==a.name))) []:=by
 refine dg aV Tryz.func257 (.ret (.p (.bool (v.name==a.name))) []) fun Γ=>⟨rfl,rfl⟩
def EI:Ent:=(257,fun
 |[.agg [.pd (.str a),.pd (.int .i64 b),.pd (.int .i64 e),.pd (.int .i64 f),.pd (.int .i64 g),.pd (.int .i64 h),.pd (.int .i64 i)],.c (.pd (.ref .deed ⟨x,y,z⟩ 0))],[]=>some (none,.x (.c (.pd (.bool (a==y)))),[])
 |_,_=>none)
theorem OB:EntOk Tryz.prog EI:=entOk fun vs ck=>by
 unfold EI;dsimp only;split
 ·rename_i a b e f g h i x y z;exact entS fun hp=>Kt ⟨a,b,e,f,⟨g,h,i⟩⟩ ⟨x,y,z⟩
 ·exact entN
def AA:Cfg:=⟨aX,[EI]⟩
theorem w7:ah Tryz.prog AA.tab:=(ah.cons OB ah.nil)
abbrev zTh3:List PI:=[.code [1,0,1,0,0],.inLoop [1,0,1,0,0],.inBlock 0,.code [1,1]]
theorem LW(l:List Var)(s:Deed)(Γ:Ctx)(hl:l.length≤maxLen)  : ∀(n k:Nat),l.length - k≤n→k≤l.length →
 J Tryz.prog 112 (aB Tryz.f112) Γ (Eq2 (.x (.i (ax (fun v:Var=>v.name==s.name) (l.drop k) k))) []) zTh3 ({n:=19,fr:=[(0,.p (.lst .var l)),(1,.x (.c (.fn (.func 257) [] [.pd (.ref .deed s 0)]))),(4,.i 0),(7,.i l.length),(8,.i k)],ck:=[]}):=by
 intro n
 induction n with
 |zero=>?_
 |succ n ih=>?_
 all_goals
  intro k hn hk
  refine jg w7 Tryz.func112 (.ite (decide ((k:Int)<(l.length:Int))) (.need (inRg k l.length) (.ite (Var.name (ETy.get .var l k)==s.2) (.ret (.i k) []) (.stop zTh3 {n:=19,fr:=[(0,.p (.lst .var l)),(1,.x (.c (.fn (.func 257) [] [.pd (.ref .deed s 0)]))),(4,.i 0),(7,.i l.length),(8,.i (IntKind.wrap .i64 ((k:Int)+1)))],ck:=[]}))) (.ret (.i (-1:Int)) [])) ?_
  refine⟨fun hlt=>?_,fun hge=>?_⟩
  · have hk':k<l.length:=by have:=of_decide_eq_true hlt;omega
    rw[bK (t:=.var) (l:=l) hk']
    refine⟨by omega,?_⟩
    generalize ETy.get .var l k=v
    refine⟨fun hb=>⟨?_,rfl⟩,fun hb=>?_⟩
    ·simp only[ax,hb,cond_true]
    ·simp only[ax,hb,cond_false];(rw[ba (aK hk' hl)];first |(exfalso;omega) |exact ih (k+1) (by omega) (by omega))
  · rw[bZ (l:=l) (by have:=of_decide_eq_false hge;omega)]
    exact⟨rfl,rfl⟩
theorem LX(l:List Var)(s:Deed):ag Tryz.prog 112 [.l .var (l),SX.c (SC.fn (Fn.func 257) [] [RC.pd (PD.ref ETy.deed s 0)])] [] (.x (.i (ax (fun v:Var=>v.name==s.name) l 0))) []:=by
 refine dg w7 Tryz.func112 (.stop zTh3 {n:=19,fr:=[(0,.p (.lst .var l)),(1,.x (.c (.fn (.func 257) [] [.pd (.ref .deed s 0)]))),(4,.i 0),(7,.i l.length),(8,.i 0)],ck:=[]}) fun Γ=>?_
 exact J.len 0 rfl fun hl=>LW l s Γ hl l.length 0 (by omega) (by omega)
def EY:Ent:=(112,fun
 |[.c (.pd (.lst .var l)),.c (.fn (.func 257) [] [.pd (.ref .deed s 0)])],[]=>some (none,.x (.c (.pd (.int .i64 (ax (fun v:Var=>v.name==s.name) l 0)))),[])
 |_,_=>none)
theorem OM:EntOk Tryz.prog EY:=entOk fun vs ck=>by
 unfold EY;dsimp only;split
 ·rename_i l s;exact entS fun hp=>LX l s
 ·exact entN
def Ef:Cfg:=⟨aX,[eOf,tX,eSc,EY]⟩
theorem AB:ah Tryz.prog Ef.tab:=(ah.cons Im (ah.cons Ia (ah.cons uE (ah.cons OM ah.nil))))
variable(ev:List Str)(c:Chart)(vs:List Var)(l:List Deed)(a:Deed)(Γ:Ctx)
def dE:Int :=
 if(a.kind != 1)=true then(if(!(ev.any fun x=>a.name==x))=true then 2 else 0)
 else if decide (ax (fun v:Var=>v.name==a.name) vs 0<0)=true then 2
 else if((cl a.expr vs []).2 != 0)=true then(cl a.expr vs []).2
 else if((cl a.expr vs []).1 != (ETy.get .var vs (ax (fun v:Var=>v.name==a.name) vs 0).toNat).kind)=true then 8 else 0
def kj(ev:List Str)(vs:List Var):List Deed→Int
 |[]=>0
 |a::r=>if(dE ev vs a != 0)=true then dE ev vs a else kj ev vs r
def cC:Int :=
 if((l.length:Int)==0)=true then 0 else if(!gE l)=true then 1 else kj ev vs l
abbrev zTh1(a:Chart):List Chunk:=[.cells [.pd (.str a.name),.pd (.lst .str a.events),.pd (.lst .var a.vars),.pd (.lst .stat a.states),.pd (.lst .tran a.trans)] 27]
abbrev zTh2:List PI:=[.code [1,1,1,0,1,0,0],.inLoop [1,1,1,0,1,0,0],.inBlock 0,.code [1,1,1,1]]
theorem Og(hl:l.length≤maxLen)  : ∀(n k:Nat),l.length - k≤n→k≤l.length →
 J Tryz.prog 213 (aB Tryz.f213) Γ (Eq2 (.x (.i (kj c.events c.vars (l.drop k)))) []) zTh2 ({n:=57,fr:=[(2,.x (.c (.loc 0 0))),(4,.i 0),(16,.p (.lst .deed l)),(17,.i l.length),(18,.i k)],ck:=(zTh1 c)}):=by
 intro n
 induction n with
 |zero=>?_
 |succ n ih=>?_
 all_goals
  intro k hn hk
  refine jg AB Tryz.func213 (let x1:Tree:=(.stop zTh2 {n:=57,fr:=[(2,.x (.c (.loc 0 0))),(4,.i 0),(16,.p (.lst .deed l)),(17,.i l.length),(18,.i (IntKind.wrap .i64 ((k:Int)+1)))],ck:=(zTh1 c)});let x2:=(cl (Deed.expr (ETy.get .deed l k)) c.vars []);.ite (decide ((k:Int)<(l.length:Int))) (.need (inRg k l.length) (.ite (Deed.kind (ETy.get .deed l k) != (1:Int)) (.ite (!List.any c.events fun x=>Deed.name (ETy.get .deed l k)==x) (.ret (.i 2) []) x1) (.ite (decide (ax (fun v=>v.name==Deed.name (ETy.get .deed l k)) c.vars (0:Int)<0)) (.ret (.i 2) []) (.ite (x2.2 != (0:Int)) (.ret (.i (x2.2)) []) (.need ((0:Int)≤ax (fun v=>v.name==Deed.name (ETy.get .deed l k)) c.vars (0:Int)∧ax (fun v=>v.name==Deed.name (ETy.get .deed l k)) c.vars (0:Int)<(c.vars.length:Int)) (.ite (x2.1 != Var.kind (ETy.get .var c.vars ((ax (fun v=>v.name==Deed.name (ETy.get .deed l k)) c.vars (0:Int)).toNat))) (.ret (.i 8) []) x1)))))) (.ret (.i 0) [])) ?_
  conv=>zeta
  refine⟨fun hlt=>?_,fun hge=>?_⟩
  · have hk':k<l.length:=by have:=of_decide_eq_true hlt;omega
    rw[bK (t:=.deed) (l:=l) hk']
    refine⟨by omega,?_⟩
    generalize ETy.get .deed l k=v
    have hs:∀r,kj c.events c.vars (v::r)=if(dE c.events c.vars v != 0)=true then dE c.events c.vars v else kj c.events c.vars r:=fun _=>rfl
    have hin:=me (fun x:Var=>x.name==v.name) c.vars 0 (by omega)
    refine⟨fun h1=>⟨fun h2=>?_,fun h2=>?_⟩,fun h1=>⟨fun h2=>?_,fun h2=>⟨fun h3=>?_,fun h3=>⟨?_,⟨fun h4=>?_,fun h4=>?_⟩⟩⟩⟩⟩
    · have he:dE c.events c.vars v=2:=by unfold dE;rw[if_pos h1,if_pos h2]
      rw[hs,he];exact⟨rfl,rfl⟩
    · have he:dE c.events c.vars v=0:=by unfold dE;rw[if_pos h1,if_neg (by rw[h2];decide)]
      rw[hs,he,if_neg (by decide)];(rw[ba (aK hk' hl)];first |(exfalso;omega) |exact ih (k+1) (by omega) (by omega))
    · have he:dE c.events c.vars v=2:=by unfold dE;rw[if_neg (by rw[h1];decide)];exact if_pos h2
      rw[hs,he];exact⟨rfl,rfl⟩
    · have he:dE c.events c.vars v=(cl v.expr c.vars []).2:=by unfold dE;rw[if_neg (by rw[h1];decide),if_neg (by show ¬_;exact fun e=>by rw[e]at h2;cases h2),if_pos h3]
      rw[hs,he,if_pos h3];exact⟨rfl,rfl⟩
    · have:=of_decide_eq_false h2
      rcases hin with e |⟨e1,e2⟩
      ·exfalso;exact this (by show ax (fun x:Var=>x.name==v.name) c.vars 0<0;omega)
      ·exact⟨e1,by omega⟩
    · have he:dE c.events c.vars v=8:=by unfold dE;rw[if_neg (by rw[h1];decide),if_neg (by exact fun e=>by rw[e]at h2;cases h2),if_neg (by rw[h3];decide),if_pos h4]
      rw[hs,he];exact⟨rfl,rfl⟩
    · have he:dE c.events c.vars v=0:=by unfold dE;rw[if_neg (by rw[h1];decide),if_neg (by exact fun e=>by rw[e]at h2;cases h2),if_neg (by rw[h3];decide),if_neg (by exact fun e=>by rw[e]at h4;cases h4)]
      rw[hs,he,if_neg (by decide)];(rw[ba (aK hk' hl)];first |(exfalso;omega) |exact ih (k+1) (by omega) (by omega))
  · rw[bZ (l:=l) (by have:=of_decide_eq_false hge;omega)]
    exact⟨rfl,rfl⟩
theorem Dj:ag Tryz.prog 213 [.e .chart c,.l .deed l] [] (.x (.i (cC c.events c.vars l))) []:=by
 refine dg AB Tryz.func213 (.ite ((l.length:Int)==0) (.ret (.i 0) []) (.ite (!gE l) (.ret (.i 1) []) (.stop zTh2 {n:=57,fr:=[(2,.x (.c (.loc 0 0))),(4,.i 0),(16,.p (.lst .deed l)),(17,.i l.length),(18,.i 0)],ck:=(zTh1 c)}))) fun Γ=>?_
 refine⟨fun h=>?_,fun h=>⟨fun h2=>?_,fun h2=>?_⟩⟩
 ·unfold cC;rw[if_pos h];exact⟨rfl,rfl⟩
 ·unfold cC;rw[if_neg (by rw[h];decide),if_pos h2];exact⟨rfl,rfl⟩
 · unfold cC;rw[if_neg (by rw[h];decide),if_neg (by rw[h2];decide)]
   exact J.len 16 rfl fun hl=>Og c l Γ hl l.length 0 (by omega) (by omega)
def Bm:Ent:=(213,fun
 |[.agg [.pd (.str a),.pd (.lst .str b),.pd (.lst .var c),.pd (.lst .stat d),.pd (.lst .tran e)],.c (.pd (.lst .deed l))],[]=>some (none,.x (.c (.pd (.int .i64 (cC b c l)))),[])
 |_,_=>none)
theorem DF:EntOk Tryz.prog Bm:=entOk fun vs ck=>by
 unfold Bm;dsimp only;split
 ·rename_i a b c d e l;exact entS fun hp=>Dj ⟨a,b,c,d,e⟩ l
 ·exact entN
end Go.Proofs.YtlhgnjmdopjpeaaGreatDoor
