/- Contracts of the program's functions on values. Conditions: none. Contracts: valid: variables, a state's Initial. Conditions: sizes. Contracts: valid: blocks. Conditions: sizes. -/
import Derived.Test.YtlhgnjmdopjpeaaGreatDoorJb
import Derived.Test.YtlhgnjmdopjpeaaGreatDoorTf
namespace Go.Proofs.YtlhgnjmdopjpeaaGreatDoor
open Go Go.Ev
set_option maxRecDepth 100000
abbrev rv(r:Val×Int):SV:=.tup [.agg [.pd (.i r.1.kind),.pd (.i r.1.a),.pd (.i r.1.b)],.i r.2]
variable(k op a b:Int)(v:Val)
abbrev vx:SX:=.agg [.pd (.i v.kind),.pd (.i v.a),.pd (.i v.b)]
theorem BU:ah Tryz.prog 108 [.agg [.pd (.i k),.pd (.i a),.pd (.i b)]] [] (.x (.b (vR ⟨k,a,b⟩))) []:=by
 refine dg (cfg:=(Ed)) Fk Tryz.func108 (.ite (k==(1:Int)) (.ret (.p (.bool (b==(0:Int)))) []) (.ite (k==(2:Int)) (.ret (.p (.bool (b==(0:Int)&&(a==(0:Int)||a==(1:Int))))) []) (.ite (k==(3:Int)) (.ret (.p (.bool (hX a b==(0:Int)))) []) (.ret (.p (.bool false)) [])))) fun Γ=>?_
 refine⟨fun h=>⟨?_,rfl⟩,fun h1=>⟨fun h=>⟨?_,rfl⟩,fun h2=>⟨fun h=>⟨?_,rfl⟩,fun h3=>⟨?_,rfl⟩⟩⟩⟩
 ·simp_all [vR]
 ·simp_all [vR]
 · have e:vR ⟨k,a,b⟩=(pIn a&&pIn b):=by simp_all [vR]
   rw[e]
   cases h':(pIn a&&pIn b)
   ·simp[hX,h']
   ·simp[hX,h']
 ·simp_all [vR]
def mS:Ent:=(108,fun
 |[.agg [.pd (.int .i64 k),.pd (.int .i64 a),.pd (.int .i64 b)]],[]=>some (none,.x (.c (.pd (.bool (vR ⟨k,a,b⟩)))),[])
 |_,_=>none)
theorem sL:EntOk Tryz.prog mS:=entOk fun vs ck=>by
 unfold mS;dsimp only;split
 ·rename_i k a b;exact entS fun hp=>BU k a b
 ·exact entN
theorem yZ:ah Tryz.prog 91 [.agg [.pd (.i k),.pd (.i a),.pd (.i b)]] [] (.x (.b (vR ⟨k,a,b⟩))) []:=by
 refine dg (cfg:=(Ov)) Lh Tryz.func91 (.ite (k==(1:Int)) (.ret (.p (.bool (b==(0:Int)))) []) (.ite (k==(2:Int)) (.ret (.p (.bool (k==(2:Int)&&(a==(0:Int)&&b==(0:Int))||k==(2:Int)&&(a==(1:Int)&&b==(0:Int))))) []) (.ite (k==(3:Int)) (.ret (.p (.bool (pIn a&&pIn b))) []) (.ret (.p (.bool false)) [])))) fun Γ=>?_
 refine⟨fun h=>⟨?_,rfl⟩,fun h1=>⟨fun h=>⟨?_,rfl⟩,fun h2=>⟨fun h=>⟨?_,rfl⟩,fun h3=>⟨?_,rfl⟩⟩⟩⟩
 ·simp_all [vR]
 · have e:k=2:=by simpa using h
   subst e
   have e2:vR ⟨2,a,b⟩=(b==0&&(a==0||a==1)):=by simp[vR]
   rw[e2]
   cases hb:b==0 <;> cases h0:a==0 <;> cases h4:a==1 <;> simp
 ·simp_all [vR]
 ·simp_all [vR]
def nK:Ent:=(91,fun
 |[.agg [.pd (.int .i64 k),.pd (.int .i64 a),.pd (.int .i64 b)]],[]=>some (none,.x (.c (.pd (.bool (vR ⟨k,a,b⟩)))),[])
 |_,_=>none)
theorem BL:EntOk Tryz.prog nK:=entOk fun vs ck=>by
 unfold nK;dsimp only;split
 ·rename_i k a b;exact entS fun hp=>yZ k a b
 ·exact entN
theorem Gp(n:Int):ah Tryz.prog 109 [.i n] [] (.x (vx (cW n))) []:=by
 refine dg aX Tryz.func109 (.ret (.x (.agg [.i 1,.i n,.i 0])) []) fun Γ=>?_
 exact⟨rfl,rfl⟩
def mH:Ent:=(109,fun
 |[.c (.pd (.int .i64 n))],[]=>some (none,.x (.agg [.pd (.int .i64 (cW n).kind),.pd (.int .i64 (cW n).a),.pd (.int .i64 (cW n).b)]),[])
 |_,_=>none)
theorem pq:EntOk Tryz.prog mH:=entOk fun vs ck=>by
 unfold mH;dsimp only;split
 ·rename_i n;exact entS fun hp=>Gp n
 ·exact entN
theorem Hx(b:Bool):ah Tryz.prog 110 [.b b] [] (.x (vx (bn b))) []:=by
 refine dg aX Tryz.func110 (.ite b (.ret (.x (.agg [.i 2,.i 1,.i 0])) []) (.ret (.x (.agg [.i 2,.i 0,.i 0])) [])) fun Γ=>?_
 refine⟨fun h=>⟨?_,rfl⟩,fun h=>⟨?_,rfl⟩⟩ <;> subst h <;> rfl
def oM:Ent:=(110,fun
 |[.c (.pd (.bool b))],[]=>some (none,.x (.agg [.pd (.int .i64 (bn b).kind),.pd (.int .i64 (bn b).a),.pd (.int .i64 (bn b).b)]),[])
 |_,_=>none)
theorem qw:EntOk Tryz.prog oM:=entOk fun vs ck=>by
 unfold oM;dsimp only;split
 ·rename_i b;exact entS fun hp=>Hx b
 ·exact entN
def ti:Cfg:=⟨aU,[uK,qn]⟩
theorem sJ:ag Tryz.prog ti.tab:=(ag.cons I9 (ag.cons xO ag.nil))
theorem G1(p:Nat×Nat)(e:Int):ah Tryz.prog 177 [.c (.pd (.cx (some p))),.i e] [] (rv (cz p e)) []:=by
 refine dg sJ Tryz.func177 (.ite (e != (0:Int)) (.ret (.tup [.agg [.i 0,.i 0,.i 0],.i e]) []) (.ret (.tup [.agg [.i 3,.i (my p),.i (mz p)],.i 0]) [])) fun Γ=>?_
 refine⟨fun h=>⟨?_,rfl⟩,fun h=>⟨?_,rfl⟩⟩
 · have h':e≠0:=by simpa using h
   have:cz p e=(Val.zero,e):=by simp[cz,h']
   rw[this];rfl
 · have h':e=0:=by simpa using h
   have:cz p e=(⟨3,my p,mz p⟩,0):=by simp[cz,h']
   rw[this]
def qo:Ent:=(177,fun
 |[.c (.pd (.cx (some p))),.c (.pd (.int .i64 e))],[]=>some (none,.tup [.agg [.pd (.int .i64 (cz p e).1.kind),.pd (.int .i64 (cz p e).1.a),.pd (.int .i64 (cz p e).1.b)],.c (.pd (.int .i64 (cz p e).2))],[])
 |_,_=>none)
theorem xP:EntOk Tryz.prog qo:=entOk fun vs ck=>by
 unfold qo;dsimp only;split
 ·rename_i p e;exact entS fun hp=>G1 p e
 ·exact entN
theorem wj:ah Tryz.prog 179 [.agg [.pd (.i k),.pd (.i a),.pd (.i b)]] [] (.x (.c (.pd (.cx (some (aw a b)))))) []:=by
 refine dg sJ Tryz.func179 (.ret (.p (.cx (some (aw a b)))) []) fun Γ=>?_
 exact⟨rfl,rfl⟩
def kB:Ent:=(179,fun
 |[.agg [.pd (.int .i64 k),.pd (.int .i64 a),.pd (.int .i64 b)]],[]=>some (none,.x (.c (.pd (.cx (some (aw a b))))),[])
 |_,_=>none)
theorem pS:EntOk Tryz.prog kB:=entOk fun vs ck=>by
 unfold kB;dsimp only;split
 ·rename_i k a b;exact entS fun hp=>wj k a b
 ·exact entN
def IP:Cfg:=⟨aU,[oM,mH,qo,kB,FA,Gf,FV,r7]⟩
theorem IQ:ag Tryz.prog IP.tab:=(ag.cons qw (ag.cons pq (ag.cons xP (ag.cons pS (ag.cons Pj (ag.cons PK (ag.cons Pz (ag.cons Gk ag.nil))))))))
theorem Og(u v:Val)(hop:11≤op∧op≤23)(hu:vOk u=true)(hv:vOk v=true):ah Tryz.prog 115 [.i op,vx u,vx v] [] (rv (cP op u v)) []:=by
 obtain⟨k,a,b⟩:=u
 obtain⟨k',c,d⟩:=v
 obtain⟨ru,iu⟩:=o5.1 hu
 obtain⟨rw',iv⟩:=o5.1 hv
 simp only at iu iv
 refine dg IQ Tryz.func115 (let x7:=(cSumBits BinOp.add FloatKind.f64 ((aw a b).1) ((aw a b).2) ((aw c d).1) ((aw c d).2));let x1:=(cz (dE (aw a b) (aw c d) x7) (dD (aw a b) (aw c d) x7));let x8:=(cSumBits BinOp.sub FloatKind.f64 ((aw a b).1) ((aw a b).2) ((aw c d).1) ((aw c d).2));let x2:=(cz (dE (aw a b) (aw c d) x8) (dD (aw a b) (aw c d) x8));let x10:=(cMulBits ((aw a b).1) ((aw a b).2) ((aw c d).1) ((aw c d).2));let x3:=(cz (dE (aw a b) (aw c d) x10) (dD (aw a b) (aw c d) x10));let x4:=(k==k'&&(a==c&&b==d));let x5:Tree:=(.ret (.tup [.agg [.i 0,.i 0,.i 0],.i 8]) []);let x6:=(bn (decide (IntKind.wrap .i64 (a+c)>(0:Int))));let x9:=(bn (IntKind.wrap .i64 (a+c)==(2:Int)));let x11:=(cW ((cj op a c).1));let x12:=(bn (decide (a<c)));let x13:=(bn (decide (a≤c)));let x14:=(bn (decide (a>c)));let x15:=(bn (decide (a≥c)));.ite (k != k') x5 (.ite (op==(16:Int)) (.ret (.tup [.agg [.i (Val.kind (bn x4)),.i (Val.a (bn x4)),.i (Val.b (bn x4))],.i 0]) []) (.ite (op==(17:Int)) (.ret (.tup [.agg [.i (Val.kind (bn !x4)),.i (Val.a (bn !x4)),.i (Val.b (bn !x4))],.i 0]) []) (.ite (k==(2:Int)&&op==(22:Int)) (.ret (.tup [.agg [.i (Val.kind x9),.i (Val.a x9),.i (Val.b x9)],.i 0]) []) (.ite (k==(2:Int)&&op==(23:Int)) (.ret (.tup [.agg [.i (Val.kind x6),.i (Val.a x6),.i (Val.b x6)],.i 0]) []) (.ite (k==(3:Int)&&op==(11:Int)) (.ret (.tup [.agg [.i (Val.kind (x1.1)),.i (Val.a (x1.1)),.i (Val.b (x1.1))],.i (x1.2)]) []) (.ite (k==(3:Int)&&op==(12:Int)) (.ret (.tup [.agg [.i (Val.kind (x2.1)),.i (Val.a (x2.1)),.i (Val.b (x2.1))],.i (x2.2)]) []) (.ite (k==(3:Int)&&op==(13:Int)) (.ret (.tup [.agg [.i (Val.kind (x3.1)),.i (Val.a (x3.1)),.i (Val.b (x3.1))],.i (x3.2)]) []) (.ite (k != (1:Int)) x5 (.ite (op==(18:Int)) (.ret (.tup [.agg [.i (Val.kind x12),.i (Val.a x12),.i (Val.b x12)],.i 0]) []) (.ite (op==(19:Int)) (.ret (.tup [.agg [.i (Val.kind x13),.i (Val.a x13),.i (Val.b x13)],.i 0]) []) (.ite (op==(20:Int)) (.ret (.tup [.agg [.i (Val.kind x14),.i (Val.a x14),.i (Val.b x14)],.i 0]) []) (.ite (op==(21:Int)) (.ret (.tup [.agg [.i (Val.kind x15),.i (Val.a x15),.i (Val.b x15)],.i 0]) []) (.ite (op==(22:Int)) x5 (.ite (op==(23:Int)) x5 (.need (((11:Int)≤op∧op≤(15:Int))∧i64 a=true∧i64 c=true) (.ite ((cj op a c).2 != (0:Int)) (.ret (.tup [.agg [.i 0,.i 0,.i 0],.i ((cj op a c).2)]) []) (.ret (.tup [.agg [.i (Val.kind x11),.i (Val.a x11),.i (Val.b x11)],.i 0]) [])))))))))))))))))) fun Γ=>?_
 conv=>zeta
 refine⟨fun h=>⟨congrArg rv (a₁:=(Val.zero,8)) ?_,rfl⟩,fun h=>?_⟩
 · have h':k≠k':=by simpa using h
   simp[cP,h']
 have hk:k=k':=by simpa using h
 subst hk
 refine⟨fun h=>⟨congrArg rv (a₁:=(bn (k==k&&(a==c&&b==d)),0)) ?_,rfl⟩,fun n16=>⟨fun h=>⟨congrArg rv (a₁:=(bn !(k==k&&(a==c&&b==d)),0)) ?_,rfl⟩,fun n17=>?_⟩⟩
 · have e:op=16:=by simpa using h
   simp[cP,e]
 · have e:op=17:=by simpa using h
   simp[cP,e]
 have m16:op≠16:=by simpa using n16
 have m17:op≠17:=by simpa using n17
 refine⟨fun h=>⟨congrArg rv (a₁:=(bn (IntKind.i64.wrap (a+c)==2),0)) ?_,rfl⟩,fun n22=>⟨fun h=>⟨congrArg rv (a₁:=(bn (decide (IntKind.i64.wrap (a+c)>0)),0)) ?_,rfl⟩,fun n23=>?_⟩⟩
 · have e:k=2∧op=22:=by simpa using h
   obtain⟨rfl,rfl⟩:=e
   obtain⟨_,h1⟩:=sD ru rfl
   obtain⟨_,h2⟩:=sD rw' rfl
   simp only at h1 h2
   rcases h1 with rfl |rfl <;> rcases h2 with rfl |rfl <;> rfl
 · have e:k=2∧op=23:=by simpa using h
   obtain⟨rfl,rfl⟩:=e
   obtain⟨_,h1⟩:=sD ru rfl
   obtain⟨_,h2⟩:=sD rw' rfl
   simp only at h1 h2
   rcases h1 with rfl |rfl <;> rcases h2 with rfl |rfl <;> rfl
 have m22:¬(k=2∧op=22):=by simpa using n22
 have m23:¬(k=2∧op=23):=by simpa using n23
 refine⟨fun h=>⟨congrArg rv (a₁:=cz _ _) ?_,rfl⟩,fun n11=>⟨fun h=>⟨congrArg rv (a₁:=cz _ _) ?_,rfl⟩,fun n12=>⟨fun h=>⟨congrArg rv (a₁:=cz _ _) ?_,rfl⟩,fun n13=>?_⟩⟩⟩
 · have e:k=3∧op=11:=by simpa using h
   obtain⟨rfl,rfl⟩:=e
   obtain⟨h1,h2⟩:=iI ru rfl
   obtain⟨h3,h4⟩:=iI rw' rfl
   refine(EY h1 h2 h3 h4).trans ?_
   simp[cP]
 · have e:k=3∧op=12:=by simpa using h
   obtain⟨rfl,rfl⟩:=e
   obtain⟨h1,h2⟩:=iI ru rfl
   obtain⟨h3,h4⟩:=iI rw' rfl
   refine(Ho h1 h2 h3 h4).trans ?_
   simp[cP]
 · have e:k=3∧op=13:=by simpa using h
   obtain⟨rfl,rfl⟩:=e
   obtain⟨h1,h2⟩:=iI ru rfl
   obtain⟨h3,h4⟩:=iI rw' rfl
   refine(GP h1 h2 h3 h4).trans ?_
   simp[cP]
 have m11:¬(k=3∧op=11):=by simpa using n11
 have m12:¬(k=3∧op=12):=by simpa using n12
 have m13:¬(k=3∧op=13):=by simpa using n13
 refine⟨fun h=>⟨congrArg rv (a₁:=(Val.zero,8)) ?_,rfl⟩,fun n1=>?_⟩
 · have e:k≠1:=by simpa using h
   simp[cP,m16,m17,m22,m23,m11,m12,m13,e]
 have e1:k=1:=by simpa using n1
 subst e1
 refine⟨fun h=>⟨congrArg rv (a₁:=(bn (decide (a<c)),0)) ?_,rfl⟩,fun n18=>⟨fun h=>⟨congrArg rv (a₁:=(bn (decide (a≤c)),0)) ?_,rfl⟩,fun n19=>⟨fun h=>⟨congrArg rv (a₁:=(bn (decide (a>c)),0)) ?_,rfl⟩,fun n20=>⟨fun h=>⟨congrArg rv (a₁:=(bn (decide (a≥c)),0)) ?_,rfl⟩,fun n21=>?_⟩⟩⟩⟩
 · have e:op=18:=by simpa using h
   simp[cP,e]
 · have e:op=19:=by simpa using h
   simp[cP,e]
 · have e:op=20:=by simpa using h
   simp[cP,e]
 · have e:op=21:=by simpa using h
   simp[cP,e]
 have m18:op≠18:=by simpa using n18
 have m19:op≠19:=by simpa using n19
 have m20:op≠20:=by simpa using n20
 have m21:op≠21:=by simpa using n21
 refine⟨fun h=>⟨congrArg rv (a₁:=(Val.zero,8)) ?_,rfl⟩,fun l22=>⟨fun h=>⟨congrArg rv (a₁:=(Val.zero,8)) ?_,rfl⟩,fun l23=>?_⟩⟩
 · have e:op=22:=by simpa using h
   simp[cP,e]
 · have e:op=23:=by simpa using h
   simp[cP,e]
 have k22:op≠22:=by simpa using l22
 have k23:op≠23:=by simpa using l23
 have hM:cP op ⟨1,a,b⟩ ⟨1,c,d⟩=qZ (cj op a c):=by simp[cP,m16,m17,m18,m19,m20,m21,k22,k23]
 rw[hM]
 refine⟨⟨by omega,iu,iv⟩,fun h=>⟨congrArg rv (a₁:=(Val.zero,(cj op a c).2)) ?_,rfl⟩,fun h=>⟨congrArg rv (a₁:=(cW (cj op a c).1,0)) ?_,rfl⟩⟩
 · have e:(cj op a c).2≠0:=by simpa using h
   simp[qZ,e]
 · have e:(cj op a c).2=0:=by simpa using h
   simp[qZ,e]
theorem KK(k a b k' c d:Int)(h:(11≤op∧op≤23)∧vOk ⟨k,a,b⟩=true∧vOk ⟨k',c,d⟩=true):ah Tryz.prog 115 [.i op,.agg [.pd (.i k),.pd (.i a),.pd (.i b)],.agg [.pd (.i k'),.pd (.i c),.pd (.i d)]] [] (rv (cP op ⟨k,a,b⟩ ⟨k',c,d⟩)) []:=Og op ⟨k,a,b⟩ ⟨k',c,d⟩ h.1 h.2.1 h.2.2
def BQ:Ent:=(115,fun
 |[.c (.pd (.int .i64 op)),.agg [.pd (.int .i64 k),.pd (.int .i64 a),.pd (.int .i64 b)],.agg [.pd (.int .i64 k'),.pd (.int .i64 c),.pd (.int .i64 d)]],[]=>some (some ((11≤op∧op≤23)∧vOk ⟨k,a,b⟩=true∧vOk ⟨k',c,d⟩=true),.tup [.agg [.pd (.int .i64 (cP op ⟨k,a,b⟩ ⟨k',c,d⟩).1.kind),.pd (.int .i64 (cP op ⟨k,a,b⟩ ⟨k',c,d⟩).1.a),.pd (.int .i64 (cP op ⟨k,a,b⟩ ⟨k',c,d⟩).1.b)],.c (.pd (.int .i64 (cP op ⟨k,a,b⟩ ⟨k',c,d⟩).2))],[])
 |_,_=>none)
theorem Er:EntOk Tryz.prog BQ:=entOk fun vs ck=>by
 unfold BQ;dsimp only;split
 ·rename_i op k a b k' c d;exact entS fun hp=>KK op k a b k' c d hp
 ·exact entN
def Iv:Cfg:=⟨aU,[oM,mH,qo,kB,Av,BQ]⟩
theorem Iw:ag Tryz.prog Iv.tab:=(ag.cons qw (ag.cons pq (ag.cons xP (ag.cons pS (ag.cons L3 (ag.cons Er ag.nil))))))
theorem M0(k a b:Int)(hu:vOk ⟨k,a,b⟩=true):ah Tryz.prog 114 [.i op,.agg [.pd (.i k),.pd (.i a),.pd (.i b)]] [] (rv (bI op ⟨k,a,b⟩)) []:=by
 obtain⟨ru,iu⟩:=o5.1 hu
 simp only at iu
 refine dg Iw Tryz.func114 (let x1:=(cP (12:Int) (cW (0:Int)) {kind:=k,a:=a,b:=b});let x2:=(cz (jV (aw a b) (2:Int)) (jU (aw a b)));let x3:=(bn (a==(0:Int)));.ite (op==(7:Int)&&k==(1:Int)) (.need (((11:Int)≤12∧(12:Int)≤23)∧vOk (cW (0:Int))=true∧vOk {kind:=k,a:=a,b:=b}=true) (.ret (.tup [.agg [.i (Val.kind (Prod.fst x1)),.i (Val.a (Prod.fst x1)),.i (Val.b (Prod.fst x1))],.i (Prod.snd x1)]) [])) (.ite (op==(7:Int)&&k==(3:Int)) (.ret (.tup [.agg [.i (Val.kind (x2.1)),.i (Val.a (x2.1)),.i (Val.b (x2.1))],.i (x2.2)]) []) (.ite (op==(8:Int)&&k==(2:Int)) (.ret (.tup [.agg [.i (Val.kind x3),.i (Val.a x3),.i (Val.b x3)],.i 0]) []) (.ite (op==(9:Int)&&k==(3:Int)) (.ret (.tup [.agg [.i (Val.kind (cW a)),.i (Val.a (cW a)),.i (Val.b (cW a))],.i 0]) []) (.ite (op==(10:Int)&&k==(3:Int)) (.ret (.tup [.agg [.i (Val.kind (cW b)),.i (Val.a (cW b)),.i (Val.b (cW b))],.i 0]) []) (.ret (.tup [.agg [.i 0,.i 0,.i 0],.i 8]) [])))))) fun Γ=>?_
 conv=>zeta
 refine⟨fun h=>⟨⟨by omega,by decide,hu⟩,congrArg rv (a₁:=cP 12 (cW 0) ⟨k,a,b⟩) ?_,rfl⟩,fun n1=>⟨fun h=>⟨congrArg rv (a₁:=cz _ _) ?_,rfl⟩,fun n2=>⟨fun h=>⟨congrArg rv (a₁:=(bn (a==0),0)) ?_,rfl⟩,fun n3=>⟨fun h=>⟨congrArg rv (a₁:=(cW a,0)) ?_,rfl⟩,fun n4=>⟨fun h=>⟨congrArg rv (a₁:=(cW b,0)) ?_,rfl⟩,fun n5=>⟨congrArg rv (a₁:=(Val.zero,8)) ?_,rfl⟩⟩⟩⟩⟩⟩
 · have e:op=7∧k=1:=by simpa using h
   obtain⟨rfl,rfl⟩:=e
   simp[bI,cP,cW,cj]
 · have e:op=7∧k=3:=by simpa using h
   obtain⟨rfl,rfl⟩:=e
   obtain⟨h1,h2⟩:=iI ru rfl
   refine(Hy h1 h2).trans ?_
   simp[bI]
 · have e:op=8∧k=2:=by simpa using h
   obtain⟨rfl,rfl⟩:=e
   simp[bI]
 · have e:op=9∧k=3:=by simpa using h
   obtain⟨rfl,rfl⟩:=e
   simp[bI]
 · have e:op=10∧k=3:=by simpa using h
   obtain⟨rfl,rfl⟩:=e
   simp[bI]
 · have m1:¬(op=7∧k=1):=by simpa using n1
   have m2:¬(op=7∧k=3):=by simpa using n2
   have m3:¬(op=8∧k=2):=by simpa using n3
   have m4:¬(op=9∧k=3):=by simpa using n4
   have m5:¬(op=10∧k=3):=by simpa using n5
   simp[bI,m1,m2,m3,m4,m5]
def FY:Ent:=(114,fun
 |[.c (.pd (.int .i64 op)),.agg [.pd (.int .i64 k),.pd (.int .i64 a),.pd (.int .i64 b)]],[]=>some (some (vOk ⟨k,a,b⟩=true),.tup [.agg [.pd (.int .i64 (bI op ⟨k,a,b⟩).1.kind),.pd (.int .i64 (bI op ⟨k,a,b⟩).1.a),.pd (.int .i64 (bI op ⟨k,a,b⟩).1.b)],.c (.pd (.int .i64 (bI op ⟨k,a,b⟩).2))],[])
 |_,_=>none)
theorem PB:EntOk Tryz.prog FY:=entOk fun vs ck=>by
 unfold FY;dsimp only;split
 ·rename_i op k a b;exact entS fun hp=>M0 op k a b hp
 ·exact entN
def OL:Cfg:=⟨aU,[mS,mm]⟩
theorem Lx:ag Tryz.prog OL.tab:=(ag.cons sL (ag.cons kY ag.nil))
variable(c:Chart)(l:List Ev.Stat)(i:Nat)(v:Var)
def pC:Int:=if(v.kind==3)=true then 1048576 else 1099511627776
def wI:Int:=if(v.kind==3)=true then(if v.init.b<v.init.a then v.init.b else v.init.a)else v.init.a
def sd:Int:=if(v.kind==3)=true then(if v.init.b>v.init.a then v.init.b else v.init.a)else v.init.a
def fw:Int :=
 if(decide (v.kind<1)||decide (v.kind>3)||v.init.kind != v.kind)=true then 8
 else if(decide (v.lo>v.hi)||decide (v.lo < - pC v)||decide (v.hi>pC v)||v.kind==2&&(v.lo != 0||v.hi != 1))=true then 5
 else b7 (vR v.init&&decide (wI v≥v.lo)&&decide (sd v≤v.hi)) 5
def eg:Int :=
 if((ETy.get .stat l i).kind != 2 && !bg (ETy.get .stat l i).kind)=true then b7 ((ETy.get .stat l i).initial==[]) 1
 else if(decide (aF l (ETy.get .stat l i).initial<0)||bg (ETy.get .stat l (aF l (ETy.get .stat l i).initial).toNat).kind)=true then 2
 else if((ETy.get .stat l i).kind==2)=true then b7 (c7 l (aF l (ETy.get .stat l i).initial)==(i:Int)) 2
 else if((ETy.get .stat l i).kind==5)=true then b7 (c7 l (aF l (ETy.get .stat l i).initial)==c7 l i) 2
 else b7 (iR l (c7 l i) (aF l (ETy.get .stat l i).initial)) 2
theorem KN:ah Tryz.prog 156 [.e .var v] [] (.x (.i (fw v))) []:=by
 refine dg Lx Tryz.func156 (let x1:Tree:=(.ite (v.kind==(3:Int)) (.ret (.i (b7 (vR v.init&&decide ((if v.init.b<v.init.a then v.init.b else v.init.a)≥v.lo)&&decide ((if v.init.b>v.init.a then v.init.b else v.init.a)≤v.hi)) (5:Int))) []) (.ret (.i (b7 (vR v.init&&decide (v.init.a≥v.lo)&&decide (v.init.a≤v.hi)) (5:Int))) []));let x2:=(v.lo != (0:Int)||v.hi != (1:Int));.ite (decide (v.kind<(1:Int))||decide (v.kind>(3:Int))||v.init.kind != v.kind) (.ret (.i 8) []) (.ite (v.kind==(3:Int)) (.ite (decide (v.lo>v.hi)||decide (v.lo<IntKind.wrap .i64 ((0:Int) - 1048576))||decide (v.hi>(1048576:Int))||v.kind==(2:Int)&&x2) (.ret (.i 5) []) x1) (.ite (decide (v.lo>v.hi)||decide (v.lo<IntKind.wrap .i64 ((0:Int) - 1099511627776))||decide (v.hi>(1099511627776:Int))||v.kind==(2:Int)&&x2) (.ret (.i 5) []) x1))) fun Γ=>?_
 conv=>zeta
 have w1:IntKind.wrap .i64 (0 - 1048576) = -1048576:=by decide
 have w2:IntKind.wrap .i64 (0 - 1099511627776) = -1099511627776:=by decide
 refine⟨fun h=>?_,fun h=>⟨fun h3=>⟨fun hr=>?_,fun hr=>⟨fun h4=>?_,fun h4=>?_⟩⟩,fun h3=>⟨fun hr=>?_,fun hr=>⟨fun h4=>?_,fun h4=>?_⟩⟩⟩⟩
 ·unfold fw;rw[if_pos h];exact⟨rfl,rfl⟩
 · rw[w1]at hr
   unfold fw;rw[if_neg (by rw[h];decide)]
   simp only[pC,if_pos h3]
   rw[if_pos hr];exact⟨rfl,rfl⟩
 · rw[w1]at hr
   unfold fw;rw[if_neg (by rw[h];decide)]
   simp only[pC,wI,sd,if_pos h3]
   rw[if_neg (by rw[hr];decide)];exact⟨rfl,rfl⟩
 ·rw[h3]at h4;cases h4
 · rw[w2]at hr
   unfold fw;rw[if_neg (by rw[h];decide)]
   simp only[pC,if_neg (show ¬(v.kind==3)=true by rw[h3];decide)]
   rw[if_pos hr];exact⟨rfl,rfl⟩
 ·rw[h3]at h4;cases h4
 · rw[w2]at hr
   unfold fw;rw[if_neg (by rw[h];decide)]
   simp only[pC,wI,sd,if_neg (show ¬(v.kind==3)=true by rw[h3];decide)]
   rw[if_neg (by rw[hr];decide)];exact⟨rfl,rfl⟩
def Ay:Ent:=(156,fun
 |[.agg [.pd (.str a),.pd (.int .i64 b),.pd (.int .i64 e),.pd (.int .i64 f),.pd (.int .i64 g),.pd (.int .i64 h),.pd (.int .i64 i)]],[]=>some (none,.x (.c (.pd (.int .i64 (fw ⟨a,b,e,f,⟨g,h,i⟩⟩)))),[])
 |_,_=>none)
theorem L5:EntOk Tryz.prog Ay:=entOk fun vs ck=>by
 unfold Ay;dsimp only;split
 ·rename_i a b e f g h i;exact entS fun hp=>KN ⟨a,b,e,f,⟨g,h,i⟩⟩
 ·exact entN
def Ip:Cfg:=⟨aU,[oN,mm,mT,mI,oP]⟩
theorem Iq:ag Tryz.prog Ip.tab:=(ag.cons qy (ag.cons kY (ag.cons nH (ag.cons pr (ag.cons vi ag.nil)))))
theorem mq{α:Type}(p:α→Bool):∀(l:List α) (i:Int),0≤i→ay p l i = -1∨(i≤ay p l i∧ay p l i<i+(l.length:Int))
 |[],i,_=>.inl rfl
 | x :: r,i,h=>by
   have ih:=mq p r (i+1) (by omega)
   unfold ay
   cases p x
   · rw[cond_false]
     rcases ih with e |⟨h1,h2⟩
     ·exact .inl e
     · refine .inr ⟨by omega,?_⟩
       rw[ax];omega
   · rw[cond_true]
     refine .inr ⟨by omega,?_⟩
     rw[ax];omega
theorem k8(n:Str):aF l n = -1∨(0≤aF l n∧aF l n<(l.length:Int)):=by
 rcases mq (fun s:Ev.Stat=>s.name==n) l 0 (by omega)with h |⟨h1,h2⟩
 ·exact .inl h
 ·exact .inr ⟨h1,by unfold aF;omega⟩
theorem KM(hi:i<c.states.length)(hl:c.states.length≤maxLen):ah Tryz.prog 154 [.e .chart c,.i (i:Int)] [] (.x (.i (eg c.states i))) []:=by
 refine dg Iq Tryz.func154 (let x1:=(ETy.get .stat c.states i);let x2:=(aF c.states (Stat.initial x1));let x3:=(c.states.length≤maxLen);let x4:=(aF c.states (Stat.initial x1)<(0:Int));.need (inRg i c.states.length) (.ite (Stat.kind x1 != (2:Int) && !bg (Stat.kind x1)) (.ret (.i (b7 (Stat.initial x1==[]) (1:Int))) []) (.need (decide x4=false→(0:Int)≤aF c.states (Stat.initial x1)∧aF c.states (Stat.initial x1)<(c.states.length:Int)) (.ite (decide x4||bg (Stat.kind (ETy.get .stat c.states (x2.toNat)))) (.ret (.i 2) []) (.need x3 (.ite (Stat.kind x1==(2:Int)) (.need x3 (.ret (.i (b7 (c7 c.states x2==(i:Int)) (2:Int))) [])) (.ite (Stat.kind x1==(5:Int)) (.need x3 (.ret (.i (b7 (c7 c.states x2==c7 c.states (i:Int)) (2:Int))) [])) (.need x3 (.ret (.i (b7 (iR c.states (c7 c.states (i:Int)) x2) (2:Int))) []))))))))) fun Γ=>?_
 conv=>zeta
 unfold eg
 have hp:=k8 c.states (ETy.get .stat c.states i).initial
 refine⟨⟨by omega,by omega⟩,fun h=>?_,fun h=>⟨fun h2=>?_,fun h3=>?_,fun h3=>⟨hl,fun h4=>⟨hl,?_⟩,fun h4=>⟨fun h5=>⟨hl,?_⟩,fun h5=>⟨hl,?_⟩⟩⟩⟩⟩
 ·rw[if_pos h];exact⟨rfl,rfl⟩
 · have:=of_decide_eq_false h2
   rcases hp with e |e
   ·omega
   ·exact e
 ·rw[if_neg (by rw[h];decide),if_pos h3];exact⟨rfl,rfl⟩
 ·rw[if_neg (by rw[h];decide),if_neg (by rw[h3];decide),if_pos h4];exact⟨rfl,rfl⟩
 ·rw[if_neg (by rw[h];decide),if_neg (by rw[h3];decide),if_neg (by rw[h4];decide),if_pos h5];exact⟨rfl,rfl⟩
 ·rw[if_neg (by rw[h];decide),if_neg (by rw[h3];decide),if_neg (by rw[h4];decide),if_neg (by rw[h5];decide)];exact⟨rfl,rfl⟩
theorem HB(i:Int)(h:0≤i∧i<(c.states.length:Int)∧c.states.length≤maxLen):ah Tryz.prog 154 [.e .chart c,.i i] [] (.x (.i (eg c.states i.toNat))) []:=by
 obtain⟨k,rfl⟩:=aA h.1
 rw[ai]
 exact KM c k (by omega) h.2.2
def vf:Ent:=(154,fun
 |[.agg [.pd (.str a),.pd (.lst .str b),.pd (.lst .var c),.pd (.lst .stat d),.pd (.lst .tran e)],.c (.pd (.int .i64 i))],[]=>some (some (0≤i∧i<(d.length:Int)∧d.length≤maxLen),.x (.c (.pd (.int .i64 (eg d i.toNat)))),[])
 |_,_=>none)
theorem Jl:EntOk Tryz.prog vf:=entOk fun vs ck=>by
 unfold vf;dsimp only;split
 ·rename_i a b c d e i;exact entS fun hp=>HB ⟨a,b,c,d,e⟩ i hp
 ·exact entN
theorem K8(v:Var)(a:Deed):ah Tryz.prog 257 [.e .var v,.p (.ref .deed a 0)] [] (.x (.b (v.name==a.name))) []:=by
 refine dg aX Tryz.func257 (.ret (.p (.bool (v.name==a.name))) []) fun Γ=>⟨rfl,rfl⟩
def FB:Ent:=(257,fun
 |[.agg [.pd (.str a),.pd (.int .i64 b),.pd (.int .i64 e),.pd (.int .i64 f),.pd (.int .i64 g),.pd (.int .i64 h),.pd (.int .i64 i)],.c (.pd (.ref .deed ⟨x,y,z⟩ 0))],[]=>some (none,.x (.c (.pd (.bool (a==y)))),[])
 |_,_=>none)
theorem Pk:EntOk Tryz.prog FB:=entOk fun vs ck=>by
 unfold FB;dsimp only;split
 ·rename_i a b e f g h i x y z;exact entS fun hp=>K8 ⟨a,b,e,f,⟨g,h,i⟩⟩ ⟨x,y,z⟩
 ·exact entN
def A1:Cfg:=⟨aU,[FB]⟩
theorem xy:ag Tryz.prog A1.tab:=(ag.cons Pk ag.nil)
abbrev zTh3:List PI:=[.code [1,0,1,0,0],.inLoop [1,0,1,0,0],.inBlock 0,.code [1,1]]
theorem My(l:List Var)(s:Deed)(Γ:Ctx)(hl:l.length≤maxLen)  : ∀(n k:Nat),l.length - k≤n→k≤l.length →
 J Tryz.prog 112 (ar Tryz.f112) Γ (Eq2 (.x (.i (ay (fun v:Var=>v.name==s.name) (l.drop k) k))) []) zTh3 ({n:=19,fr:=[(0,.p (.lst .var l)),(1,.x (.c (.fn (.func 257) [] [.pd (.ref .deed s 0)]))),(4,.i 0),(7,.i l.length),(8,.i k)],ck:=[]}):=by
 intro n
 induction n with
 |zero=>?_
 |succ n ih=>?_
 all_goals
  intro k hn hk
  refine jg xy Tryz.func112 (.ite (decide ((k:Int)<(l.length:Int))) (.need (inRg k l.length) (.ite (Var.name (ETy.get .var l k)==s.2) (.ret (.i k) []) (.stop zTh3 {n:=19,fr:=[(0,.p (.lst .var l)),(1,.x (.c (.fn (.func 257) [] [.pd (.ref .deed s 0)]))),(4,.i 0),(7,.i l.length),(8,.i (IntKind.wrap .i64 ((k:Int)+1)))],ck:=[]}))) (.ret (.i (-1:Int)) [])) ?_
  refine⟨fun hlt=>?_,fun hge=>?_⟩
  · have hk':k<l.length:=by have:=of_decide_eq_true hlt;omega
    rw[bx (t:=.var) (l:=l) hk']
    refine⟨by omega,?_⟩
    generalize ETy.get .var l k=v
    refine⟨fun hb=>⟨?_,rfl⟩,fun hb=>?_⟩
    ·simp only[ay,hb,cond_true]
    ·simp only[ay,hb,cond_false];(rw[aZ (aG hk' hl)];first |(exfalso;omega) |exact ih (k+1) (by omega) (by omega))
  · rw[bS (l:=l) (by have:=of_decide_eq_false hge;omega)]
    exact⟨rfl,rfl⟩
theorem Mz(l:List Var)(s:Deed):ah Tryz.prog 112 [.l .var (l),SX.c (SC.fn (Fn.func 257) [] [RC.pd (PD.ref ETy.deed s 0)])] [] (.x (.i (ay (fun v:Var=>v.name==s.name) l 0))) []:=by
 refine dg xy Tryz.func112 (.stop zTh3 {n:=19,fr:=[(0,.p (.lst .var l)),(1,.x (.c (.fn (.func 257) [] [.pd (.ref .deed s 0)]))),(4,.i 0),(7,.i l.length),(8,.i 0)],ck:=[]}) fun Γ=>?_
 exact J.len 0 rfl fun hl=>My l s Γ hl l.length 0 (by omega) (by omega)
def FR:Ent:=(112,fun
 |[.c (.pd (.lst .var l)),.c (.fn (.func 257) [] [.pd (.ref .deed s 0)])],[]=>some (none,.x (.c (.pd (.int .i64 (ay (fun v:Var=>v.name==s.name) l 0)))),[])
 |_,_=>none)
theorem Pv:EntOk Tryz.prog FR:=entOk fun vs ck=>by
 unfold FR;dsimp only;split
 ·rename_i l s;exact entS fun hp=>Mz l s
 ·exact entN
def E9:Cfg:=⟨aU,[eOf,uv,eSc,FR]⟩
theorem A2:ag Tryz.prog E9.tab:=(ag.cons I8 (ag.cons IY (ag.cons uW (ag.cons Pv ag.nil))))
variable(ev:List Str)(c:Chart)(vs:List Var)(l:List Deed)(a:Deed)(Γ:Ctx)
def dI:Int :=
 if(a.kind != 1)=true then(if(!(ev.any fun x=>a.name==x))=true then 2 else 0)
 else if decide (ay (fun v:Var=>v.name==a.name) vs 0<0)=true then 2
 else if((cm a.expr vs []).2 != 0)=true then(cm a.expr vs []).2
 else if((cm a.expr vs []).1 != (ETy.get .var vs (ay (fun v:Var=>v.name==a.name) vs 0).toNat).kind)=true then 8 else 0
def kA(ev:List Str)(vs:List Var):List Deed→Int
 |[]=>0
 |a::r=>if(dI ev vs a != 0)=true then dI ev vs a else kA ev vs r
def cE:Int :=
 if((l.length:Int)==0)=true then 0 else if(!gM l)=true then 1 else kA ev vs l
abbrev zTh1(a:Chart):List Chunk:=[.cells [.pd (.str a.name),.pd (.lst .str a.events),.pd (.lst .var a.vars),.pd (.lst .stat a.states),.pd (.lst .tran a.trans)] 27]
abbrev zTh2:List PI:=[.code [1,1,1,0,1,0,0],.inLoop [1,1,1,0,1,0,0],.inBlock 0,.code [1,1,1,1]]
theorem O4(hl:l.length≤maxLen)  : ∀(n k:Nat),l.length - k≤n→k≤l.length →
 J Tryz.prog 213 (ar Tryz.f213) Γ (Eq2 (.x (.i (kA c.events c.vars (l.drop k)))) []) zTh2 ({n:=57,fr:=[(2,.x (.c (.loc 0 0))),(4,.i 0),(16,.p (.lst .deed l)),(17,.i l.length),(18,.i k)],ck:=(zTh1 c)}):=by
 intro n
 induction n with
 |zero=>?_
 |succ n ih=>?_
 all_goals
  intro k hn hk
  refine jg A2 Tryz.func213 (let x1:Tree:=(.stop zTh2 {n:=57,fr:=[(2,.x (.c (.loc 0 0))),(4,.i 0),(16,.p (.lst .deed l)),(17,.i l.length),(18,.i (IntKind.wrap .i64 ((k:Int)+1)))],ck:=(zTh1 c)});let x2:=(cm (Deed.expr (ETy.get .deed l k)) c.vars []);.ite (decide ((k:Int)<(l.length:Int))) (.need (inRg k l.length) (.ite (Deed.kind (ETy.get .deed l k) != (1:Int)) (.ite (!List.any c.events fun x=>Deed.name (ETy.get .deed l k)==x) (.ret (.i 2) []) x1) (.ite (decide (ay (fun v=>v.name==Deed.name (ETy.get .deed l k)) c.vars (0:Int)<0)) (.ret (.i 2) []) (.ite (x2.2 != (0:Int)) (.ret (.i (x2.2)) []) (.need ((0:Int)≤ay (fun v=>v.name==Deed.name (ETy.get .deed l k)) c.vars (0:Int)∧ay (fun v=>v.name==Deed.name (ETy.get .deed l k)) c.vars (0:Int)<(c.vars.length:Int)) (.ite (x2.1 != Var.kind (ETy.get .var c.vars ((ay (fun v=>v.name==Deed.name (ETy.get .deed l k)) c.vars (0:Int)).toNat))) (.ret (.i 8) []) x1)))))) (.ret (.i 0) [])) ?_
  conv=>zeta
  refine⟨fun hlt=>?_,fun hge=>?_⟩
  · have hk':k<l.length:=by have:=of_decide_eq_true hlt;omega
    rw[bx (t:=.deed) (l:=l) hk']
    refine⟨by omega,?_⟩
    generalize ETy.get .deed l k=v
    have hs:∀r,kA c.events c.vars (v::r)=if(dI c.events c.vars v != 0)=true then dI c.events c.vars v else kA c.events c.vars r:=fun _=>rfl
    have hin:=mq (fun x:Var=>x.name==v.name) c.vars 0 (by omega)
    refine⟨fun h1=>⟨fun h2=>?_,fun h2=>?_⟩,fun h1=>⟨fun h2=>?_,fun h2=>⟨fun h3=>?_,fun h3=>⟨?_,⟨fun h4=>?_,fun h4=>?_⟩⟩⟩⟩⟩
    · have he:dI c.events c.vars v=2:=by unfold dI;rw[if_pos h1,if_pos h2]
      rw[hs,he];exact⟨rfl,rfl⟩
    · have he:dI c.events c.vars v=0:=by unfold dI;rw[if_pos h1,if_neg (by rw[h2];decide)]
      rw[hs,he,if_neg (by decide)];(rw[aZ (aG hk' hl)];first |(exfalso;omega) |exact ih (k+1) (by omega) (by omega))
    · have he:dI c.events c.vars v=2:=by unfold dI;rw[if_neg (by rw[h1];decide)];exact if_pos h2
      rw[hs,he];exact⟨rfl,rfl⟩
    · have he:dI c.events c.vars v=(cm v.expr c.vars []).2:=by unfold dI;rw[if_neg (by rw[h1];decide),if_neg (by show ¬_;exact fun e=>by rw[e]at h2;cases h2),if_pos h3]
      rw[hs,he,if_pos h3];exact⟨rfl,rfl⟩
    · have:=of_decide_eq_false h2
      rcases hin with e |⟨e1,e2⟩
      ·exfalso;exact this (by show ay (fun x:Var=>x.name==v.name) c.vars 0<0;omega)
      ·exact⟨e1,by omega⟩
    · have he:dI c.events c.vars v=8:=by unfold dI;rw[if_neg (by rw[h1];decide),if_neg (by exact fun e=>by rw[e]at h2;cases h2),if_neg (by rw[h3];decide),if_pos h4]
      rw[hs,he];exact⟨rfl,rfl⟩
    · have he:dI c.events c.vars v=0:=by unfold dI;rw[if_neg (by rw[h1];decide),if_neg (by exact fun e=>by rw[e]at h2;cases h2),if_neg (by rw[h3];decide),if_neg (by exact fun e=>by rw[e]at h4;cases h4)]
      rw[hs,he,if_neg (by decide)];(rw[aZ (aG hk' hl)];first |(exfalso;omega) |exact ih (k+1) (by omega) (by omega))
  · rw[bS (l:=l) (by have:=of_decide_eq_false hge;omega)]
    exact⟨rfl,rfl⟩
theorem D3:ah Tryz.prog 213 [.e .chart c,.l .deed l] [] (.x (.i (cE c.events c.vars l))) []:=by
 refine dg A2 Tryz.func213 (.ite ((l.length:Int)==0) (.ret (.i 0) []) (.ite (!gM l) (.ret (.i 1) []) (.stop zTh2 {n:=57,fr:=[(2,.x (.c (.loc 0 0))),(4,.i 0),(16,.p (.lst .deed l)),(17,.i l.length),(18,.i 0)],ck:=(zTh1 c)}))) fun Γ=>?_
 refine⟨fun h=>?_,fun h=>⟨fun h2=>?_,fun h2=>?_⟩⟩
 ·unfold cE;rw[if_pos h];exact⟨rfl,rfl⟩
 ·unfold cE;rw[if_neg (by rw[h];decide),if_pos h2];exact⟨rfl,rfl⟩
 · unfold cE;rw[if_neg (by rw[h];decide),if_neg (by rw[h2];decide)]
   exact J.len 16 rfl fun hl=>O4 c l Γ hl l.length 0 (by omega) (by omega)
def BR:Ent:=(213,fun
 |[.agg [.pd (.str a),.pd (.lst .str b),.pd (.lst .var c),.pd (.lst .stat d),.pd (.lst .tran e)],.c (.pd (.lst .deed l))],[]=>some (none,.x (.c (.pd (.int .i64 (cE b c l)))),[])
 |_,_=>none)
theorem Es:EntOk Tryz.prog BR:=entOk fun vs ck=>by
 unfold BR;dsimp only;split
 ·rename_i a b c d e l;exact entS fun hp=>D3 ⟨a,b,c,d,e⟩ l
 ·exact entN
end Go.Proofs.YtlhgnjmdopjpeaaGreatDoor
