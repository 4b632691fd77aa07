/- Contracts of the program's functions on points. Conditions: none. Plain laws: whole numbers within int64, products; what operations on values come to. Conditions: each theorem's own. Contracts of the program's functions on values: numbers. Conditions: none. -/
import Derived.Test.YtlhgnjmdopjpeaaGreatDoorKb
import Derived.Test.YtlhgnjmdopjpeaaGreatDoorId
import Derived.Laws.MathBits
namespace Go.Proofs.YtlhgnjmdopjpeaaGreatDoor
open Go Go.Ev
set_option maxRecDepth 100000
theorem HG(x:Nat):ah Tryz.prog 244 [.c (.pd (.fl (some x)))] [] (.x (.b (iq x))) []:=by
 refine dg aX Tryz.func244 (let x1:=(dB x 13920626448202203136==some Ordering.gt||dB x 13920626448202203136==some Ordering.eq);let x2:=(dB x 4697254411347427328==some Ordering.lt||dB x 4697254411347427328==some Ordering.eq);.need ((x1&&x2)=true→jJ .i64 x) (.ret (.p (.bool (x1&&x2&&dB x (FloatKind.nearest FloatKind.f64 (da x))==some Ordering.eq))) [])) fun Γ=>?_
 conv=>zeta
 exact⟨fun h=>pA h,rfl,rfl⟩
def vh:Ent:=(244,fun
 |[.c (.pd (.fl (some x)))],[]=>some (none,.x (.c (.pd (.bool (iq x)))),[])
 |_,_=>none)
theorem Jn:EntOk Tryz.prog vh:=entOk fun vs ck=>by
 unfold vh;dsimp only;split
 ·rename_i x;exact entS fun hp=>HG x
 ·exact entN
def Bn:Cfg:=⟨aU,[vh]⟩
theorem C8:ag Tryz.prog Bn.tab:=(ag.cons Jn ag.nil)
theorem Dy(p:Nat×Nat):ah Tryz.prog 196 [.c (.pd (.cx (some p)))] [] (.x (.b (bV p))) []:=by
 refine dg C8 Tryz.func196 (.ret (.p (.bool (iq (Prod.fst p)&&iq (Prod.snd p)))) []) fun Γ=>?_
 exact⟨rfl,rfl⟩
theorem DH(o:Option (Nat×Nat))(h:o.isSome=true):ah Tryz.prog 196 [.c (.pd (.cx o))] [] (.x (.b (dT o))) []:=by
 obtain⟨p,rfl⟩:=fM.1 h
 exact Dy p
def rW:Ent:=(196,fun
 |[.c (.pd (.cx o))],[]=>some (some (o.isSome=true),.x (.c (.pd (.bool (dT o)))),[])
 |_,_=>none)
theorem F9:EntOk Tryz.prog rW:=entOk fun vs ck=>by
 unfold rW;dsimp only;split
 ·rename_i o;exact entS fun hp=>DH o hp
 ·exact entN
theorem Fu(p:Nat×Nat)(h:bV p=true):ah Tryz.prog 223 [.c (.pd (.cx (some p)))] [] (.x (.c (.pd (.cx (some (qk p)))))) []:=by
 refine dg aX Tryz.func223 (.need (jJ .i64 (Prod.fst p)) (.need (jJ .i64 (Prod.snd p)) (.ret (.p (.cx (some (FloatKind.nearest FloatKind.f64 (da (Prod.fst p)),FloatKind.nearest FloatKind.f64 (da (Prod.snd p)))))) []))) fun Γ=>?_
 obtain⟨h1,h2⟩:=ri h
 exact⟨h1,h2,rfl,rfl⟩
theorem C9(o:Option (Nat×Nat))(h:dT o=true):ah Tryz.prog 223 [.c (.pd (.cx o))] [] (.x (.c (.pd (.cx (some (qj o)))))) []:=by
 cases o with
 |none=>cases h
 |some p=>exact Fu p h
def ux:Ent:=(223,fun
 |[.c (.pd (.cx o))],[]=>some (some (dT o=true),.x (.c (.pd (.cx (some (qj o))))),[])
 |_,_=>none)
theorem I0:EntOk Tryz.prog ux:=entOk fun vs ck=>by
 unfold ux;dsimp only;split
 ·rename_i o;exact entS fun hp=>C9 o hp
 ·exact entN
def mQ:Cfg:=⟨aU,[rW,ux]⟩
theorem lj:ag Tryz.prog mQ.tab:=(ag.cons F9 (ag.cons I0 ag.nil))
theorem G0(a b:Int):ah Tryz.prog 175 [.i a,.i b] [] (.tup [.c (.pd (.cx (some (aw a b)))),.i (hX a b)]) []:=by
 refine dg aX Tryz.func175 (.ite (decide (a<(-1048576:Int))||decide (a>(1048576:Int))||decide (b<(-1048576:Int))||decide (b>(1048576:Int))) (.ret (.tup [.p (.cx (some (0,0))),.i 5]) []) (.ret (.tup [.p (.cx (some (FloatKind.nearest FloatKind.f64 a,FloatKind.nearest FloatKind.f64 b))),.i 0]) [])) fun Γ=>?_
 refine⟨fun h=>⟨?_,rfl⟩,fun h=>⟨?_,rfl⟩⟩
 · have:(pIn a&&pIn b)=false:=by
    simp only[aN,decide_eq_true_eq]at h
    simp only[pIn,bZ,decide_eq_false_iff_not];omega
   simp[aw,hX,this]
 · have:(pIn a&&pIn b)=true:=by
    simp only[al,decide_eq_false_iff_not]at h
    simp only[pIn,af,decide_eq_true_eq];omega
   simp[aw,hX,this,num]
def qn:Ent:=(175,fun
 |[.c (.pd (.int .i64 a)),.c (.pd (.int .i64 b))],[]=>some (none,.tup [.c (.pd (.cx (some (aw a b)))),.c (.pd (.int .i64 (hX a b)))],[])
 |_,_=>none)
theorem xO:EntOk Tryz.prog qn:=entOk fun vs ck=>by
 unfold qn;dsimp only;split
 ·rename_i a b;exact entS fun hp=>G0 a b
 ·exact entN
theorem Dx(p:Nat×Nat):ah Tryz.prog 125 [.c (.pd (.cx (some p)))] [] (.tup [.i (my p),.i (mz p),.i (AH p)]) []:=by
 refine dg lj Tryz.func125 (.need (Option.isSome (some p)=true) (.ite (!dT (some p)) (.ret (.tup [.i 0,.i 0,.i 12]) []) (.need (jJ .i64 (Prod.fst p)) (.need (jJ .i64 (Prod.snd p)) (.ret (.tup [.i (da (Prod.fst p)),.i (da (Prod.snd p)),.i 0]) []))))) fun Γ=>?_
 refine⟨rfl,fun h=>?_,fun h=>?_⟩
 · have h':bV p=false:=by simpa[dT]using h
   refine⟨?_,rfl⟩;simp[my,mz,AH,h']
 · have h':bV p=true:=by simpa[dT]using h
   obtain⟨h1,h2⟩:=ri h'
   refine⟨h1,h2,?_,rfl⟩;simp[my,mz,AH,h']
def uK:Ent:=(125,fun
 |[.c (.pd (.cx (some p)))],[]=>some (none,.tup [.c (.pd (.int .i64 (my p))),.c (.pd (.int .i64 (mz p))),.c (.pd (.int .i64 (AH p)))],[])
 |_,_=>none)
theorem I9:EntOk Tryz.prog uK:=entOk fun vs ck=>by
 unfold uK;dsimp only;split
 ·rename_i p;exact entS fun hp=>Dx p
 ·exact entN
theorem KH(p q:Nat×Nat)(o:Option (Nat×Nat))(h:bV p=true→bV q=true→o.isSome=true):ah Tryz.prog 224 [.c (.pd (.cx (some p))),.c (.pd (.cx (some q))),.c (.pd (.cx o))] [] (.tup [.c (.pd (.cx (some (dE p q o)))),.i (dD p q o)]) []:=by
 refine dg lj Tryz.func224 (.need (Option.isSome (some p)=true) (.need ((!dT (some p))=false→Option.isSome (some q)=true) (.ite (!dT (some p) || !dT (some q)) (.ret (.tup [.p (.cx (some (0,0))),.i 12]) []) (.need (Option.isSome o=true) (.ite (!dT o) (.ret (.tup [.p (.cx (some (0,0))),.i 5]) []) (.need (dT o=true) (.ret (.tup [.p (.cx (some (qj o))),.i 0]) []))))))) fun Γ=>?_
 refine⟨rfl,fun _=>rfl,fun h1=>?_,fun h1=>?_⟩
 · have h':(bV p&&bV q)=false:=by
    simp only[dT,aN,aK]at h1
    simp only[bZ];exact h1
   refine⟨?_,rfl⟩;simp[dE,dD,h']
 · have h':bV p=true∧bV q=true:=by
    simpa only[dT,al,dM]using h1
   refine⟨h h'.1 h'.2,fun h2=>?_,fun h2=>?_⟩
   · have h3:dT o=false:=by simpa using h2
     refine⟨?_,rfl⟩;simp[dE,dD,h',h3]
   · have h3:dT o=true:=by simpa using h2
     refine⟨h3,?_,rfl⟩;simp[dE,dD,h',h3]
def rR:Ent:=(224,fun
 |[.c (.pd (.cx (some p))),.c (.pd (.cx (some q))),.c (.pd (.cx o))],[]=>some (some (bV p=true→bV q=true→o.isSome=true),.tup [.c (.pd (.cx (some (dE p q o)))),.c (.pd (.int .i64 (dD p q o)))],[])
 |_,_=>none)
theorem F2:EntOk Tryz.prog rR:=entOk fun vs ck=>by
 unfold rR;dsimp only;split
 ·rename_i p q o;exact entS fun hp=>KH p q o hp
 ·exact entN
def rM:Cfg:=⟨aU,[rR]⟩
theorem pg:ag Tryz.prog rM.tab:=(ag.cons F2 ag.nil)
theorem K3(p q:Nat×Nat):ah Tryz.prog 180 [.c (.pd (.cx (some p))),.c (.pd (.cx (some q)))] [] (.tup [.c (.pd (.cx (some (dE p q (cSumBits .add .f64 p.1 p.2 q.1 q.2))))),.i (dD p q (cSumBits .add .f64 p.1 p.2 q.1 q.2))]) []:=by
 refine dg pg Tryz.func180 (.need (bV p=true→bV q=true→Option.isSome (Option.bind (some p) fun p=>Option.bind (some q) fun q=>cSumBits BinOp.add FloatKind.f64 (Prod.fst p) (Prod.snd p) (Prod.fst q) (Prod.snd q))=true) (.ret (.tup [.p (.cx (some (dE p q (Option.bind (some p) fun p=>Option.bind (some q) fun q=>cSumBits BinOp.add FloatKind.f64 (Prod.fst p) (Prod.snd p) (Prod.fst q) (Prod.snd q))))),.i (dD p q (Option.bind (some p) fun p=>Option.bind (some q) fun q=>cSumBits BinOp.add FloatKind.f64 (Prod.fst p) (Prod.snd p) (Prod.fst q) (Prod.snd q)))]) [])) fun Γ=>?_
 exact⟨fun h1 h2=>K2 h1 h2,rfl,rfl⟩
def FA:Ent:=(180,fun
 |[.c (.pd (.cx (some p))),.c (.pd (.cx (some q)))],[]=>some (none,.tup [.c (.pd (.cx (some (dE p q (cSumBits .add .f64 p.1 p.2 q.1 q.2))))),.c (.pd (.int .i64 (dD p q (cSumBits .add .f64 p.1 p.2 q.1 q.2))))],[])
 |_,_=>none)
theorem Pj:EntOk Tryz.prog FA:=entOk fun vs ck=>by
 unfold FA;dsimp only;split
 ·rename_i p q;exact entS fun hp=>K3 p q
 ·exact entN
theorem N4(p q:Nat×Nat):ah Tryz.prog 181 [.c (.pd (.cx (some p))),.c (.pd (.cx (some q)))] [] (.tup [.c (.pd (.cx (some (dE p q (cSumBits .sub .f64 p.1 p.2 q.1 q.2))))),.i (dD p q (cSumBits .sub .f64 p.1 p.2 q.1 q.2))]) []:=by
 refine dg pg Tryz.func181 (.need (bV p=true→bV q=true→Option.isSome (Option.bind (some p) fun p=>Option.bind (some q) fun q=>cSumBits BinOp.sub FloatKind.f64 (Prod.fst p) (Prod.snd p) (Prod.fst q) (Prod.snd q))=true) (.ret (.tup [.p (.cx (some (dE p q (Option.bind (some p) fun p=>Option.bind (some q) fun q=>cSumBits BinOp.sub FloatKind.f64 (Prod.fst p) (Prod.snd p) (Prod.fst q) (Prod.snd q))))),.i (dD p q (Option.bind (some p) fun p=>Option.bind (some q) fun q=>cSumBits BinOp.sub FloatKind.f64 (Prod.fst p) (Prod.snd p) (Prod.fst q) (Prod.snd q)))]) [])) fun Γ=>?_
 exact⟨fun h1 h2=>N3 h1 h2,rfl,rfl⟩
def Gf:Ent:=(181,fun
 |[.c (.pd (.cx (some p))),.c (.pd (.cx (some q)))],[]=>some (none,.tup [.c (.pd (.cx (some (dE p q (cSumBits .sub .f64 p.1 p.2 q.1 q.2))))),.c (.pd (.int .i64 (dD p q (cSumBits .sub .f64 p.1 p.2 q.1 q.2))))],[])
 |_,_=>none)
theorem PK:EntOk Tryz.prog Gf:=entOk fun vs ck=>by
 unfold Gf;dsimp only;split
 ·rename_i p q;exact entS fun hp=>N4 p q
 ·exact entN
theorem MP(p q:Nat×Nat):ah Tryz.prog 182 [.c (.pd (.cx (some p))),.c (.pd (.cx (some q)))] [] (.tup [.c (.pd (.cx (some (dE p q (cMulBits p.1 p.2 q.1 q.2))))),.i (dD p q (cMulBits p.1 p.2 q.1 q.2))]) []:=by
 refine dg pg Tryz.func182 (.need (bV p=true→bV q=true→Option.isSome (Option.bind (some p) fun p=>Option.bind (some q) fun q=>cMulBits (Prod.fst p) (Prod.snd p) (Prod.fst q) (Prod.snd q))=true) (.ret (.tup [.p (.cx (some (dE p q (Option.bind (some p) fun p=>Option.bind (some q) fun q=>cMulBits (Prod.fst p) (Prod.snd p) (Prod.fst q) (Prod.snd q))))),.i (dD p q (Option.bind (some p) fun p=>Option.bind (some q) fun q=>cMulBits (Prod.fst p) (Prod.snd p) (Prod.fst q) (Prod.snd q)))]) [])) fun Γ=>?_
 exact⟨fun h1 h2=>MO h1 h2,rfl,rfl⟩
def FV:Ent:=(182,fun
 |[.c (.pd (.cx (some p))),.c (.pd (.cx (some q)))],[]=>some (none,.tup [.c (.pd (.cx (some (dE p q (cMulBits p.1 p.2 q.1 q.2))))),.c (.pd (.int .i64 (dD p q (cMulBits p.1 p.2 q.1 q.2))))],[])
 |_,_=>none)
theorem Pz:EntOk Tryz.prog FV:=entOk fun vs ck=>by
 unfold FV;dsimp only;split
 ·rename_i p q;exact entS fun hp=>MP p q
 ·exact entN
abbrev zJa1:List PI:=[.code [1,1,0,1,0,0],.inLoop [1,1,0,1,0,0],.inBlock 0,.code [1,1,1]]
theorem KI(m:Int)(Γ:Ctx)(hm:m≤3):∀(n:Nat) (k:Int) (p:Nat×Nat) (a b:Int),m - k≤n→0≤k→k≤m→isP p a b→pIn a=true→pIn b=true →
 J Tryz.prog 178 (ar Tryz.f178) Γ (Eq2 (.tup [.c (.pd (.cx (some (num (oa (m - k).toNat (a,b)).1,num (oa (m - k).toNat (a,b)).2)))),.i 0]) []) zJa1 ({n:=18,fr:=[(0,.x (.c (.pd (.cx (some p))))),(4,.p (.cx (some (0,0)))),(5,.i 0),(10,.i m),(11,.i k)],ck:=[]}):=by
 intro n
 induction n with
 |zero=>?_
 |succ n ih=>?_
 all_goals
  intro k p a b hn h0 hk hp ha hb
  refine jg lj Tryz.func178 (.ite (decide (k<m)) (.stop zJa1 {n:=18,fr:=[(0,.p (.cx (Option.bind (some p) fun p=>Option.bind (some (0,4607182418800017408)) fun q=>cMulBits (Prod.fst p) (Prod.snd p) (Prod.fst q) (Prod.snd q)))),(4,.p (.cx (some (0,0)))),(5,.i 0),(10,.i m),(11,.i (IntKind.wrap .i64 (k+(1:Int))))],ck:=[]}) (.need (dT (some p)=true) (.ret (.tup [.p (.cx (some (num (da (Prod.fst p)),num (da (Prod.snd p))))),.i 0]) []))) ?_
  refine⟨fun h=>?_,fun h=>?_⟩
  · have hlt:=of_decide_eq_true h
    first
    |(exfalso;omega)
    | (have ha':=cB ha
       have hb':=cB hb
       obtain⟨r,hr,g1,g2⟩:=oh (c:=0) (d:=4607182418800017408) hp.1 hp.2 (Mr) (P2) (z:=0) (u:=1) ha' hb' (by decide) (by decide)
       have hr':(Option.bind (some p) fun p=>Option.bind (some (0,4607182418800017408)) fun q=>cMulBits (Prod.fst p) (Prod.snd p) (Prod.fst q) (Prod.snd q))=some r:=hr
       have hx:a * 0 - b * 1 = -b:=by omega
       have hy:a * 1+b * 0=a:=by omega
       rw[hx]at g1
       rw[hy]at g2
       have hw:IntKind.i64.wrap (k+1)=k+1:=cg (by omega) (by omega)
       have hnb:pIn (-b)=true:=by simp only[pIn,af,decide_eq_true_eq]at hb ⊢;omega
       have:=ih (k+1) r (-b) a (by omega) (by omega) (by omega) ⟨g1,g2⟩ hnb ha
       rw[hr',hw]
       have ht:(m - k).toNat=(m - (k+1)).toNat+1:=by omega
       rw[ht]
       exact this)
  · have hge:=of_decide_eq_false h
    have hz:(m - k).toNat=0:=by omega
    have hr:dT (some p)=true:=by show bV p=true;rw[qQ hp,ha,hb];rfl
    have hc:qk p=(num a,num b):=xZ hp
    refine⟨hr,?_,rfl⟩
    rw[hz]
    have hc2:(num (da (Prod.fst p)),num (da (Prod.snd p)))=(num a,num b):=hc
    rw[hc2]
    rfl
theorem KJ(p:Nat×Nat)(n:Int):ah Tryz.prog 178 [.c (.pd (.cx (some p))),.i n] [] (.tup [.c (.pd (.cx (some (jV p n)))),.i (jU p)]) []:=by
 refine dg lj Tryz.func178 (.need (Option.isSome (some p)=true) (.ite (!dT (some p)) (.ret (.tup [.p (.cx (some (0,0))),.i 12]) []) (.stop zJa1 {n:=18,fr:=[(0,.p (.cx (some p))),(4,.p (.cx (some (0,0)))),(5,.i 0),(10,.i (IntKind.wrap .i64 (↑(BitVec.toNat (BitVec.ofInt 64 n &&& BitVec.ofInt 64 (3:Int))):Int))),(11,.i 0)],ck:=[]}))) fun Γ=>?_
 refine⟨rfl,fun h=>?_,fun h=>?_⟩
 · have h':bV p=false:=by simpa[dT]using h
   refine⟨?_,rfl⟩;simp[jV,jU,h']
 · have h':bV p=true:=by simpa[dT]using h
   obtain⟨a1,a2,a3,a4⟩:=iF h'
   have hq:=DA n
   have:=KI (lG n) Γ (by omega) 3 0 p _ _ (by omega) (by omega) hq.1 ⟨a1,a2⟩ a3 a4
   rw[Int.sub_zero]at this
   have e1:jV p n=(num (oa (lG n).toNat (da p.1,da p.2)).1,num (oa (lG n).toNat (da p.1,da p.2)).2):=by simp[jV,h']
   have e2:jU p=0:=by simp[jU,h']
   rw[e1,e2]
   exact this
def Av:Ent:=(178,fun
 |[.c (.pd (.cx (some p))),.c (.pd (.int .i64 n))],[]=>some (none,.tup [.c (.pd (.cx (some (jV p n)))),.c (.pd (.int .i64 (jU p)))],[])
 |_,_=>none)
theorem L3:EntOk Tryz.prog Av:=entOk fun vs ck=>by
 unfold Av;dsimp only;split
 ·rename_i p n;exact entS fun hp=>KJ p n
 ·exact entN
end Go.Proofs.YtlhgnjmdopjpeaaGreatDoor
namespace Go.Ev
def i64(n:Int):Bool:=decide (-9223372036854775808≤n)&&decide (n≤9223372036854775807)
theorem eZ{n:Int}:i64 n=true↔-9223372036854775808≤n∧n≤9223372036854775807:=by simp[i64]
theorem wrap_i64{n:Int}(h:i64 n=true):IntKind.i64.wrap n=n:=by
 have:=eZ.1 h
 exact cg this.1 this.2
theorem wrap_u64(n:Int):IntKind.u64.wrap n=n % 18446744073709551616:=by
 simp only[IntKind.wrap,IntKind.signed,IntKind.bits]
 simp
theorem jQ(n:Int):IntKind.i64.wrap n=(n+9223372036854775808) % 18446744073709551616 - 9223372036854775808:=by
 simp only[IntKind.wrap,IntKind.signed,IntKind.bits]
 simp
 omega
def b5(n:Int):Int:=if n<0 then -n else n
def kE(x y:Int):Int:=x * y / 18446744073709551616
def j3(x y:Int):Int:=x * y % 18446744073709551616
def u64(n:Int):Bool:=decide (0≤n)&&decide (n<18446744073709551616)
theorem xi{n:Int}:u64 n=true↔0≤n∧n<18446744073709551616:=by simp[u64]
theorem AL{n:Int}(h:i64 n=true):u64 (b5 n)=true:=by
 have:=eZ.1 h
 rw[xi];unfold b5;split <;> omega
theorem Sl(n:Int):(((BitVec.ofInt 64 n &&& BitVec.ofInt 64 4294967295).toNat:Nat):Int)=n % 4294967296:=by
 have h3:(BitVec.ofInt 64 4294967295).toNat=2 ^ 32 - 1:=by decide
 rw[BitVec.toNat_and,h3,Nat.and_two_pow_sub_one_eq_mod,BitVec.toNat_ofInt]
 have p64:(2:Nat) ^ 64=18446744073709551616:=by decide
 have p2:(2:Nat) ^ 32=4294967296:=by decide
 rw[p64,p2]
 omega
theorem RW(n:Int):Int.fdiv n (2 ^ 32)=n / 4294967296:=by
 rw[show(2:Int) ^ 32=4294967296 from by decide,Int.fdiv_eq_ediv_of_nonneg _ (by decide)]
theorem Qe(n:Int):n % 4294967296 % 18446744073709551616=n % 4294967296:=by omega
def iW(a b:Int):Int :=
 if kE (b5 a) (b5 b)≠0 then 0
 else if decide (a<0) != decide (b<0)then IntKind.i64.wrap (0 - IntKind.i64.wrap (j3 (b5 a) (b5 b)))
 else IntKind.i64.wrap (j3 (b5 a) (b5 b))
theorem MN(a b:Int):a * b=if decide (a<0) != decide (b<0)then -(b5 a * b5 b)else b5 a * b5 b:=by
 unfold b5
 by_cases ha:a<0 <;> by_cases hb:b<0 <;> simp[ha,hb,Int.neg_mul,Int.mul_neg]
theorem ue(a b:Int):0≤b5 a * b5 b:=by
 refine Int.mul_nonneg ?_ ?_ <;> (unfold b5;split <;> omega)
theorem vO(a b:Int):(kE (b5 a) (b5 b)≠0→i64 (a * b)=false) ∧
 (kE (b5 a) (b5 b)=0→(decide (a<0) != decide (b<0))=true→(i64 (a * b)=decide (j3 (b5 a) (b5 b)≤9223372036854775808))∧(i64 (a * b)=true→iW a b=a * b)) ∧
 (kE (b5 a) (b5 b)=0→(decide (a<0) != decide (b<0))=false→(i64 (a * b)=decide (j3 (b5 a) (b5 b)<9223372036854775808))∧(i64 (a * b)=true→iW a b=a * b)):=by
 have hs:=MN a b
 have hn:=ue a b
 have hv:iW a b=if kE (b5 a) (b5 b)≠0 then 0
  else if decide (a<0) != decide (b<0)then IntKind.i64.wrap (0 - IntKind.i64.wrap (j3 (b5 a) (b5 b)))
  else IntKind.i64.wrap (j3 (b5 a) (b5 b)):=rfl
 unfold kE j3 at *
 generalize b5 a * b5 b=m at *
 refine⟨fun h=>?_,fun h hd=>?_,fun h hd=>?_⟩
 · rw[hs]
   simp only[i64,bZ,decide_eq_false_iff_not]
   split <;> omega
 · rw[hd,if_pos rfl]at hs
   rw[hd,if_neg (by simpa using h),if_pos rfl]at hv
   have hm:m % 18446744073709551616=m:=by omega
   rw[hm]at hv ⊢
   constructor
   · rw[hs,aT]
     simp only[i64,af,decide_eq_true_eq]
     omega
   · intro hi
     have:=eZ.1 hi
     rw[hv,jQ,jQ]
     omega
 · rw[hd,if_neg (by simp)]at hs
   rw[hd,if_neg (by simpa using h),if_neg (by simp)]at hv
   have hm:m % 18446744073709551616=m:=by omega
   rw[hm]at hv ⊢
   constructor
   · rw[hs,aT]
     simp only[i64,af,decide_eq_true_eq]
     omega
   · intro hi
     have:=eZ.1 hi
     rw[hv,jQ]
     omega
def okI(n:Int):Int×Int:=if i64 n then(n,0)else(0,7)
def cj(op a b:Int):Int×Int :=
 if op=11 then okI (a+b)else if op=12 then okI (a - b)else if op=13 then okI (a * b)
 else if b=0 then(0,6)else if op=14 then okI (a.tdiv b)else(a.tmod b,0)
theorem AM{a b:Int}(ha:i64 a=true)(hb:i64 b=true):(decide (IntKind.i64.wrap (a+b)<a)==decide (b<0))=i64 (a+b):=by
 have:=eZ.1 ha;have:=eZ.1 hb
 rw[jQ,aT]
 simp only[i64,beq_iff_eq,af,decide_eq_true_eq,decide_eq_decide]
 omega
theorem pO{a b:Int}(ha:i64 a=true)(hb:i64 b=true):(decide (IntKind.i64.wrap (a - b)>a)==decide (b<0))=i64 (a - b):=by
 have:=eZ.1 ha;have:=eZ.1 hb
 rw[jQ,aT]
 simp only[i64,beq_iff_eq,af,decide_eq_true_eq,decide_eq_decide]
 omega
theorem N6{a b:Int}(ha:i64 a=true)(h0:b≠0)(h1:b≠-1):i64 (a.tdiv b)=true:=by
 have h:=eZ.1 ha
 rw[eZ]
 have hb:(a.tdiv b).natAbs=a.natAbs / b.natAbs:=Int.natAbs_tdiv a b
 have hle:a.natAbs / b.natAbs≤a.natAbs:=Nat.div_le_self _ _
 by_cases hmin:a.natAbs=9223372036854775808
 · by_cases hb1:b=1
   ·subst hb1;simp only[Int.tdiv_one];exact h
   · have h2:2≤b.natAbs:=by omega
     have:a.natAbs / b.natAbs≤a.natAbs / 2:=Nat.div_le_div_left h2 (by decide)
     omega
 ·omega
theorem Oa{a b:Int}(ha:i64 a=true):i64 (a.tmod b)=true:=by
 have h:=eZ.1 ha
 rw[eZ]
 have hb:(a.tmod b).natAbs=a.natAbs % b.natAbs:=Int.natAbs_tmod a b
 have hle:a.natAbs % b.natAbs≤a.natAbs:=Nat.mod_le _ _
 have hs:0≤a→0≤a.tmod b:=fun h=>Int.tmod_nonneg _ h
 have hs2:a<0→a.tmod b≤0:=fun h=>by
  have h1:0≤(-a).tmod b:=Int.tmod_nonneg _ (by omega)
  rw[Int.neg_tmod]at h1;omega
 omega
theorem CS(a:Int):a.tdiv (-1)=0 - a:=by rw[Int.tdiv_neg,Int.tdiv_one];omega
theorem CV(a:Int):a.tmod (-1)=0:=by rw[Int.tmod_neg,Int.tmod_one]
end Go.Ev
namespace Go.Ev
def vR(v:Val):Bool:=if v.kind=1 then v.b==0 else if v.kind=2 then v.b==0&&(v.a==0||v.a==1)else if v.kind=3 then pIn v.a&&pIn v.b else false
def bn(b:Bool):Val:=⟨2,if b then 1 else 0,0⟩
def cW(n:Int):Val:=⟨1,n,0⟩
def jk(a b:Int):Val×Int:=if pIn a&&pIn b then(⟨3,a,b⟩,0)else(Val.zero,5)
def qZ(r:Int×Int):Val×Int:=if r.2=0 then(cW r.1,0)else(Val.zero,r.2)
def cP(op:Int)(u v:Val):Val×Int :=
 if u.kind≠v.kind then(Val.zero,8)
 else if op=16 then(bn (u.a==v.a&&u.b==v.b),0)
 else if op=17 then(bn (!(u.a==v.a&&u.b==v.b)),0)
 else if u.kind=2∧op=22 then(bn (u.a==1&&v.a==1),0)
 else if u.kind=2∧op=23 then(bn (u.a==1||v.a==1),0)
 else if u.kind=3∧op=11 then jk (u.a+v.a) (u.b+v.b)
 else if u.kind=3∧op=12 then jk (u.a - v.a) (u.b - v.b)
 else if u.kind=3∧op=13 then jk (u.a * v.a - u.b * v.b) (u.a * v.b+u.b * v.a)
 else if u.kind≠1 then(Val.zero,8)
 else if op=18 then(bn (decide (u.a<v.a)),0)
 else if op=19 then(bn (decide (u.a≤v.a)),0)
 else if op=20 then(bn (decide (u.a>v.a)),0)
 else if op=21 then(bn (decide (u.a≥v.a)),0)
 else if op=22∨op=23 then(Val.zero,8)
 else qZ (cj op u.a v.a)
def bI(op:Int)(u:Val):Val×Int :=
 if op=7∧u.kind=1 then qZ (okI (0 - u.a))
 else if op=7∧u.kind=3 then(⟨3, -u.a, -u.b⟩,0)
 else if op=8∧u.kind=2 then(bn (u.a==0),0)
 else if op=9∧u.kind=3 then(cW u.a,0)
 else if op=10∧u.kind=3 then(cW u.b,0)
 else(Val.zero,8)
def vOk(v:Val):Bool:=vR v&&i64 v.a
/-! ### points -/
theorem fD{a b:Int}(ha:pIn a=true)(hb:pIn b=true):aw a b=(num a,num b)∧hX a b=0∧isP (aw a b) a b∧bV (aw a b)=true:=by
 have e:aw a b=(num a,num b):=by simp[aw,ha,hb]
 have h:=P3 (a:=a) (b:=b) (by have:=cB ha;omega) (by have:=cB hb;omega)
 refine⟨e,by simp[hX,ha,hb],by rw[e];exact h,?_⟩
 rw[e,qQ h,ha,hb];rfl
theorem xh{p q:Nat×Nat}{o:Option (Nat×Nat)}{r:Nat×Nat}{x y:Int}(hp:bV p=true)(hq:bV q=true)(ho:o=some r)(hr:isP r x y):dE p q o=aw x y∧dD p q o=hX x y:=by
 subst ho
 have h1:dT (some r)=(pIn x&&pIn y):=qQ hr
 have h2:qj (some r)=(num x,num y):=xZ hr
 simp[dE,dD,aw,hX,hp,hq,h1,h2]
theorem yl{x y:Int}(hx:pIn x=true)(hy:pIn y=true):my (aw x y)=x∧mz (aw x y)=y:=by
 obtain⟨h1,h2,h3,h4⟩:=fD hx hy
 simp only[my,mz,h4,if_true,j2 h3.1,j2 h3.2,and_self]
def cz(p:Nat×Nat)(e:Int):Val×Int:=if e≠0 then(Val.zero,e)else(⟨3,my p,mz p⟩,0)
theorem oj(x y:Int):cz (aw x y) (hX x y)=jk x y:=by
 unfold cz jk
 cases h:(pIn x&&pIn y)
 · have:hX x y=5:=by simp[hX,h]
   rw[this];simp
 · simp only[af]at h
   obtain⟨h1,h2⟩:=yl h.1 h.2
   have:hX x y=0:=by simp[hX,h]
   rw[this,h1,h2];simp
theorem EY{a b c d:Int}(ha:pIn a=true)(hb:pIn b=true)(hc:pIn c=true)(hd:pIn d=true):cz (dE (aw a b) (aw c d) (cSumBits .add .f64 (aw a b).1 (aw a b).2 (aw c d).1 (aw c d).2)) (dD (aw a b) (aw c d) (cSumBits .add .f64 (aw a b).1 (aw a b).2 (aw c d).1 (aw c d).2))=jk (a+c) (b+d):=by
 obtain⟨_,_,p1,r1⟩:=fD ha hb
 obtain⟨_,_,p2,r2⟩:=fD hc hd
 have:=cB ha;have:=cB hb;have:=cB hc;have:=cB hd
 have p53:(2:Nat) ^ 53=9007199254740992:=by decide
 obtain⟨r,hr,g1,g2⟩:=ta p1.1 p1.2 p2.1 p2.2 (by omega) (by omega)
 obtain⟨t1,t2⟩:=xh r1 r2 hr ⟨g1,g2⟩
 rw[t1,t2,oj]
theorem Ho{a b c d:Int}(ha:pIn a=true)(hb:pIn b=true)(hc:pIn c=true)(hd:pIn d=true):cz (dE (aw a b) (aw c d) (cSumBits .sub .f64 (aw a b).1 (aw a b).2 (aw c d).1 (aw c d).2)) (dD (aw a b) (aw c d) (cSumBits .sub .f64 (aw a b).1 (aw a b).2 (aw c d).1 (aw c d).2))=jk (a - c) (b - d):=by
 obtain⟨_,_,p1,r1⟩:=fD ha hb
 obtain⟨_,_,p2,r2⟩:=fD hc hd
 have:=cB ha;have:=cB hb;have:=cB hc;have:=cB hd
 have p53:(2:Nat) ^ 53=9007199254740992:=by decide
 obtain⟨r,hr,g1,g2⟩:=qV p1.1 p1.2 p2.1 p2.2 (by omega) (by omega)
 obtain⟨t1,t2⟩:=xh r1 r2 hr ⟨g1,g2⟩
 rw[t1,t2,oj]
theorem GP{a b c d:Int}(ha:pIn a=true)(hb:pIn b=true)(hc:pIn c=true)(hd:pIn d=true):cz (dE (aw a b) (aw c d) (cMulBits (aw a b).1 (aw a b).2 (aw c d).1 (aw c d).2)) (dD (aw a b) (aw c d) (cMulBits (aw a b).1 (aw a b).2 (aw c d).1 (aw c d).2))=jk (a * c - b * d) (a * d+b * c):=by
 obtain⟨_,_,p1,r1⟩:=fD ha hb
 obtain⟨_,_,p2,r2⟩:=fD hc hd
 obtain⟨r,hr,g1,g2⟩:=oh p1.1 p1.2 p2.1 p2.2 (cB ha) (cB hb) (cB hc) (cB hd)
 obtain⟨t1,t2⟩:=xh r1 r2 hr ⟨g1,g2⟩
 rw[t1,t2,oj]
theorem k7{a:Int}(h:pIn a=true):pIn (-a)=true:=by
 simp only[pIn,af,decide_eq_true_eq]at h ⊢;omega
theorem Hy{a b:Int}(ha:pIn a=true)(hb:pIn b=true):cz (jV (aw a b) 2) (jU (aw a b))=(⟨3, -a, -b⟩,0):=by
 obtain⟨h1,h2,h3,h4⟩:=fD ha hb
 have hq:(lG 2).toNat=2:=by rw[Ct];rfl
 have e1:jV (aw a b) 2=aw (-a) (-b):=by
  simp only[jV,h4,if_true,hq,j2 h3.1,j2 h3.2,oa]
  exact(fD (k7 ha) (k7 hb)).1.symm
 have e2:jU (aw a b)=0:=by simp[jU,h4]
 obtain⟨q1,q2⟩:=yl (k7 ha) (k7 hb)
 rw[e1,e2]
 simp[cz,q1,q2]
theorem iI{v:Val}(h:vR v=true)(hk:v.kind=3):pIn v.a=true∧pIn v.b=true:=by
 simp[vR,hk]at h;exact h
theorem sD{v:Val}(h:vR v=true)(hk:v.kind=2):v.b=0∧(v.a=0∨v.a=1):=by
 simp[vR,hk]at h;exact h
theorem o5{v:Val}:vOk v=true↔vR v=true∧i64 v.a=true:=by simp[vOk]
/-! ### what comes of values that may be may be, too -/
theorem nZ(b:Bool):vOk (bn b)=true:=by cases b <;> decide
theorem sj{n:Int}(h:i64 n=true):vOk (cW n)=true:=by simp[vOk,vR,cW,h]
theorem wR{n:Int}(h:pIn n=true):i64 n=true:=by
 simp only[pIn,af,decide_eq_true_eq]at h
 rw[eZ];omega
theorem J7{a b:Int}(h:(jk a b).2=0):vOk (jk a b).1=true:=by
 unfold jk at h ⊢
 cases hb:(pIn a&&pIn b)
 ·rw[hb]at h;simp at h
 · simp only[af]at hb
   simp[vOk,vR,hb,wR hb.1]
theorem EI{r:Int×Int}(hr:r.2=0→i64 r.1=true)(h:(qZ r).2=0):vOk (qZ r).1=true:=by
 unfold qZ at h ⊢
 by_cases h0:r.2=0
 ·rw[if_pos h0];exact sj (hr h0)
 ·rw[if_neg h0]at h;exact absurd h h0
theorem q9{n:Int}:(okI n).2=0→i64 (okI n).1=true:=by
 unfold okI
 cases h:i64 n
 ·simp
 ·simp[h]
theorem KR{op a b:Int}(ha:i64 a=true):(cj op a b).2=0→i64 (cj op a b).1=true:=by
 unfold cj
 split
 ·exact q9
 · split
   ·exact q9
   · split
     ·exact q9
     · split
       ·simp
       · split
         ·exact q9
         ·exact fun _=>Oa ha
theorem R1{c:Prop}[Decidable c]{x y:Val×Int}(hx:x.2=0→vOk x.1=true)(hy:y.2=0→vOk y.1=true):(if c then x else y).2=0→vOk (if c then x else y).1=true:=by
 by_cases h:c
 ·rw[if_pos h];exact hx
 ·rw[if_neg h];exact hy
theorem RU{e:Int}(he:e≠0):((Val.zero,e):Val×Int).2=0→vOk ((Val.zero,e):Val×Int).1=true:=fun h=>absurd h he
theorem Q5{op:Int}{u v:Val}(hu:vOk u=true):(cP op u v).2=0→vOk (cP op u v).1=true:=by
 have hu':=(o5.1 hu).2
 unfold cP
 repeat' (with_reducible refine R1 ?_ ?_)
 all_goals first
  |exact fun _=>nZ _
  |exact J7
  |exact EI (KR hu')
  |exact RU (by decide)
theorem sk{op:Int}{u:Val}(hu:vOk u=true)(h:(bI op u).2=0):vOk (bI op u).1=true:=by
 have hu':=o5.1 hu
 unfold bI at h ⊢
 split at h
 ·rename_i hk;rw[if_pos hk];exact EI q9 h
 · rename_i hk;rw[if_neg hk]
   split at h
   · rename_i hk;rw[if_pos hk]
     obtain⟨h1,h2⟩:=iI hu'.1 hk.2
     simp[vOk,vR,k7 h1,k7 h2,wR (k7 h1)]
   · rename_i hk;rw[if_neg hk]
     split at h
     ·rename_i hk;rw[if_pos hk];exact nZ _
     · rename_i hk;rw[if_neg hk]
       split at h
       ·rename_i hk;rw[if_pos hk];exact sj hu'.2
       · rename_i hk;rw[if_neg hk]
         split at h
         · rename_i hk;rw[if_pos hk]
           exact sj (wR (iI hu'.1 hk.2).2)
         ·simp at h
end Go.Ev
namespace Go.Proofs.YtlhgnjmdopjpeaaGreatDoor
open Go Go.Ev
set_option maxRecDepth 100000
theorem Kw(n:Int)(h:i64 n=true):ah Tryz.prog 262 [.i n] [] (.x (.c (.pd (.int .u64 (b5 n))))) []:=by
 refine dg aX Tryz.func262 (.ite (decide (n<(0:Int))) (.ret (.p (.int .u64 (IntKind.wrap .u64 ((0:Int) - IntKind.wrap .u64 n)))) []) (.ret (.p (.int .u64 (IntKind.wrap .u64 n))) [])) fun Γ=>?_
 have:=eZ.1 h
 refine⟨fun h1=>⟨?_,rfl⟩,fun h1=>⟨?_,rfl⟩⟩
 · have:=of_decide_eq_true h1
   rw[wrap_u64,wrap_u64]
   have e:b5 n = -n:=by unfold b5;rw[if_pos this]
   rw[e]
   have:(0 - n % 18446744073709551616) % 18446744073709551616 = -n:=by omega
   rw[this]
 · have:=of_decide_eq_false h1
   rw[wrap_u64]
   have e:b5 n=n:=by unfold b5;rw[if_neg this]
   rw[e]
   have:n % 18446744073709551616=n:=by omega
   rw[this]
def As:Ent:=(262,fun
 |[.c (.pd (.int .i64 n))],[]=>some (some (i64 n=true),.x (.c (.pd (.int .u64 (b5 n)))),[])
 |_,_=>none)
theorem L1:EntOk Tryz.prog As:=entOk fun vs ck=>by
 unfold As;dsimp only;split
 ·rename_i n;exact entS fun hp=>Kw n hp
 ·exact entN
theorem GO(x y:Int)(hx:u64 x=true)(hy:u64 y=true):ah Tryz.prog 261 [.c (.pd (.int .u64 x)),.c (.pd (.int .u64 y))] [] (.tup [.c (.pd (.int .u64 (kE x y))),.c (.pd (.int .u64 (j3 x y)))]) []:=by
 refine dg aX Tryz.func261 (let x3:=(↑(BitVec.toNat (BitVec.ofInt 64 y &&& BitVec.ofInt 64 (4294967295:Int))):Int);let x2:=(↑(BitVec.toNat (BitVec.ofInt 64 x &&& BitVec.ofInt 64 (4294967295:Int))):Int);let x1:=(IntKind.wrap .u64 (IntKind.wrap .u64 (Int.fdiv x ((2:Int) ^ 32) * IntKind.wrap .u64 x3)+Int.fdiv (IntKind.wrap .u64 (IntKind.wrap .u64 x2 * IntKind.wrap .u64 x3)) ((2:Int) ^ 32)));.need ((0:Int)≤32) (.need ((0:Int)≤32) (.need ((0:Int)≤32) (.need ((0:Int)≤32) (.need ((0:Int)≤32) (.ret (.tup [.p (.int .u64 (IntKind.wrap .u64 (IntKind.wrap .u64 (IntKind.wrap .u64 (Int.fdiv x ((2:Int) ^ 32) * Int.fdiv y ((2:Int) ^ 32))+Int.fdiv x1 ((2:Int) ^ 32))+Int.fdiv (IntKind.wrap .u64 (IntKind.wrap .u64 (↑(BitVec.toNat (BitVec.ofInt 64 x1 &&& BitVec.ofInt 64 (4294967295:Int))):Int)+IntKind.wrap .u64 (IntKind.wrap .u64 x2 * Int.fdiv y ((2:Int) ^ 32)))) ((2:Int) ^ 32)))),.p (.int .u64 (IntKind.wrap .u64 (x * y)))]) [])))))) fun Γ=>?_
 conv=>zeta
 have h1:=xi.1 hx
 have h2:=xi.1 hy
 refine⟨by decide,by decide,by decide,by decide,by decide,?_,rfl⟩
 have:=Go.mul64_arith x y h1.1 h1.2 h2.1 h2.2
 simp only[Sl,RW,wrap_u64,Qe]at this ⊢
 rw[show kE x y=x * y / 18446744073709551616 from rfl,←this]
 rfl
def uI:Ent:=(261,fun
 |[.c (.pd (.int .u64 x)),.c (.pd (.int .u64 y))],[]=>some (some (u64 x=true∧u64 y=true),.tup [.c (.pd (.int .u64 (kE x y))),.c (.pd (.int .u64 (j3 x y)))],[])
 |_,_=>none)
theorem I6:EntOk Tryz.prog uI:=entOk fun vs ck=>by
 unfold uI;dsimp only;split
 ·rename_i x y;exact entS fun hp=>GO x y hp.1 hp.2
 ·exact entN
def OG:Cfg:=⟨aU,[As,uI]⟩
theorem Ls:ag Tryz.prog OG.tab:=(ag.cons L1 (ag.cons I6 ag.nil))
theorem Cr(a b:Int)(ha:i64 a=true)(hb:i64 b=true):ah Tryz.prog 225 [.i a,.i b] [] (.tup [.i (iW a b),.c (.pd (.bool (i64 (a * b))))]) []:=by
 refine dg Ls Tryz.func225 (.need (i64 a=true) (.need (i64 b=true) (.need (u64 (b5 a)=true∧u64 (b5 b)=true) (.ite (kE (b5 a) (b5 b) != (0:Int)) (.ret (.tup [.i 0,.p (.bool false)]) []) (.ite (!decide (a<(0:Int))==decide (b<(0:Int))) (.ret (.tup [.i (IntKind.wrap .i64 ((0:Int) - IntKind.wrap .i64 (j3 (b5 a) (b5 b)))),.p (.bool (decide (j3 (b5 a) (b5 b)≤(9223372036854775808:Int))))]) []) (.ret (.tup [.i (IntKind.wrap .i64 (j3 (b5 a) (b5 b))),.p (.bool (decide (j3 (b5 a) (b5 b)<(9223372036854775808:Int))))]) [])))))) fun Γ=>?_
 obtain⟨c1,c2,c3⟩:=vO a b
 refine⟨ha,hb,⟨AL ha,AL hb⟩,fun h=>⟨?_,rfl⟩,fun h=>⟨fun h2=>⟨?_,rfl⟩,fun h2=>⟨?_,rfl⟩⟩⟩
 · have h':kE (b5 a) (b5 b)≠0:=by simpa using h
   rw[c1 h']
   have:iW a b=0:=by unfold iW;rw[if_pos h']
   rw[this]
 · have h':kE (b5 a) (b5 b)=0:=by simpa using h
   have h2':(decide (a<0) != decide (b<0))=true:=by simpa[bne]using h2
   rw[(c2 h' h2').1]
   have:iW a b=IntKind.i64.wrap (0 - IntKind.i64.wrap (j3 (b5 a) (b5 b))):=by unfold iW;rw[if_neg (by simpa using h'),if_pos h2']
   rw[this]
 · have h':kE (b5 a) (b5 b)=0:=by simpa using h
   have h2':(decide (a<0) != decide (b<0))=false:=by simpa[bne]using h2
   rw[(c3 h' h2').1]
   have:iW a b=IntKind.i64.wrap (j3 (b5 a) (b5 b)):=by unfold iW;rw[if_neg (by simpa using h'),h2',if_neg (by simp)]
   rw[this]
def uL:Ent:=(225,fun
 |[.c (.pd (.int .i64 a)),.c (.pd (.int .i64 b))],[]=>some (some (i64 a=true∧i64 b=true),.tup [.c (.pd (.int .i64 (iW a b))),.c (.pd (.bool (i64 (a * b))))],[])
 |_,_=>none)
theorem BG:EntOk Tryz.prog uL:=entOk fun vs ck=>by
 unfold uL;dsimp only;split
 ·rename_i a b;exact entS fun hp=>Cr a b hp.1 hp.2
 ·exact entN
def Ef:Cfg:=⟨aU,[uL]⟩
theorem Fo:ag Tryz.prog Ef.tab:=(ag.cons BG ag.nil)
theorem KS(a b:Int)(ha:i64 a=true)(hb:i64 b=true):ah Tryz.prog 183 [.i 12,.i a,.i b] [] (.tup [.i (cj 12 a b).1,.i (cj 12 a b).2]) []:=by
 refine dg Fo Tryz.func183 (.ite false (.ite (!decide (IntKind.wrap .i64 (a+b)<a)==decide (b<(0:Int))) (.ret (.tup [.i 0,.i 7]) []) (.ret (.tup [.i (IntKind.wrap .i64 (a+b)),.i 0]) [])) (.ite true (.ite (!decide (IntKind.wrap .i64 (a - b)>a)==decide (b<(0:Int))) (.ret (.tup [.i 0,.i 7]) []) (.ret (.tup [.i (IntKind.wrap .i64 (a - b)),.i 0]) [])) (.ite false (.need (i64 a=true∧i64 b=true) (.ite (!i64 (a * b)) (.ret (.tup [.i 0,.i 7]) []) (.ret (.tup [.i (iW a b),.i 0]) []))) (.ite (b==(0:Int)) (.ret (.tup [.i 0,.i 6]) []) (.ite (b==(-1:Int)&&(12:Int)==15) (.ret (.tup [.i 0,.i 0]) []) (.ite (b==(-1:Int)) (.stop [.ops [1,1,0,1,0,1,1,1,1,1,1,0,0,1,1,1,1,1,0,0] 1,.code [1,1,0,1,0,1,1,1,1,1,1,0,0,1,1,1,1,1,0,1],.inBlock 1,.code [1,1,0,1,0,1,1,1,1,1,1,1],.inBlock 0,.code [1,1,1]] {n:=70,fr:=[(1,.i a),(2,.i b),(6,.i 0),(7,.i 0),(8,.i 0),(9,.p (.bool true)),(24,.i a)],ck:=[],kn:=[9]}) (.ite false (.need (b≠(0:Int)) (.ret (.tup [.i (IntKind.wrap .i64 (Int.tdiv a b)),.i 0]) [])) (.need (b≠(0:Int)) (.ret (.tup [.i (Int.tmod a b),.i 0]) []))))))))) fun Γ=>?_
 refine⟨fun h=>absurd h (by decide),fun _=>⟨fun _=>⟨fun h=>?_,fun h=>?_⟩,fun h=>absurd h (by decide)⟩⟩
 · have h':i64 (a - b)=false:=by rw[←pO ha hb];simpa using h
   refine⟨?_,rfl⟩;simp[cj,okI,h']
 · have h':i64 (a - b)=true:=by rw[←pO ha hb];simpa using h
   refine⟨?_,rfl⟩;simp[cj,okI,h',wrap_i64 h']
def pw:Ent:=(183,fun
 |[.c (.pd (.int .i64 12)),.c (.pd (.int .i64 a)),.c (.pd (.int .i64 b))],[]=>some (some (i64 a=true∧i64 b=true),.tup [.c (.pd (.int .i64 (cj 12 a b).1)),.c (.pd (.int .i64 (cj 12 a b).2))],[])
 |_,_=>none)
theorem Dj:EntOk Tryz.prog pw:=entOk fun vs ck=>by
 unfold pw;dsimp only;split
 ·rename_i a b;exact entS fun hp=>KS a b hp.1 hp.2
 ·exact entN
def IR:Cfg:=⟨aU,[uL,pw]⟩
theorem IS:ag Tryz.prog IR.tab:=(ag.cons BG (ag.cons Dj ag.nil))
theorem BV (op a b:Int) (hop:11≤op∧op≤15) (ha:i64 a=true) (hb:i64 b=true):ah Tryz.prog 183 [.i op,.i a,.i b] [] (.tup [.i (cj op a b).1,.i (cj op a b).2]) []:=by
 refine dg IS Tryz.func183 (.ite (op==(11:Int)) (.ite (!decide (IntKind.wrap .i64 (a+b)<a)==decide (b<(0:Int))) (.ret (.tup [.i 0,.i 7]) []) (.ret (.tup [.i (IntKind.wrap .i64 (a+b)),.i 0]) [])) (.ite (op==(12:Int)) (.ite (!decide (IntKind.wrap .i64 (a - b)>a)==decide (b<(0:Int))) (.ret (.tup [.i 0,.i 7]) []) (.ret (.tup [.i (IntKind.wrap .i64 (a - b)),.i 0]) [])) (.ite (op==(13:Int)) (.need (i64 a=true∧i64 b=true) (.ite (!i64 (a * b)) (.ret (.tup [.i 0,.i 7]) []) (.ret (.tup [.i (iW a b),.i 0]) []))) (.ite (b==(0:Int)) (.ret (.tup [.i 0,.i 6]) []) (.ite (b==(-1:Int)&&op==(15:Int)) (.ret (.tup [.i 0,.i 0]) []) (.ite (b==(-1:Int)) (.need (i64 (0:Int)=true∧i64 a=true) (.ret (.tup [.i ((cj (12:Int) (0:Int) a).1),.i ((cj (12:Int) (0:Int) a).2)]) [])) (.ite (op==(14:Int)) (.need (b≠(0:Int)) (.ret (.tup [.i (IntKind.wrap .i64 (Int.tdiv a b)),.i 0]) [])) (.need (b≠(0:Int)) (.ret (.tup [.i (Int.tmod a b),.i 0]) []))))))))) fun Γ=>?_
 refine⟨fun h=>?_,fun h11=>⟨fun h=>?_,fun h12=>⟨fun h=>⟨⟨ha,hb⟩,?_⟩,fun h13=>?_⟩⟩⟩
 · have e:op=11:=by simpa using h
   subst e
   refine⟨fun h=>?_,fun h=>?_⟩
   · have h':i64 (a+b)=false:=by rw[←AM ha hb];simpa using h
     refine⟨?_,rfl⟩;simp[cj,okI,h']
   · have h':i64 (a+b)=true:=by rw[←AM ha hb];simpa using h
     refine⟨?_,rfl⟩;simp[cj,okI,h',wrap_i64 h']
 · have e:op=12:=by simpa using h
   subst e
   refine⟨fun h=>?_,fun h=>?_⟩
   · have h':i64 (a - b)=false:=by rw[←pO ha hb];simpa using h
     refine⟨?_,rfl⟩;simp[cj,okI,h']
   · have h':i64 (a - b)=true:=by rw[←pO ha hb];simpa using h
     refine⟨?_,rfl⟩;simp[cj,okI,h',wrap_i64 h']
 · have e:op=13:=by simpa using h
   subst e
   refine⟨fun h=>?_,fun h=>?_⟩
   · have h':i64 (a * b)=false:=by simpa using h
     refine⟨?_,rfl⟩;simp[cj,okI,h']
   · have h':i64 (a * b)=true:=by simpa using h
     have hp:iW a b=a * b:=by
      obtain⟨c1,c2,c3⟩:=vO a b
      by_cases h0:kE (b5 a) (b5 b)=0
      · cases hd:(decide (a<0) != decide (b<0))
        ·exact(c3 h0 hd).2 h'
        ·exact(c2 h0 hd).2 h'
      ·rw[c1 h0]at h';cases h'
     refine⟨?_,rfl⟩;simp[cj,okI,h',hp]
 · have n1:op≠11:=by simpa using h11
   have n2:op≠12:=by simpa using h12
   have n3:op≠13:=by simpa using h13
   refine⟨fun h=>?_,fun h0=>⟨fun h=>?_,fun h1=>⟨fun h=>⟨⟨by decide,ha⟩,?_⟩,fun h2=>⟨fun h=>?_,fun h3=>?_⟩⟩⟩⟩
   · have e:b=0:=by simpa using h
     refine⟨?_,rfl⟩;simp[cj,n1,n2,n3,e]
   · have e:b = -1∧op=15:=by simpa using h
     refine⟨?_,rfl⟩;simp[cj,e.1,e.2,CV]
   · have e:b = -1:=by simpa using h
     have e14:op=14:=by
      have:¬(b = -1∧op=15):=by simpa using h1
      omega
     have hw:cj 12 0 a=cj op a b:=by
      subst e;subst e14
      simp only[cj,CS]
      simp
     refine⟨?_,rfl⟩;rw[hw]
   · have e:op=14:=by simpa using h
     have nb:b≠0:=by simpa using h0
     have nb1:b≠-1:=by simpa using h2
     have hd:=N6 ha nb nb1
     refine⟨nb,?_,rfl⟩;simp[cj,e,nb,okI,hd,wrap_i64 hd]
   · have e:op≠14:=by simpa using h3
     have nb:b≠0:=by simpa using h0
     refine⟨nb,?_,rfl⟩;simp[cj,n1,n2,n3,e,nb]
def r7:Ent:=(183,fun
 |[.c (.pd (.int .i64 op)),.c (.pd (.int .i64 a)),.c (.pd (.int .i64 b))],[]=>some (some ((11≤op∧op≤15)∧i64 a=true∧i64 b=true),.tup [.c (.pd (.int .i64 (cj op a b).1)),.c (.pd (.int .i64 (cj op a b).2))],[])
 |_,_=>none)
theorem Gk:EntOk Tryz.prog r7:=entOk fun vs ck=>by
 unfold r7;dsimp only;split
 ·rename_i op a b;exact entS fun hp=>BV op a b hp.1 hp.2.1 hp.2.2
 ·exact entN
def Ed:Cfg:=⟨aU,[qn]⟩
theorem Fk:ag Tryz.prog Ed.tab:=(ag.cons xO ag.nil)
theorem PY(a:Int):ah Tryz.prog 136 [.i a] [] (.x (.b (pIn a))) []:=by
 refine dg aX Tryz.func136 (.ret (.p (.bool (decide (a≥(-1048576:Int))&&decide (a≤(1048576:Int))))) []) fun Γ=>?_
 exact⟨rfl,rfl⟩
def eIn:Ent:=(136,fun
 |[.c (.pd (.int .i64 a))],[]=>some (none,.x (.c (.pd (.bool (pIn a)))),[])
 |_,_=>none)
theorem RD:EntOk Tryz.prog eIn:=entOk fun vs ck=>by
 unfold eIn;dsimp only;split
 ·rename_i a;exact entS fun hp=>PY a
 ·exact entN
def Ov:Cfg:=⟨aU,[eIn]⟩
theorem Lh:ag Tryz.prog Ov.tab:=(ag.cons RD ag.nil)
end Go.Proofs.YtlhgnjmdopjpeaaGreatDoor
