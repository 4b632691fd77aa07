/- Contracts of the program's functions on points. Conditions: none. Plain laws: whole numbers within int64, products; what operations on values come to. Conditions: each theorem's own. Contracts of the program's functions on values: numbers. Conditions: none. -/
import Derived.Test.YtlhgnjmdopjpeaaGreatDoorKb
import Derived.Test.YtlhgnjmdopjpeaaGreatDoorId
import Derived.Laws.MathBits
namespace Go.Proofs.YtlhgnjmdopjpeaaGreatDoor
open Go Go.Ev
set_option maxRecDepth 100000
theorem GQ(x:Nat):ag Tryz.prog 244 [.c (.pd (.fl (some x)))] [] (.x (.b (ic x))) []:=by
 refine dg aV Tryz.func244 (let x1:=(dw x 13920626448202203136==some Ordering.gt||dw x 13920626448202203136==some Ordering.eq);let x2:=(dw x 4697254411347427328==some Ordering.lt||dw x 4697254411347427328==some Ordering.eq);.need ((x1&&x2)=true→jF .i64 x) (.ret (.p (.bool (x1&&x2&&dw x (FloatKind.nearest FloatKind.f64 (da x))==some Ordering.eq))) [])) fun Γ=>?_
 conv=>zeta
 exact⟨fun h=>pq h,rfl,rfl⟩
def uQ:Ent:=(244,fun
 |[.c (.pd (.fl (some x)))],[]=>some (none,.x (.c (.pd (.bool (ic x)))),[])
 |_,_=>none)
theorem IE:EntOk Tryz.prog uQ:=entOk fun vs ck=>by
 unfold uQ;dsimp only;split
 ·rename_i x;exact entS fun hp=>GQ x
 ·exact entN
def AV:Cfg:=⟨aX,[uQ]⟩
theorem Cr:ah Tryz.prog AV.tab:=(ah.cons IE ah.nil)
theorem CS(p:Nat×Nat):ag Tryz.prog 196 [.c (.pd (.cx (some p)))] [] (.x (.b (bU p))) []:=by
 refine dg Cr Tryz.func196 (.ret (.p (.bool (ic (Prod.fst p)&&ic (Prod.snd p)))) []) fun Γ=>?_
 exact⟨rfl,rfl⟩
theorem CZ(o:Option (Nat×Nat))(h:o.isSome=true):ag Tryz.prog 196 [.c (.pd (.cx o))] [] (.x (.b (dN o))) []:=by
 obtain⟨p,rfl⟩:=ez.1 h
 exact CS p
def rQ:Ent:=(196,fun
 |[.c (.pd (.cx o))],[]=>some (some (o.isSome=true),.x (.c (.pd (.bool (dN o)))),[])
 |_,_=>none)
theorem Fh:EntOk Tryz.prog rQ:=entOk fun vs ck=>by
 unfold rQ;dsimp only;split
 ·rename_i o;exact entS fun hp=>CZ o hp
 ·exact entN
theorem EB(p:Nat×Nat)(h:bU p=true):ag Tryz.prog 223 [.c (.pd (.cx (some p)))] [] (.x (.c (.pd (.cx (some (qe p)))))) []:=by
 refine dg aV Tryz.func223 (.need (jF .i64 (Prod.fst p)) (.need (jF .i64 (Prod.snd p)) (.ret (.p (.cx (some (FloatKind.nearest FloatKind.f64 (da (Prod.fst p)),FloatKind.nearest FloatKind.f64 (da (Prod.snd p)))))) []))) fun Γ=>?_
 obtain⟨h1,h2⟩:=qX h
 exact⟨h1,h2,rfl,rfl⟩
theorem Cs(o:Option (Nat×Nat))(h:dN o=true):ag Tryz.prog 223 [.c (.pd (.cx o))] [] (.x (.c (.pd (.cx (some (qd o)))))) []:=by
 cases o with
 |none=>cases h
 |some p=>exact EB p h
def tZ:Ent:=(223,fun
 |[.c (.pd (.cx o))],[]=>some (some (dN o=true),.x (.c (.pd (.cx (some (qd o))))),[])
 |_,_=>none)
theorem Ic:EntOk Tryz.prog tZ:=entOk fun vs ck=>by
 unfold tZ;dsimp only;split
 ·rename_i o;exact entS fun hp=>Cs o hp
 ·exact entN
def mG:Cfg:=⟨aX,[rQ,tZ]⟩
theorem k7:ah Tryz.prog mG.tab:=(ah.cons Fh (ah.cons Ic ah.nil))
theorem Gd(a b:Int):ag Tryz.prog 175 [.i a,.i b] [] (.tup [.c (.pd (.cx (some (aw a b)))),.i (gT a b)]) []:=by
 refine dg aV Tryz.func175 (.ite (decide (a<(-1048576:Int))||decide (a>(1048576:Int))||decide (b<(-1048576:Int))||decide (b>(1048576:Int))) (.ret (.tup [.p (.cx (some (0,0))),.i 5]) []) (.ret (.tup [.p (.cx (some (FloatKind.nearest FloatKind.f64 a,FloatKind.nearest FloatKind.f64 b))),.i 0]) [])) fun Γ=>?_
 refine⟨fun h=>⟨?_,rfl⟩,fun h=>⟨?_,rfl⟩⟩
 · have:(pIn a&&pIn b)=false:=by
    simp only[aM,decide_eq_true_eq]at h
    simp only[pIn,b6,decide_eq_false_iff_not];omega
   simp[aw,gT,this]
 · have:(pIn a&&pIn b)=true:=by
    simp only[an,decide_eq_false_iff_not]at h
    simp only[pIn,af,decide_eq_true_eq];omega
   simp[aw,gT,this,num]
def qg:Ent:=(175,fun
 |[.c (.pd (.int .i64 a)),.c (.pd (.int .i64 b))],[]=>some (none,.tup [.c (.pd (.cx (some (aw a b)))),.c (.pd (.int .i64 (gT a b)))],[])
 |_,_=>none)
theorem xp:EntOk Tryz.prog qg:=entOk fun vs ck=>by
 unfold qg;dsimp only;split
 ·rename_i a b;exact entS fun hp=>Gd a b
 ·exact entN
theorem CR(p:Nat×Nat):ag Tryz.prog 125 [.c (.pd (.cx (some p)))] [] (.tup [.i (mi p),.i (mj p),.i (Ab p)]) []:=by
 refine dg k7 Tryz.func125 (.need (Option.isSome (some p)=true) (.ite (!dN (some p)) (.ret (.tup [.i 0,.i 0,.i 12]) []) (.need (jF .i64 (Prod.fst p)) (.need (jF .i64 (Prod.snd p)) (.ret (.tup [.i (da (Prod.fst p)),.i (da (Prod.snd p)),.i 0]) []))))) fun Γ=>?_
 refine⟨rfl,fun h=>?_,fun h=>?_⟩
 · have h':bU p=false:=by simpa[dN]using h
   refine⟨?_,rfl⟩;simp[mi,mj,Ab,h']
 · have h':bU p=true:=by simpa[dN]using h
   obtain⟨h1,h2⟩:=qX h'
   refine⟨h1,h2,?_,rfl⟩;simp[mi,mj,Ab,h']
def ur:Ent:=(125,fun
 |[.c (.pd (.cx (some p)))],[]=>some (none,.tup [.c (.pd (.int .i64 (mi p))),.c (.pd (.int .i64 (mj p))),.c (.pd (.int .i64 (Ab p)))],[])
 |_,_=>none)
theorem Io:EntOk Tryz.prog ur:=entOk fun vs ck=>by
 unfold ur;dsimp only;split
 ·rename_i p;exact entS fun hp=>CR p
 ·exact entN
theorem J1(p q:Nat×Nat)(o:Option (Nat×Nat))(h:bU p=true→bU q=true→o.isSome=true):ag Tryz.prog 224 [.c (.pd (.cx (some p))),.c (.pd (.cx (some q))),.c (.pd (.cx o))] [] (.tup [.c (.pd (.cx (some (dz p q o)))),.i (dy p q o)]) []:=by
 refine dg k7 Tryz.func224 (.need (Option.isSome (some p)=true) (.need ((!dN (some p))=false→Option.isSome (some q)=true) (.ite (!dN (some p) || !dN (some q)) (.ret (.tup [.p (.cx (some (0,0))),.i 12]) []) (.need (Option.isSome o=true) (.ite (!dN o) (.ret (.tup [.p (.cx (some (0,0))),.i 5]) []) (.need (dN o=true) (.ret (.tup [.p (.cx (some (qd o))),.i 0]) []))))))) fun Γ=>?_
 refine⟨rfl,fun _=>rfl,fun h1=>?_,fun h1=>?_⟩
 · have h':(bU p&&bU q)=false:=by
    simp only[dN,aM,aE]at h1
    simp only[b6];exact h1
   refine⟨?_,rfl⟩;simp[dz,dy,h']
 · have h':bU p=true∧bU q=true:=by
    simpa only[dN,an,cE]using h1
   refine⟨h h'.1 h'.2,fun h2=>?_,fun h2=>?_⟩
   · have h3:dN o=false:=by simpa using h2
     refine⟨?_,rfl⟩;simp[dz,dy,h',h3]
   · have h3:dN o=true:=by simpa using h2
     refine⟨h3,?_,rfl⟩;simp[dz,dy,h',h3]
def rM:Ent:=(224,fun
 |[.c (.pd (.cx (some p))),.c (.pd (.cx (some q))),.c (.pd (.cx o))],[]=>some (some (bU p=true→bU q=true→o.isSome=true),.tup [.c (.pd (.cx (some (dz p q o)))),.c (.pd (.int .i64 (dy p q o)))],[])
 |_,_=>none)
theorem Fa:EntOk Tryz.prog rM:=entOk fun vs ck=>by
 unfold rM;dsimp only;split
 ·rename_i p q o;exact entS fun hp=>J1 p q o hp
 ·exact entN
def rH:Cfg:=⟨aX,[rM]⟩
theorem o7:ah Tryz.prog rH.tab:=(ah.cons Fa ah.nil)
theorem Km(p q:Nat×Nat):ag Tryz.prog 180 [.c (.pd (.cx (some p))),.c (.pd (.cx (some q)))] [] (.tup [.c (.pd (.cx (some (dz p q (cSumBits .add .f64 p.1 p.2 q.1 q.2))))),.i (dy p q (cSumBits .add .f64 p.1 p.2 q.1 q.2))]) []:=by
 refine dg o7 Tryz.func180 (.need (bU p=true→bU q=true→Option.isSome (Option.bind (some p) fun p=>Option.bind (some q) fun q=>cSumBits BinOp.add FloatKind.f64 (Prod.fst p) (Prod.snd p) (Prod.fst q) (Prod.snd q))=true) (.ret (.tup [.p (.cx (some (dz p q (Option.bind (some p) fun p=>Option.bind (some q) fun q=>cSumBits BinOp.add FloatKind.f64 (Prod.fst p) (Prod.snd p) (Prod.fst q) (Prod.snd q))))),.i (dy p q (Option.bind (some p) fun p=>Option.bind (some q) fun q=>cSumBits BinOp.add FloatKind.f64 (Prod.fst p) (Prod.snd p) (Prod.fst q) (Prod.snd q)))]) [])) fun Γ=>?_
 exact⟨fun h1 h2=>Kl h1 h2,rfl,rfl⟩
def EH:Ent:=(180,fun
 |[.c (.pd (.cx (some p))),.c (.pd (.cx (some q)))],[]=>some (none,.tup [.c (.pd (.cx (some (dz p q (cSumBits .add .f64 p.1 p.2 q.1 q.2))))),.c (.pd (.int .i64 (dy p q (cSumBits .add .f64 p.1 p.2 q.1 q.2))))],[])
 |_,_=>none)
theorem Oz:EntOk Tryz.prog EH:=entOk fun vs ck=>by
 unfold EH;dsimp only;split
 ·rename_i p q;exact entS fun hp=>Km p q
 ·exact entN
theorem Nk(p q:Nat×Nat):ag Tryz.prog 181 [.c (.pd (.cx (some p))),.c (.pd (.cx (some q)))] [] (.tup [.c (.pd (.cx (some (dz p q (cSumBits .sub .f64 p.1 p.2 q.1 q.2))))),.i (dy p q (cSumBits .sub .f64 p.1 p.2 q.1 q.2))]) []:=by
 refine dg o7 Tryz.func181 (.need (bU p=true→bU q=true→Option.isSome (Option.bind (some p) fun p=>Option.bind (some q) fun q=>cSumBits BinOp.sub FloatKind.f64 (Prod.fst p) (Prod.snd p) (Prod.fst q) (Prod.snd q))=true) (.ret (.tup [.p (.cx (some (dz p q (Option.bind (some p) fun p=>Option.bind (some q) fun q=>cSumBits BinOp.sub FloatKind.f64 (Prod.fst p) (Prod.snd p) (Prod.fst q) (Prod.snd q))))),.i (dy p q (Option.bind (some p) fun p=>Option.bind (some q) fun q=>cSumBits BinOp.sub FloatKind.f64 (Prod.fst p) (Prod.snd p) (Prod.fst q) (Prod.snd q)))]) [])) fun Γ=>?_
 exact⟨fun h1 h2=>Nj h1 h2,rfl,rfl⟩
def Fo:Ent:=(181,fun
 |[.c (.pd (.cx (some p))),.c (.pd (.cx (some q)))],[]=>some (none,.tup [.c (.pd (.cx (some (dz p q (cSumBits .sub .f64 p.1 p.2 q.1 q.2))))),.c (.pd (.int .i64 (dy p q (cSumBits .sub .f64 p.1 p.2 q.1 q.2))))],[])
 |_,_=>none)
theorem O0:EntOk Tryz.prog Fo:=entOk fun vs ck=>by
 unfold Fo;dsimp only;split
 ·rename_i p q;exact entS fun hp=>Nk p q
 ·exact entN
theorem L6(p q:Nat×Nat):ag Tryz.prog 182 [.c (.pd (.cx (some p))),.c (.pd (.cx (some q)))] [] (.tup [.c (.pd (.cx (some (dz p q (cMulBits p.1 p.2 q.1 q.2))))),.i (dy p q (cMulBits p.1 p.2 q.1 q.2))]) []:=by
 refine dg o7 Tryz.func182 (.need (bU p=true→bU q=true→Option.isSome (Option.bind (some p) fun p=>Option.bind (some q) fun q=>cMulBits (Prod.fst p) (Prod.snd p) (Prod.fst q) (Prod.snd q))=true) (.ret (.tup [.p (.cx (some (dz p q (Option.bind (some p) fun p=>Option.bind (some q) fun q=>cMulBits (Prod.fst p) (Prod.snd p) (Prod.fst q) (Prod.snd q))))),.i (dy p q (Option.bind (some p) fun p=>Option.bind (some q) fun q=>cMulBits (Prod.fst p) (Prod.snd p) (Prod.fst q) (Prod.snd q)))]) [])) fun Γ=>?_
 exact⟨fun h1 h2=>L5 h1 h2,rfl,rfl⟩
def E6:Ent:=(182,fun
 |[.c (.pd (.cx (some p))),.c (.pd (.cx (some q)))],[]=>some (none,.tup [.c (.pd (.cx (some (dz p q (cMulBits p.1 p.2 q.1 q.2))))),.c (.pd (.int .i64 (dy p q (cMulBits p.1 p.2 q.1 q.2))))],[])
 |_,_=>none)
theorem OR:EntOk Tryz.prog E6:=entOk fun vs ck=>by
 unfold E6;dsimp only;split
 ·rename_i p q;exact entS fun hp=>L6 p q
 ·exact entN
abbrev zJa1:List PI:=[.code [1,1,0,1,0,0],.inLoop [1,1,0,1,0,0],.inBlock 0,.code [1,1,1]]
theorem J2(m:Int)(Γ:Ctx)(hm:m≤3):∀(n:Nat) (k:Int) (p:Nat×Nat) (a b:Int),m - k≤n→0≤k→k≤m→isP p a b→pIn a=true→pIn b=true →
 J Tryz.prog 178 (aB Tryz.f178) Γ (Eq2 (.tup [.c (.pd (.cx (some (num (nQ (m - k).toNat (a,b)).1,num (nQ (m - k).toNat (a,b)).2)))),.i 0]) []) zJa1 ({n:=18,fr:=[(0,.x (.c (.pd (.cx (some p))))),(4,.p (.cx (some (0,0)))),(5,.i 0),(10,.i m),(11,.i k)],ck:=[]}):=by
 intro n
 induction n with
 |zero=>?_
 |succ n ih=>?_
 all_goals
  intro k p a b hn h0 hk hp ha hb
  refine jg k7 Tryz.func178 (.ite (decide (k<m)) (.stop zJa1 {n:=18,fr:=[(0,.p (.cx (Option.bind (some p) fun p=>Option.bind (some (0,4607182418800017408)) fun q=>cMulBits (Prod.fst p) (Prod.snd p) (Prod.fst q) (Prod.snd q)))),(4,.p (.cx (some (0,0)))),(5,.i 0),(10,.i m),(11,.i (IntKind.wrap .i64 (k+(1:Int))))],ck:=[]}) (.need (dN (some p)=true) (.ret (.tup [.p (.cx (some (num (da (Prod.fst p)),num (da (Prod.snd p))))),.i 0]) []))) ?_
  refine⟨fun h=>?_,fun h=>?_⟩
  · have hlt:=of_decide_eq_true h
    first
    |(exfalso;omega)
    | (have ha':=cz ha
       have hb':=cz hb
       obtain⟨r,hr,g1,g2⟩:=nV (c:=0) (d:=4607182418800017408) hp.1 hp.2 (LO) (Pn) (z:=0) (u:=1) ha' hb' (by decide) (by decide)
       have hr':(Option.bind (some p) fun p=>Option.bind (some (0,4607182418800017408)) fun q=>cMulBits (Prod.fst p) (Prod.snd p) (Prod.fst q) (Prod.snd q))=some r:=hr
       have hx:a * 0 - b * 1 = -b:=by omega
       have hy:a * 1+b * 0=a:=by omega
       rw[hx]at g1
       rw[hy]at g2
       have hw:IntKind.i64.wrap (k+1)=k+1:=cj (by omega) (by omega)
       have hnb:pIn (-b)=true:=by simp only[pIn,af,decide_eq_true_eq]at hb ⊢;omega
       have:=ih (k+1) r (-b) a (by omega) (by omega) (by omega) ⟨g1,g2⟩ hnb ha
       rw[hr',hw]
       have ht:(m - k).toNat=(m - (k+1)).toNat+1:=by omega
       rw[ht]
       exact this)
  · have hge:=of_decide_eq_false h
    have hz:(m - k).toNat=0:=by omega
    have hr:dN (some p)=true:=by show bU p=true;rw[qG hp,ha,hb];rfl
    have hc:qe p=(num a,num b):=xB hp
    refine⟨hr,?_,rfl⟩
    rw[hz]
    have hc2:(num (da (Prod.fst p)),num (da (Prod.snd p)))=(num a,num b):=hc
    rw[hc2]
    rfl
theorem J3(p:Nat×Nat)(n:Int):ag Tryz.prog 178 [.c (.pd (.cx (some p))),.i n] [] (.tup [.c (.pd (.cx (some (jR p n)))),.i (jQ p)]) []:=by
 refine dg k7 Tryz.func178 (.need (Option.isSome (some p)=true) (.ite (!dN (some p)) (.ret (.tup [.p (.cx (some (0,0))),.i 12]) []) (.stop zJa1 {n:=18,fr:=[(0,.p (.cx (some p))),(4,.p (.cx (some (0,0)))),(5,.i 0),(10,.i (IntKind.wrap .i64 (↑(BitVec.toNat (BitVec.ofInt 64 n &&& BitVec.ofInt 64 (3:Int))):Int))),(11,.i 0)],ck:=[]}))) fun Γ=>?_
 refine⟨rfl,fun h=>?_,fun h=>?_⟩
 · have h':bU p=false:=by simpa[dN]using h
   refine⟨?_,rfl⟩;simp[jR,jQ,h']
 · have h':bU p=true:=by simpa[dN]using h
   obtain⟨a1,a2,a3,a4⟩:=iA h'
   have hq:=CU n
   have:=J2 (lu n) Γ (by omega) 3 0 p _ _ (by omega) (by omega) hq.1 ⟨a1,a2⟩ a3 a4
   rw[Int.sub_zero]at this
   have e1:jR p n=(num (nQ (lu n).toNat (da p.1,da p.2)).1,num (nQ (lu n).toNat (da p.1,da p.2)).2):=by simp[jR,h']
   have e2:jQ p=0:=by simp[jQ,h']
   rw[e1,e2]
   exact this
def yT:Ent:=(178,fun
 |[.c (.pd (.cx (some p))),.c (.pd (.int .i64 n))],[]=>some (none,.tup [.c (.pd (.cx (some (jR p n)))),.c (.pd (.int .i64 (jQ p)))],[])
 |_,_=>none)
theorem Lo:EntOk Tryz.prog yT:=entOk fun vs ck=>by
 unfold yT;dsimp only;split
 ·rename_i p n;exact entS fun hp=>J3 p n
 ·exact entN
end Go.Proofs.YtlhgnjmdopjpeaaGreatDoor
namespace Go.Ev
def i64(n:Int):Bool:=decide (-9223372036854775808≤n)&&decide (n≤9223372036854775807)
theorem eX{n:Int}:i64 n=true↔-9223372036854775808≤n∧n≤9223372036854775807:=by simp[i64]
theorem wrap_i64{n:Int}(h:i64 n=true):IntKind.i64.wrap n=n:=by
 have:=eX.1 h
 exact cj this.1 this.2
theorem wrap_u64(n:Int):IntKind.u64.wrap n=n % 18446744073709551616:=by
 simp only[IntKind.wrap,IntKind.signed,IntKind.bits]
 simp
theorem jM(n:Int):IntKind.i64.wrap n=(n+9223372036854775808) % 18446744073709551616 - 9223372036854775808:=by
 simp only[IntKind.wrap,IntKind.signed,IntKind.bits]
 simp
 omega
def b7(n:Int):Int:=if n<0 then -n else n
def kq(x y:Int):Int:=x * y / 18446744073709551616
def jZ(x y:Int):Int:=x * y % 18446744073709551616
def u64(n:Int):Bool:=decide (0≤n)&&decide (n<18446744073709551616)
theorem wN{n:Int}:u64 n=true↔0≤n∧n<18446744073709551616:=by simp[u64]
theorem Ag{n:Int}(h:i64 n=true):u64 (b7 n)=true:=by
 have:=eX.1 h
 rw[wN];unfold b7;split <;> omega
theorem RN(n:Int):(((BitVec.ofInt 64 n &&& BitVec.ofInt 64 4294967295).toNat:Nat):Int)=n % 4294967296:=by
 have h3:(BitVec.ofInt 64 4294967295).toNat=2 ^ 32 - 1:=by decide
 rw[BitVec.toNat_and,h3,Nat.and_two_pow_sub_one_eq_mod,BitVec.toNat_ofInt]
 have p64:(2:Nat) ^ 64=18446744073709551616:=by decide
 have p2:(2:Nat) ^ 32=4294967296:=by decide
 rw[p64,p2]
 omega
theorem Rl(n:Int):Int.fdiv n (2 ^ 32)=n / 4294967296:=by
 rw[show(2:Int) ^ 32=4294967296 from by decide,Int.fdiv_eq_ediv_of_nonneg _ (by decide)]
theorem Pz(n:Int):n % 4294967296 % 18446744073709551616=n % 4294967296:=by omega
def iR(a b:Int):Int :=
 if kq (b7 a) (b7 b)≠0 then 0
 else if decide (a<0) != decide (b<0)then IntKind.i64.wrap (0 - IntKind.i64.wrap (jZ (b7 a) (b7 b)))
 else IntKind.i64.wrap (jZ (b7 a) (b7 b))
theorem L4(a b:Int):a * b=if decide (a<0) != decide (b<0)then -(b7 a * b7 b)else b7 a * b7 b:=by
 unfold b7
 by_cases ha:a<0 <;> by_cases hb:b<0 <;> simp[ha,hb,Int.neg_mul,Int.mul_neg]
theorem tM(a b:Int):0≤b7 a * b7 b:=by
 refine Int.mul_nonneg ?_ ?_ <;> (unfold b7;split <;> omega)
theorem vw(a b:Int):(kq (b7 a) (b7 b)≠0→i64 (a * b)=false) ∧
 (kq (b7 a) (b7 b)=0→(decide (a<0) != decide (b<0))=true→(i64 (a * b)=decide (jZ (b7 a) (b7 b)≤9223372036854775808))∧(i64 (a * b)=true→iR a b=a * b)) ∧
 (kq (b7 a) (b7 b)=0→(decide (a<0) != decide (b<0))=false→(i64 (a * b)=decide (jZ (b7 a) (b7 b)<9223372036854775808))∧(i64 (a * b)=true→iR a b=a * b)):=by
 have hs:=L4 a b
 have hn:=tM a b
 have hv:iR a b=if kq (b7 a) (b7 b)≠0 then 0
  else if decide (a<0) != decide (b<0)then IntKind.i64.wrap (0 - IntKind.i64.wrap (jZ (b7 a) (b7 b)))
  else IntKind.i64.wrap (jZ (b7 a) (b7 b)):=rfl
 unfold kq jZ at *
 generalize b7 a * b7 b=m at *
 refine⟨fun h=>?_,fun h hd=>?_,fun h hd=>?_⟩
 · rw[hs]
   simp only[i64,b6,decide_eq_false_iff_not]
   split <;> omega
 · rw[hd,if_pos rfl]at hs
   rw[hd,if_neg (by simpa using h),if_pos rfl]at hv
   have hm:m % 18446744073709551616=m:=by omega
   rw[hm]at hv ⊢
   constructor
   · rw[hs,aW]
     simp only[i64,af,decide_eq_true_eq]
     omega
   · intro hi
     have:=eX.1 hi
     rw[hv,jM,jM]
     omega
 · rw[hd,if_neg (by simp)]at hs
   rw[hd,if_neg (by simpa using h),if_neg (by simp)]at hv
   have hm:m % 18446744073709551616=m:=by omega
   rw[hm]at hv ⊢
   constructor
   · rw[hs,aW]
     simp only[i64,af,decide_eq_true_eq]
     omega
   · intro hi
     have:=eX.1 hi
     rw[hv,jM]
     omega
def okI(n:Int):Int×Int:=if i64 n then(n,0)else(0,7)
def cg(op a b:Int):Int×Int :=
 if op=11 then okI (a+b)else if op=12 then okI (a - b)else if op=13 then okI (a * b)
 else if b=0 then(0,6)else if op=14 then okI (a.tdiv b)else(a.tmod b,0)
theorem Ah{a b:Int}(ha:i64 a=true)(hb:i64 b=true):(decide (IntKind.i64.wrap (a+b)<a)==decide (b<0))=i64 (a+b):=by
 have:=eX.1 ha;have:=eX.1 hb
 rw[jM,aW]
 simp only[i64,beq_iff_eq,af,decide_eq_true_eq,decide_eq_decide]
 omega
theorem pI{a b:Int}(ha:i64 a=true)(hb:i64 b=true):(decide (IntKind.i64.wrap (a - b)>a)==decide (b<0))=i64 (a - b):=by
 have:=eX.1 ha;have:=eX.1 hb
 rw[jM,aW]
 simp only[i64,beq_iff_eq,af,decide_eq_true_eq,decide_eq_decide]
 omega
theorem Nm{a b:Int}(ha:i64 a=true)(h0:b≠0)(h1:b≠-1):i64 (a.tdiv b)=true:=by
 have h:=eX.1 ha
 rw[eX]
 have hb:(a.tdiv b).natAbs=a.natAbs / b.natAbs:=Int.natAbs_tdiv a b
 have hle:a.natAbs / b.natAbs≤a.natAbs:=Nat.div_le_self _ _
 by_cases hmin:a.natAbs=9223372036854775808
 · by_cases hb1:b=1
   ·subst hb1;simp only[Int.tdiv_one];exact h
   · have h2:2≤b.natAbs:=by omega
     have:a.natAbs / b.natAbs≤a.natAbs / 2:=Nat.div_le_div_left h2 (by decide)
     omega
 ·omega
theorem Nq{a b:Int}(ha:i64 a=true):i64 (a.tmod b)=true:=by
 have h:=eX.1 ha
 rw[eX]
 have hb:(a.tmod b).natAbs=a.natAbs % b.natAbs:=Int.natAbs_tmod a b
 have hle:a.natAbs % b.natAbs≤a.natAbs:=Nat.mod_le _ _
 have hs:0≤a→0≤a.tmod b:=fun h=>Int.tmod_nonneg _ h
 have hs2:a<0→a.tmod b≤0:=fun h=>by
  have h1:0≤(-a).tmod b:=Int.tmod_nonneg _ (by omega)
  rw[Int.neg_tmod]at h1;omega
 omega
theorem Cc(a:Int):a.tdiv (-1)=0 - a:=by rw[Int.tdiv_neg,Int.tdiv_one];omega
theorem Cf(a:Int):a.tmod (-1)=0:=by rw[Int.tmod_neg,Int.tmod_one]
end Go.Ev
namespace Go.Ev
def vR(v:Val):Bool:=if v.kind=1 then v.b==0 else if v.kind=2 then v.b==0&&(v.a==0||v.a==1)else if v.kind=3 then pIn v.a&&pIn v.b else false
def bf(b:Bool):Val:=⟨2,if b then 1 else 0,0⟩
def cV(n:Int):Val:=⟨1,n,0⟩
def jf(a b:Int):Val×Int:=if pIn a&&pIn b then(⟨3,a,b⟩,0)else(Val.zero,5)
def qQ(r:Int×Int):Val×Int:=if r.2=0 then(cV r.1,0)else(Val.zero,r.2)
def cL(op:Int)(u v:Val):Val×Int :=
 if u.kind≠v.kind then(Val.zero,8)
 else if op=16 then(bf (u.a==v.a&&u.b==v.b),0)
 else if op=17 then(bf (!(u.a==v.a&&u.b==v.b)),0)
 else if u.kind=2∧op=22 then(bf (u.a==1&&v.a==1),0)
 else if u.kind=2∧op=23 then(bf (u.a==1||v.a==1),0)
 else if u.kind=3∧op=11 then jf (u.a+v.a) (u.b+v.b)
 else if u.kind=3∧op=12 then jf (u.a - v.a) (u.b - v.b)
 else if u.kind=3∧op=13 then jf (u.a * v.a - u.b * v.b) (u.a * v.b+u.b * v.a)
 else if u.kind≠1 then(Val.zero,8)
 else if op=18 then(bf (decide (u.a<v.a)),0)
 else if op=19 then(bf (decide (u.a≤v.a)),0)
 else if op=20 then(bf (decide (u.a>v.a)),0)
 else if op=21 then(bf (decide (u.a≥v.a)),0)
 else if op=22∨op=23 then(Val.zero,8)
 else qQ (cg op u.a v.a)
def bM(op:Int)(u:Val):Val×Int :=
 if op=7∧u.kind=1 then qQ (okI (0 - u.a))
 else if op=7∧u.kind=3 then(⟨3, -u.a, -u.b⟩,0)
 else if op=8∧u.kind=2 then(bf (u.a==0),0)
 else if op=9∧u.kind=3 then(cV u.a,0)
 else if op=10∧u.kind=3 then(cV u.b,0)
 else(Val.zero,8)
def vOk(v:Val):Bool:=vR v&&i64 v.a
/-! ### points -/
theorem fu{a b:Int}(ha:pIn a=true)(hb:pIn b=true):aw a b=(num a,num b)∧gT a b=0∧isP (aw a b) a b∧bU (aw a b)=true:=by
 have e:aw a b=(num a,num b):=by simp[aw,ha,hb]
 have h:=Po (a:=a) (b:=b) (by have:=cz ha;omega) (by have:=cz hb;omega)
 refine⟨e,by simp[gT,ha,hb],by rw[e];exact h,?_⟩
 rw[e,qG h,ha,hb];rfl
theorem wL{p q:Nat×Nat}{o:Option (Nat×Nat)}{r:Nat×Nat}{x y:Int}(hp:bU p=true)(hq:bU q=true)(ho:o=some r)(hr:isP r x y):dz p q o=aw x y∧dy p q o=gT x y:=by
 subst ho
 have h1:dN (some r)=(pIn x&&pIn y):=qG hr
 have h2:qd (some r)=(num x,num y):=xB hr
 simp[dz,dy,aw,gT,hp,hq,h1,h2]
theorem xJ{x y:Int}(hx:pIn x=true)(hy:pIn y=true):mi (aw x y)=x∧mj (aw x y)=y:=by
 obtain⟨h1,h2,h3,h4⟩:=fu hx hy
 simp only[mi,mj,h4,if_true,jY h3.1,jY h3.2,and_self]
def cy(p:Nat×Nat)(e:Int):Val×Int:=if e≠0 then(Val.zero,e)else(⟨3,mi p,mj p⟩,0)
theorem nX(x y:Int):cy (aw x y) (gT x y)=jf x y:=by
 unfold cy jf
 cases h:(pIn x&&pIn y)
 · have:gT x y=5:=by simp[gT,h]
   rw[this];simp
 · simp only[af]at h
   obtain⟨h1,h2⟩:=xJ h.1 h.2
   have:gT x y=0:=by simp[gT,h]
   rw[this,h1,h2];simp
theorem D7{a b c d:Int}(ha:pIn a=true)(hb:pIn b=true)(hc:pIn c=true)(hd:pIn d=true):cy (dz (aw a b) (aw c d) (cSumBits .add .f64 (aw a b).1 (aw a b).2 (aw c d).1 (aw c d).2)) (dy (aw a b) (aw c d) (cSumBits .add .f64 (aw a b).1 (aw a b).2 (aw c d).1 (aw c d).2))=jf (a+c) (b+d):=by
 obtain⟨_,_,p1,r1⟩:=fu ha hb
 obtain⟨_,_,p2,r2⟩:=fu hc hd
 have:=cz ha;have:=cz hb;have:=cz hc;have:=cz hd
 have p53:(2:Nat) ^ 53=9007199254740992:=by decide
 obtain⟨r,hr,g1,g2⟩:=sW p1.1 p1.2 p2.1 p2.2 (by omega) (by omega)
 obtain⟨t1,t2⟩:=wL r1 r2 hr ⟨g1,g2⟩
 rw[t1,t2,nX]
theorem GA{a b c d:Int}(ha:pIn a=true)(hb:pIn b=true)(hc:pIn c=true)(hd:pIn d=true):cy (dz (aw a b) (aw c d) (cSumBits .sub .f64 (aw a b).1 (aw a b).2 (aw c d).1 (aw c d).2)) (dy (aw a b) (aw c d) (cSumBits .sub .f64 (aw a b).1 (aw a b).2 (aw c d).1 (aw c d).2))=jf (a - c) (b - d):=by
 obtain⟨_,_,p1,r1⟩:=fu ha hb
 obtain⟨_,_,p2,r2⟩:=fu hc hd
 have:=cz ha;have:=cz hb;have:=cz hc;have:=cz hd
 have p53:(2:Nat) ^ 53=9007199254740992:=by decide
 obtain⟨r,hr,g1,g2⟩:=qL p1.1 p1.2 p2.1 p2.2 (by omega) (by omega)
 obtain⟨t1,t2⟩:=wL r1 r2 hr ⟨g1,g2⟩
 rw[t1,t2,nX]
theorem F2{a b c d:Int}(ha:pIn a=true)(hb:pIn b=true)(hc:pIn c=true)(hd:pIn d=true):cy (dz (aw a b) (aw c d) (cMulBits (aw a b).1 (aw a b).2 (aw c d).1 (aw c d).2)) (dy (aw a b) (aw c d) (cMulBits (aw a b).1 (aw a b).2 (aw c d).1 (aw c d).2))=jf (a * c - b * d) (a * d+b * c):=by
 obtain⟨_,_,p1,r1⟩:=fu ha hb
 obtain⟨_,_,p2,r2⟩:=fu hc hd
 obtain⟨r,hr,g1,g2⟩:=nV p1.1 p1.2 p2.1 p2.2 (cz ha) (cz hb) (cz hc) (cz hd)
 obtain⟨t1,t2⟩:=wL r1 r2 hr ⟨g1,g2⟩
 rw[t1,t2,nX]
theorem kU{a:Int}(h:pIn a=true):pIn (-a)=true:=by
 simp only[pIn,af,decide_eq_true_eq]at h ⊢;omega
theorem GI{a b:Int}(ha:pIn a=true)(hb:pIn b=true):cy (jR (aw a b) 2) (jQ (aw a b))=(⟨3, -a, -b⟩,0):=by
 obtain⟨h1,h2,h3,h4⟩:=fu ha hb
 have hq:(lu 2).toNat=2:=by rw[BM];rfl
 have e1:jR (aw a b) 2=aw (-a) (-b):=by
  simp only[jR,h4,if_true,hq,jY h3.1,jY h3.2,nQ]
  exact(fu (kU ha) (kU hb)).1.symm
 have e2:jQ (aw a b)=0:=by simp[jQ,h4]
 obtain⟨q1,q2⟩:=xJ (kU ha) (kU hb)
 rw[e1,e2]
 simp[cy,q1,q2]
theorem iD{v:Val}(h:vR v=true)(hk:v.kind=3):pIn v.a=true∧pIn v.b=true:=by
 simp[vR,hk]at h;exact h
theorem sk{v:Val}(h:vR v=true)(hk:v.kind=2):v.b=0∧(v.a=0∨v.a=1):=by
 simp[vR,hk]at h;exact h
theorem oU{v:Val}:vOk v=true↔vR v=true∧i64 v.a=true:=by simp[vOk]
/-! ### what comes of values that may be may be, too -/
theorem nP(b:Bool):vOk (bf b)=true:=by cases b <;> decide
theorem sb{n:Int}(h:i64 n=true):vOk (cV n)=true:=by simp[vOk,vR,cV,h]
theorem wv{n:Int}(h:pIn n=true):i64 n=true:=by
 simp only[pIn,af,decide_eq_true_eq]at h
 rw[eX];omega
theorem Jq{a b:Int}(h:(jf a b).2=0):vOk (jf a b).1=true:=by
 unfold jf at h ⊢
 cases hb:(pIn a&&pIn b)
 ·rw[hb]at h;simp at h
 · simp only[af]at hb
   simp[vOk,vR,hb,wv hb.1]
theorem DT{r:Int×Int}(hr:r.2=0→i64 r.1=true)(h:(qQ r).2=0):vOk (qQ r).1=true:=by
 unfold qQ at h ⊢
 by_cases h0:r.2=0
 ·rw[if_pos h0];exact sb (hr h0)
 ·rw[if_neg h0]at h;exact absurd h h0
theorem qS{n:Int}:(okI n).2=0→i64 (okI n).1=true:=by
 unfold okI
 cases h:i64 n
 ·simp
 ·simp[h]
theorem Kb{op a b:Int}(ha:i64 a=true):(cg op a b).2=0→i64 (cg op a b).1=true:=by
 unfold cg
 split
 ·exact qS
 · split
   ·exact qS
   · split
     ·exact qS
     · split
       ·simp
       · split
         ·exact qS
         ·exact fun _=>Nq ha
theorem Rr{c:Prop}[Decidable c]{x y:Val×Int}(hx:x.2=0→vOk x.1=true)(hy:y.2=0→vOk y.1=true):(if c then x else y).2=0→vOk (if c then x else y).1=true:=by
 by_cases h:c
 ·rw[if_pos h];exact hx
 ·rw[if_neg h];exact hy
theorem Rj{e:Int}(he:e≠0):((Val.zero,e):Val×Int).2=0→vOk ((Val.zero,e):Val×Int).1=true:=fun h=>absurd h he
theorem Qv{op:Int}{u v:Val}(hu:vOk u=true):(cL op u v).2=0→vOk (cL op u v).1=true:=by
 have hu':=(oU.1 hu).2
 unfold cL
 repeat' (with_reducible refine Rr ?_ ?_)
 all_goals first
  |exact fun _=>nP _
  |exact Jq
  |exact DT (Kb hu')
  |exact Rj (by decide)
theorem sd{op:Int}{u:Val}(hu:vOk u=true)(h:(bM op u).2=0):vOk (bM op u).1=true:=by
 have hu':=oU.1 hu
 unfold bM at h ⊢
 split at h
 ·rename_i hk;rw[if_pos hk];exact DT qS h
 · rename_i hk;rw[if_neg hk]
   split at h
   · rename_i hk;rw[if_pos hk]
     obtain⟨h1,h2⟩:=iD hu'.1 hk.2
     simp[vOk,vR,kU h1,kU h2,wv (kU h1)]
   · rename_i hk;rw[if_neg hk]
     split at h
     ·rename_i hk;rw[if_pos hk];exact nP _
     · rename_i hk;rw[if_neg hk]
       split at h
       ·rename_i hk;rw[if_pos hk];exact sb hu'.2
       · rename_i hk;rw[if_neg hk]
         split at h
         · rename_i hk;rw[if_pos hk]
           exact sb (wv (iD hu'.1 hk.2).2)
         ·simp at h
end Go.Ev
namespace Go.Proofs.YtlhgnjmdopjpeaaGreatDoor
open Go Go.Ev
set_option maxRecDepth 100000
theorem JP(n:Int)(h:i64 n=true):ag Tryz.prog 262 [.i n] [] (.x (.c (.pd (.int .u64 (b7 n))))) []:=by
 refine dg aV Tryz.func262 (.ite (decide (n<(0:Int))) (.ret (.p (.int .u64 (IntKind.wrap .u64 ((0:Int) - IntKind.wrap .u64 n)))) []) (.ret (.p (.int .u64 (IntKind.wrap .u64 n))) [])) fun Γ=>?_
 have:=eX.1 h
 refine⟨fun h1=>⟨?_,rfl⟩,fun h1=>⟨?_,rfl⟩⟩
 · have:=of_decide_eq_true h1
   rw[wrap_u64,wrap_u64]
   have e:b7 n = -n:=by unfold b7;rw[if_pos this]
   rw[e]
   have:(0 - n % 18446744073709551616) % 18446744073709551616 = -n:=by omega
   rw[this]
 · have:=of_decide_eq_false h1
   rw[wrap_u64]
   have e:b7 n=n:=by unfold b7;rw[if_neg this]
   rw[e]
   have:n % 18446744073709551616=n:=by omega
   rw[this]
def yR:Ent:=(262,fun
 |[.c (.pd (.int .i64 n))],[]=>some (some (i64 n=true),.x (.c (.pd (.int .u64 (b7 n)))),[])
 |_,_=>none)
theorem Lm:EntOk Tryz.prog yR:=entOk fun vs ck=>by
 unfold yR;dsimp only;split
 ·rename_i n;exact entS fun hp=>JP n hp
 ·exact entN
theorem F1(x y:Int)(hx:u64 x=true)(hy:u64 y=true):ag Tryz.prog 261 [.c (.pd (.int .u64 x)),.c (.pd (.int .u64 y))] [] (.tup [.c (.pd (.int .u64 (kq x y))),.c (.pd (.int .u64 (jZ x y)))]) []:=by
 refine dg aV Tryz.func261 (let x3:=(↑(BitVec.toNat (BitVec.ofInt 64 y &&& BitVec.ofInt 64 (4294967295:Int))):Int);let x2:=(↑(BitVec.toNat (BitVec.ofInt 64 x &&& BitVec.ofInt 64 (4294967295:Int))):Int);let x1:=(IntKind.wrap .u64 (IntKind.wrap .u64 (Int.fdiv x ((2:Int) ^ 32) * IntKind.wrap .u64 x3)+Int.fdiv (IntKind.wrap .u64 (IntKind.wrap .u64 x2 * IntKind.wrap .u64 x3)) ((2:Int) ^ 32)));.need ((0:Int)≤32) (.need ((0:Int)≤32) (.need ((0:Int)≤32) (.need ((0:Int)≤32) (.need ((0:Int)≤32) (.ret (.tup [.p (.int .u64 (IntKind.wrap .u64 (IntKind.wrap .u64 (IntKind.wrap .u64 (Int.fdiv x ((2:Int) ^ 32) * Int.fdiv y ((2:Int) ^ 32))+Int.fdiv x1 ((2:Int) ^ 32))+Int.fdiv (IntKind.wrap .u64 (IntKind.wrap .u64 (↑(BitVec.toNat (BitVec.ofInt 64 x1 &&& BitVec.ofInt 64 (4294967295:Int))):Int)+IntKind.wrap .u64 (IntKind.wrap .u64 x2 * Int.fdiv y ((2:Int) ^ 32)))) ((2:Int) ^ 32)))),.p (.int .u64 (IntKind.wrap .u64 (x * y)))]) [])))))) fun Γ=>?_
 conv=>zeta
 have h1:=wN.1 hx
 have h2:=wN.1 hy
 refine⟨by decide,by decide,by decide,by decide,by decide,?_,rfl⟩
 have:=Go.mul64_arith x y h1.1 h1.2 h2.1 h2.2
 simp only[RN,Rl,wrap_u64,Pz]at this ⊢
 rw[show kq x y=x * y / 18446744073709551616 from rfl,←this]
 rfl
def uo:Ent:=(261,fun
 |[.c (.pd (.int .u64 x)),.c (.pd (.int .u64 y))],[]=>some (some (u64 x=true∧u64 y=true),.tup [.c (.pd (.int .u64 (kq x y))),.c (.pd (.int .u64 (jZ x y)))],[])
 |_,_=>none)
theorem Ik:EntOk Tryz.prog uo:=entOk fun vs ck=>by
 unfold uo;dsimp only;split
 ·rename_i x y;exact entS fun hp=>F1 x y hp.1 hp.2
 ·exact entN
def NT:Cfg:=⟨aX,[yR,uo]⟩
theorem KN:ah Tryz.prog NT.tab:=(ah.cons Lm (ah.cons Ik ah.nil))
theorem BK(a b:Int)(ha:i64 a=true)(hb:i64 b=true):ag Tryz.prog 225 [.i a,.i b] [] (.tup [.i (iR a b),.c (.pd (.bool (i64 (a * b))))]) []:=by
 refine dg KN Tryz.func225 (.need (i64 a=true) (.need (i64 b=true) (.need (u64 (b7 a)=true∧u64 (b7 b)=true) (.ite (kq (b7 a) (b7 b) != (0:Int)) (.ret (.tup [.i 0,.p (.bool false)]) []) (.ite (!decide (a<(0:Int))==decide (b<(0:Int))) (.ret (.tup [.i (IntKind.wrap .i64 ((0:Int) - IntKind.wrap .i64 (jZ (b7 a) (b7 b)))),.p (.bool (decide (jZ (b7 a) (b7 b)≤(9223372036854775808:Int))))]) []) (.ret (.tup [.i (IntKind.wrap .i64 (jZ (b7 a) (b7 b))),.p (.bool (decide (jZ (b7 a) (b7 b)<(9223372036854775808:Int))))]) [])))))) fun Γ=>?_
 obtain⟨c1,c2,c3⟩:=vw a b
 refine⟨ha,hb,⟨Ag ha,Ag hb⟩,fun h=>⟨?_,rfl⟩,fun h=>⟨fun h2=>⟨?_,rfl⟩,fun h2=>⟨?_,rfl⟩⟩⟩
 · have h':kq (b7 a) (b7 b)≠0:=by simpa using h
   rw[c1 h']
   have:iR a b=0:=by unfold iR;rw[if_pos h']
   rw[this]
 · have h':kq (b7 a) (b7 b)=0:=by simpa using h
   have h2':(decide (a<0) != decide (b<0))=true:=by simpa[bne]using h2
   rw[(c2 h' h2').1]
   have:iR a b=IntKind.i64.wrap (0 - IntKind.i64.wrap (jZ (b7 a) (b7 b))):=by unfold iR;rw[if_neg (by simpa using h'),if_pos h2']
   rw[this]
 · have h':kq (b7 a) (b7 b)=0:=by simpa using h
   have h2':(decide (a<0) != decide (b<0))=false:=by simpa[bne]using h2
   rw[(c3 h' h2').1]
   have:iR a b=IntKind.i64.wrap (jZ (b7 a) (b7 b)):=by unfold iR;rw[if_neg (by simpa using h'),h2',if_neg (by simp)]
   rw[this]
def uu:Ent:=(225,fun
 |[.c (.pd (.int .i64 a)),.c (.pd (.int .i64 b))],[]=>some (some (i64 a=true∧i64 b=true),.tup [.c (.pd (.int .i64 (iR a b))),.c (.pd (.bool (i64 (a * b))))],[])
 |_,_=>none)
theorem Bb:EntOk Tryz.prog uu:=entOk fun vs ck=>by
 unfold uu;dsimp only;split
 ·rename_i a b;exact entS fun hp=>BK a b hp.1 hp.2
 ·exact entN
def Dv:Cfg:=⟨aX,[uu]⟩
theorem Ew:ah Tryz.prog Dv.tab:=(ah.cons Bb ah.nil)
theorem Kc(a b:Int)(ha:i64 a=true)(hb:i64 b=true):ag Tryz.prog 183 [.i 12,.i a,.i b] [] (.tup [.i (cg 12 a b).1,.i (cg 12 a b).2]) []:=by
 refine dg Ew Tryz.func183 (.ite false (.ite (!decide (IntKind.wrap .i64 (a+b)<a)==decide (b<(0:Int))) (.ret (.tup [.i 0,.i 7]) []) (.ret (.tup [.i (IntKind.wrap .i64 (a+b)),.i 0]) [])) (.ite true (.ite (!decide (IntKind.wrap .i64 (a - b)>a)==decide (b<(0:Int))) (.ret (.tup [.i 0,.i 7]) []) (.ret (.tup [.i (IntKind.wrap .i64 (a - b)),.i 0]) [])) (.ite false (.need (i64 a=true∧i64 b=true) (.ite (!i64 (a * b)) (.ret (.tup [.i 0,.i 7]) []) (.ret (.tup [.i (iR a b),.i 0]) []))) (.ite (b==(0:Int)) (.ret (.tup [.i 0,.i 6]) []) (.ite (b==(-1:Int)&&(12:Int)==15) (.ret (.tup [.i 0,.i 0]) []) (.ite (b==(-1:Int)) (.stop [.ops [1,1,0,1,0,1,1,1,1,1,1,0,0,1,1,1,1,1,0,0] 1,.code [1,1,0,1,0,1,1,1,1,1,1,0,0,1,1,1,1,1,0,1],.inBlock 1,.code [1,1,0,1,0,1,1,1,1,1,1,1],.inBlock 0,.code [1,1,1]] {n:=70,fr:=[(1,.i a),(2,.i b),(6,.i 0),(7,.i 0),(8,.i 0),(9,.p (.bool true)),(24,.i a)],ck:=[],kn:=[9]}) (.ite false (.need (b≠(0:Int)) (.ret (.tup [.i (IntKind.wrap .i64 (Int.tdiv a b)),.i 0]) [])) (.need (b≠(0:Int)) (.ret (.tup [.i (Int.tmod a b),.i 0]) []))))))))) fun Γ=>?_
 refine⟨fun h=>absurd h (by decide),fun _=>⟨fun _=>⟨fun h=>?_,fun h=>?_⟩,fun h=>absurd h (by decide)⟩⟩
 · have h':i64 (a - b)=false:=by rw[←pI ha hb];simpa using h
   refine⟨?_,rfl⟩;simp[cg,okI,h']
 · have h':i64 (a - b)=true:=by rw[←pI ha hb];simpa using h
   refine⟨?_,rfl⟩;simp[cg,okI,h',wrap_i64 h']
def pk:Ent:=(183,fun
 |[.c (.pd (.int .i64 12)),.c (.pd (.int .i64 a)),.c (.pd (.int .i64 b))],[]=>some (some (i64 a=true∧i64 b=true),.tup [.c (.pd (.int .i64 (cg 12 a b).1)),.c (.pd (.int .i64 (cg 12 a b).2))],[])
 |_,_=>none)
theorem CC:EntOk Tryz.prog pk:=entOk fun vs ck=>by
 unfold pk;dsimp only;split
 ·rename_i a b;exact entS fun hp=>Kc a b hp.1 hp.2
 ·exact entN
def HZ:Cfg:=⟨aX,[uu,pk]⟩
theorem H3:ah Tryz.prog HZ.tab:=(ah.cons Bb (ah.cons CC ah.nil))
theorem Bq (op a b:Int) (hop:11≤op∧op≤15) (ha:i64 a=true) (hb:i64 b=true):ag Tryz.prog 183 [.i op,.i a,.i b] [] (.tup [.i (cg op a b).1,.i (cg op a b).2]) []:=by
 refine dg H3 Tryz.func183 (.ite (op==(11:Int)) (.ite (!decide (IntKind.wrap .i64 (a+b)<a)==decide (b<(0:Int))) (.ret (.tup [.i 0,.i 7]) []) (.ret (.tup [.i (IntKind.wrap .i64 (a+b)),.i 0]) [])) (.ite (op==(12:Int)) (.ite (!decide (IntKind.wrap .i64 (a - b)>a)==decide (b<(0:Int))) (.ret (.tup [.i 0,.i 7]) []) (.ret (.tup [.i (IntKind.wrap .i64 (a - b)),.i 0]) [])) (.ite (op==(13:Int)) (.need (i64 a=true∧i64 b=true) (.ite (!i64 (a * b)) (.ret (.tup [.i 0,.i 7]) []) (.ret (.tup [.i (iR a b),.i 0]) []))) (.ite (b==(0:Int)) (.ret (.tup [.i 0,.i 6]) []) (.ite (b==(-1:Int)&&op==(15:Int)) (.ret (.tup [.i 0,.i 0]) []) (.ite (b==(-1:Int)) (.need (i64 (0:Int)=true∧i64 a=true) (.ret (.tup [.i ((cg (12:Int) (0:Int) a).1),.i ((cg (12:Int) (0:Int) a).2)]) [])) (.ite (op==(14:Int)) (.need (b≠(0:Int)) (.ret (.tup [.i (IntKind.wrap .i64 (Int.tdiv a b)),.i 0]) [])) (.need (b≠(0:Int)) (.ret (.tup [.i (Int.tmod a b),.i 0]) []))))))))) fun Γ=>?_
 refine⟨fun h=>?_,fun h11=>⟨fun h=>?_,fun h12=>⟨fun h=>⟨⟨ha,hb⟩,?_⟩,fun h13=>?_⟩⟩⟩
 · have e:op=11:=by simpa using h
   subst e
   refine⟨fun h=>?_,fun h=>?_⟩
   · have h':i64 (a+b)=false:=by rw[←Ah ha hb];simpa using h
     refine⟨?_,rfl⟩;simp[cg,okI,h']
   · have h':i64 (a+b)=true:=by rw[←Ah ha hb];simpa using h
     refine⟨?_,rfl⟩;simp[cg,okI,h',wrap_i64 h']
 · have e:op=12:=by simpa using h
   subst e
   refine⟨fun h=>?_,fun h=>?_⟩
   · have h':i64 (a - b)=false:=by rw[←pI ha hb];simpa using h
     refine⟨?_,rfl⟩;simp[cg,okI,h']
   · have h':i64 (a - b)=true:=by rw[←pI ha hb];simpa using h
     refine⟨?_,rfl⟩;simp[cg,okI,h',wrap_i64 h']
 · have e:op=13:=by simpa using h
   subst e
   refine⟨fun h=>?_,fun h=>?_⟩
   · have h':i64 (a * b)=false:=by simpa using h
     refine⟨?_,rfl⟩;simp[cg,okI,h']
   · have h':i64 (a * b)=true:=by simpa using h
     have hp:iR a b=a * b:=by
      obtain⟨c1,c2,c3⟩:=vw a b
      by_cases h0:kq (b7 a) (b7 b)=0
      · cases hd:(decide (a<0) != decide (b<0))
        ·exact(c3 h0 hd).2 h'
        ·exact(c2 h0 hd).2 h'
      ·rw[c1 h0]at h';cases h'
     refine⟨?_,rfl⟩;simp[cg,okI,h',hp]
 · have n1:op≠11:=by simpa using h11
   have n2:op≠12:=by simpa using h12
   have n3:op≠13:=by simpa using h13
   refine⟨fun h=>?_,fun h0=>⟨fun h=>?_,fun h1=>⟨fun h=>⟨⟨by decide,ha⟩,?_⟩,fun h2=>⟨fun h=>?_,fun h3=>?_⟩⟩⟩⟩
   · have e:b=0:=by simpa using h
     refine⟨?_,rfl⟩;simp[cg,n1,n2,n3,e]
   · have e:b = -1∧op=15:=by simpa using h
     refine⟨?_,rfl⟩;simp[cg,e.1,e.2,Cf]
   · have e:b = -1:=by simpa using h
     have e14:op=14:=by
      have:¬(b = -1∧op=15):=by simpa using h1
      omega
     have hw:cg 12 0 a=cg op a b:=by
      subst e;subst e14
      simp only[cg,Cc]
      simp
     refine⟨?_,rfl⟩;rw[hw]
   · have e:op=14:=by simpa using h
     have nb:b≠0:=by simpa using h0
     have nb1:b≠-1:=by simpa using h2
     have hd:=Nm ha nb nb1
     refine⟨nb,?_,rfl⟩;simp[cg,e,nb,okI,hd,wrap_i64 hd]
   · have e:op≠14:=by simpa using h3
     have nb:b≠0:=by simpa using h0
     refine⟨nb,?_,rfl⟩;simp[cg,n1,n2,n3,e,nb]
def rX:Ent:=(183,fun
 |[.c (.pd (.int .i64 op)),.c (.pd (.int .i64 a)),.c (.pd (.int .i64 b))],[]=>some (some ((11≤op∧op≤15)∧i64 a=true∧i64 b=true),.tup [.c (.pd (.int .i64 (cg op a b).1)),.c (.pd (.int .i64 (cg op a b).2))],[])
 |_,_=>none)
theorem Fu:EntOk Tryz.prog rX:=entOk fun vs ck=>by
 unfold rX;dsimp only;split
 ·rename_i op a b;exact entS fun hp=>Bq op a b hp.1 hp.2.1 hp.2.2
 ·exact entN
def Dt:Cfg:=⟨aX,[qg]⟩
theorem Es:ah Tryz.prog Dt.tab:=(ah.cons xp ah.nil)
theorem Ph(a:Int):ag Tryz.prog 136 [.i a] [] (.x (.b (pIn a))) []:=by
 refine dg aV Tryz.func136 (.ret (.p (.bool (decide (a≥(-1048576:Int))&&decide (a≤(1048576:Int))))) []) fun Γ=>?_
 exact⟨rfl,rfl⟩
def eIn:Ent:=(136,fun
 |[.c (.pd (.int .i64 a))],[]=>some (none,.x (.c (.pd (.bool (pIn a)))),[])
 |_,_=>none)
theorem Q1:EntOk Tryz.prog eIn:=entOk fun vs ck=>by
 unfold eIn;dsimp only;split
 ·rename_i a;exact entS fun hp=>Ph a
 ·exact entN
def NI:Cfg:=⟨aX,[eIn]⟩
theorem KC:ah Tryz.prog NI.tab:=(ah.cons Q1 ah.nil)
end Go.Proofs.YtlhgnjmdopjpeaaGreatDoor
