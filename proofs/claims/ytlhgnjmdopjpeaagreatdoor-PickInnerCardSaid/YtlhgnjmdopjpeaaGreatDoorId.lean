/- Plain laws: floats that are whole numbers, their sums and products; parts of points. Conditions: each theorem's own. -/
import Derived.Laws.ComplexArith
import Derived.Test.YtlhgnjmdopjpeaaGreatDoorPD
import Derived.Test.YtlhgnjmdopjpeaaGreatDoorVb
namespace Go.Ev
open Ieee
theorem log2_lt{a n:Nat}(h0:a≠0)(h:a<2 ^ n):a.log2<n:=(Nat.log2_lt h0).2 h
theorem ni{a:Nat}(h0:a≠0)(k:Nat):(a * 2 ^ k).log2=a.log2+k:=by
 have h1:=Nat.log2_self_le h0
 have h2:a<2 ^ (a.log2+1):=Nat.lt_log2_self
 have hne:a * 2 ^ k≠0:=Nat.mul_ne_zero h0 (Nat.ne_of_gt (cD k))
 have ha:2 ^ (a.log2+k)≤a * 2 ^ k:=by rw[cy];exact bQ _ h1
 have hb:a * 2 ^ k<2 ^ (a.log2+k+1):=by
  rw[show a.log2+k+1=a.log2+1+k from by omega,cy]
  exact Nat.mul_lt_mul_of_pos_right h2 (cD k)
 have g1:a.log2+k≤(a * 2 ^ k).log2:=(Nat.le_log2 hne).2 ha
 have g2:(a * 2 ^ k).log2<a.log2+k+1:=(Nat.log2_lt hne).2 hb
 omega
theorem yK(neg:Bool)(n:Nat):Toward.even.cut neg n 0=n:=by
 simp[Toward.cut,Nat.mod_one]
theorem wm(neg:Bool)(b d:Nat)(hb:b≠0):Toward.even.cut neg (b * 2 ^ d) d=b:=by
 have hl:=ni hb d
 have hmin:min d ((b * 2 ^ d).log2+2)=d:=by rw[hl];omega
 have hg:(1:Nat) <<< d=2 ^ d:=by rw[cU,Nat.one_mul]
 have hpos:=cD d
 simp only[Toward.cut,hmin,hg,Nat.mul_div_cancel _ hpos,Nat.mul_mod_left]
 have h2:(2 ^ d==2 * 0)=false:=by simp
 simp[h2]
theorem jE:double.leastPlace = -1074:=by decide
theorem pQ:double.binade=4503599627370496:=by decide
theorem oT:double.infRung=9218868437227405312:=by decide
theorem mh:double.signWeight=9223372036854775808:=by decide
theorem v8(neg:Bool)(r:Nat)(hr:r<9223372036854775808):double.word neg r / 9223372036854775808 % 2=neg.toNat∧double.word neg r % 9223372036854775808=r:=by
 have hw:double.word neg r=if neg then 9223372036854775808+r else r:=by unfold Format.word;rw[mh]
 rw[hw]
 cases neg
 ·simp only[dW,if_false,Bool.toNat_false];omega
 ·simp only[if_true,Bool.toNat_true];omega
theorem wV(x:Nat):double.read x=if x % 9223372036854775808<4503599627370496 then .number (x / 9223372036854775808 % 2==1) (x % 9223372036854775808) (-1074)
 else if x % 9223372036854775808<9218868437227405312 then .number (x / 9223372036854775808 % 2==1) (4503599627370496+x % 9223372036854775808 % 4503599627370496) (-1074+(x % 9223372036854775808 / 4503599627370496 - 1:Nat))
 else if x % 9223372036854775808=9218868437227405312 then .infinity (x / 9223372036854775808 % 2==1)else .nan (x / 9223372036854775808 % 2==1) (x % 9223372036854775808 - 9218868437227405312):=by
 unfold Format.read
 simp only[mh,pQ,oT,jE]
theorem Kd(neg:Bool)(q f:Nat)(hq:1≤q)(hq2:q<2047)(hf:f<4503599627370496):double.read (double.word neg (q * 4503599627370496+f)) = .number neg (4503599627370496+f) (-1074+((q - 1:Nat):Int)):=by
 have hr:q * 4503599627370496+f<9223372036854775808:=by omega
 obtain⟨h1,h2⟩:=v8 neg _ hr
 have c1:¬(q * 4503599627370496+f<4503599627370496):=by omega
 have c2:q * 4503599627370496+f<9218868437227405312:=by omega
 have c3:(q * 4503599627370496+f) % 4503599627370496=f:=by omega
 have c4:(q * 4503599627370496+f) / 4503599627370496=q:=by omega
 rw[wV,h1,h2,if_neg c1,if_pos c2,c3,c4]
 cases neg <;> rfl
theorem Cw(s:Bool)(a k:Nat)(h0:a≠0)(h:a<2 ^ 53):double.read (double.nearest s (a * 2 ^ k) (-(k:Int))) = .number s (a * 2 ^ (52 - a.log2)) ((a.log2:Int) - 52):=by
 have hl:=ni h0 k
 have hlt:=log2_lt h0 h
 have hne:a * 2 ^ k≠0:=Nat.mul_ne_zero h0 (Nat.ne_of_gt (cD k))
 have hlast:max (-(k:Int)+((a * 2 ^ k).log2:Int) - (double.fractionBits:Int)) double.leastPlace=(a.log2:Int) - 52:=by
  rw[hl,jE]
  have:(double.fractionBits:Int)=52:=rfl
  rw[this];omega
 have hkept:Toward.even.cut s ((a * 2 ^ k) <<< (-(k:Int) - ((a.log2:Int) - 52)).toNat) (((a.log2:Int) - 52) - -(k:Int)).toNat=a * 2 ^ (52 - a.log2):=by
  rcases Nat.le_total (k+a.log2) 52 with hc |hc
  · have e1:(-(k:Int) - ((a.log2:Int) - 52)).toNat=52 - a.log2 - k:=by omega
    have e2:(((a.log2:Int) - 52) - -(k:Int)).toNat=0:=by omega
    rw[e1,e2,yK,cU,gH,←cy]
    congr 2;omega
  · have e1:(-(k:Int) - ((a.log2:Int) - 52)).toNat=0:=by omega
    have e2:(((a.log2:Int) - 52) - -(k:Int)).toNat=k+a.log2 - 52:=by omega
    rw[e1,e2,Nat.shiftLeft_zero]
    have e3:a * 2 ^ k=a * 2 ^ (52 - a.log2) * 2 ^ (k+a.log2 - 52):=by
     rw[gH,←cy];congr 2;omega
    rw[e3]
    exact wm s _ _ (Nat.mul_ne_zero h0 (Nat.ne_of_gt (cD _)))
 have hk1:2 ^ 52≤a * 2 ^ (52 - a.log2):=by
  have h1:=Nat.log2_self_le h0
  have:2 ^ 52=2 ^ a.log2 * 2 ^ (52 - a.log2):=by rw[←cy];congr 1;omega
  rw[this];exact bQ _ h1
 have hk2:a * 2 ^ (52 - a.log2)<2 ^ 53:=by
  have h2:a<2 ^ (a.log2+1):=Nat.lt_log2_self
  have:2 ^ 53=2 ^ (a.log2+1) * 2 ^ (52 - a.log2):=by rw[←cy];congr 1;omega
  rw[this];exact Nat.mul_lt_mul_of_pos_right h2 (cD _)
 have hn:double.nearest s (a * 2 ^ k) (-(k:Int))=double.word s (min (((a.log2:Int) - 52 - -1074).toNat * 4503599627370496+a * 2 ^ (52 - a.log2)) 9218868437227405312):=by
  unfold Format.nearest
  rw[if_neg hne]
  dsimp only
  rw[hlast,hkept,jE,pQ,oT]
 rw[hn]
 clear hn hkept hlast
 have p52:(2:Nat) ^ 52=4503599627370496:=by decide
 have p53:(2:Nat) ^ 53=9007199254740992:=by decide
 rw[p52]at hk1
 rw[p53]at hk2
 generalize a * 2 ^ (52 - a.log2)=m at hk1 hk2 ⊢
 have e4:((a.log2:Int) - 52 - -1074).toNat=a.log2+1022:=by omega
 rw[e4]
 have e5:min ((a.log2+1022) * 4503599627370496+m) 9218868437227405312=(a.log2+1023) * 4503599627370496+(m - 4503599627370496):=by omega
 rw[e5,Kd s (a.log2+1023) (m - 4503599627370496) (by omega) (by omega) (by omega)]
 have e6:4503599627370496+(m - 4503599627370496)=m:=by omega
 have e7:(-1074:Int)+((a.log2+1023 - 1:Nat):Int)=(a.log2:Int) - 52:=by omega
 rw[e6,e7]
theorem DE(s:Bool)(p:Int):double.read (double.nearest s 0 p) = .number s 0 (-1074):=by
 have:double.nearest s 0 p=double.word s 0:=by unfold Format.nearest;rw[if_pos rfl]
 obtain⟨h1,h2⟩:=v8 s 0 (by omega)
 rw[this,wV,h1,h2,if_pos (by omega)]
 cases s <;> rfl
end Go.Ev
namespace Go.Ev
open Ieee
def isI(x:Nat)(n:Int):Prop:=∃(s:Bool) (k:Nat),double.read x = .number s (n.natAbs * 2 ^ k) (-(k:Int))∧(n<0→s=true)∧(0<n→s=false)
theorem lA(s:Bool)(n:Int)(k:Nat)(h:n.natAbs<2 ^ 53)(h1:n<0→s=true)(h2:0<n→s=false):isI (double.nearest s (n.natAbs * 2 ^ k) (-(k:Int))) n:=by
 by_cases h0:n.natAbs=0
 · obtain⟨q,hq⟩:∃q:Nat,(-1074:Int) = -(q:Int):=⟨1074,rfl⟩
   refine⟨s,q,?_,h1,h2⟩
   rw[h0,Nat.zero_mul,Nat.zero_mul,DE,hq]
 · have hlt:=log2_lt h0 h
   refine⟨s,52 - n.natAbs.log2,?_,h1,h2⟩
   rw[Cw s _ k h0 h]
   congr 1
   omega
theorem iz(n:Int)(h:n.natAbs<2 ^ 53):isI (FloatKind.f64.nearest n) n:=by
 have:=lA (decide (n<0)) n 0 h (fun h=>by simpa using h) (fun h=>by simp;omega)
 simpa[FloatKind.nearest,FloatKind.encode,FloatKind.format,Format.write]using this
theorem gV(s:Bool)(n:Int)(j:Nat)(h1:n<0→s=true)(h2:0<n→s=false)(m:Nat)(hm:m=n.natAbs * 2 ^ j)(u:Nat):signed s m u=n * 2 ^ (j+u):=by
 subst hm
 unfold signed
 rw[cU,gH,←cy]
 cases s
 · have:0≤n:=by
    rcases Int.lt_or_le n 0 with h |h
    ·exact absurd (h1 h) (by simp)
    ·exact h
   simp only[dW,if_false,Int.natCast_mul,Int.natCast_pow]
   congr 1;omega
 · have:n≤0:=by
    rcases Int.lt_or_le 0 n with h |h
    ·exact absurd (h2 h) (by simp)
    ·exact h
   simp only[if_true,Int.natCast_mul,Int.natCast_pow]
   rw[←Int.neg_mul]
   congr 1;omega
theorem ox(k l:Nat):min (-(k:Int)) (-(l:Int)) = -((max k l:Nat):Int):=by omega
theorem wH{x y:Nat}{n m:Int}(hx:isI x n)(hy:isI y m)(h:(n+m).natAbs<2 ^ 53):∃r,double.add x y=some r∧isI r (n+m):=by
 obtain⟨s,k,e1,a1,a2⟩:=hx
 obtain⟨t,l,e2,b1,b2⟩:=hy
 have g1:=gV s n k a1 a2 _ rfl ((-(k:Int)) - -((max k l:Nat):Int)).toNat
 have g2:=gV t m l b1 b2 _ rfl ((-(l:Int)) - -((max k l:Nat):Int)).toNat
 have u1:k+((-(k:Int)) - -((max k l:Nat):Int)).toNat=max k l:=by omega
 have u2:l+((-(l:Int)) - -((max k l:Nat):Int)).toNat=max k l:=by omega
 rw[u1]at g1
 rw[u2]at g2
 have hpos:(0:Int)<2 ^ (max k l):=Int.pow_pos (by decide)
 have htot:n * 2 ^ (max k l)+m * 2 ^ (max k l)=(n+m) * 2 ^ (max k l):=by rw[Int.add_mul]
 refine⟨_,by simp only[Format.add,e1,e2,Datum.sum,ox,g1,g2,htot,bu,Format.write];rfl,?_⟩
 have hab:((n+m) * 2 ^ (max k l)).natAbs=(n+m).natAbs * 2 ^ (max k l):=by rw[gd,Int.natAbs_pow];rfl
 rw[hab]
 refine lA _ (n+m) (max k l) h (fun hn=>?_) (fun hn=>?_)
 · have:(n+m) * 2 ^ (max k l)<0:=eo hn hpos
   rw[if_neg (by omega)];simpa using this
 · have:0<(n+m) * 2 ^ (max k l):=Int.mul_pos hn hpos
   rw[if_neg (by omega)];simp;omega
theorem tB{x y:Nat}{n m:Int}(hx:isI x n)(hy:isI y m)(h:(n - m).natAbs<2 ^ 53):∃r,double.sub x y=some r∧isI r (n - m):=by
 obtain⟨s,k,e1,a1,a2⟩:=hx
 obtain⟨t,l,e2,b1,b2⟩:=hy
 have g1:=gV s n k a1 a2 _ rfl ((-(k:Int)) - -((max k l:Nat):Int)).toNat
 have g2:=gV (!t) (-m) l (fun h=>by rw[b2 (by omega)];rfl) (fun h=>by rw[b1 (by omega)];rfl) (m.natAbs * 2 ^ l) (by rw[Int.natAbs_neg]) ((-(l:Int)) - -((max k l:Nat):Int)).toNat
 have u1:k+((-(k:Int)) - -((max k l:Nat):Int)).toNat=max k l:=by omega
 have u2:l+((-(l:Int)) - -((max k l:Nat):Int)).toNat=max k l:=by omega
 rw[u1]at g1
 rw[u2]at g2
 have hpos:(0:Int)<2 ^ (max k l):=Int.pow_pos (by decide)
 have htot:n * 2 ^ (max k l) + -m * 2 ^ (max k l)=(n - m) * 2 ^ (max k l):=by rw[←Int.add_mul];rfl
 refine⟨_,by simp only[Format.sub,e1,e2,Datum.opposite,Datum.sum,ox,g1,g2,htot,bu,Format.write];rfl,?_⟩
 have hab:((n - m) * 2 ^ (max k l)).natAbs=(n - m).natAbs * 2 ^ (max k l):=by rw[gd,Int.natAbs_pow];rfl
 rw[hab]
 refine lA _ (n - m) (max k l) h (fun hn=>?_) (fun hn=>?_)
 · have:(n - m) * 2 ^ (max k l)<0:=eo hn hpos
   rw[if_neg (by omega)];simpa using this
 · have:0<(n - m) * 2 ^ (max k l):=Int.mul_pos hn hpos
   rw[if_neg (by omega)];simp;omega
theorem lB{x y:Nat}{n m:Int}(hx:isI x n)(hy:isI y m)(h:(n * m).natAbs<2 ^ 53):∃r,double.mul x y=some r∧isI r (n * m):=by
 obtain⟨s,k,e1,a1,a2⟩:=hx
 obtain⟨t,l,e2,b1,b2⟩:=hy
 refine⟨_,by simp only[Format.mul,e1,e2,Datum.product,bu,Format.write];rfl,?_⟩
 have e3:n.natAbs * 2 ^ k * (m.natAbs * 2 ^ l)=(n * m).natAbs * 2 ^ (k+l):=by
  rw[gd,cy];ac_rfl
 have e4 : -(k:Int) + -(l:Int) = -((k+l:Nat):Int):=by omega
 rw[e3,e4]
 refine lA _ (n * m) (k+l) h (fun hn=>?_) (fun hn=>?_)
 · rcases dG n 0 with h1 |h1 |h1
   · rcases dG m 0 with h2 |h2 |h2
     ·have:=Int.mul_pos_of_neg_of_neg h1 h2;omega
     ·subst h2;simp at hn
     ·rw[a1 h1,b2 h2];rfl
   ·subst h1;simp at hn
   · rcases dG m 0 with h2 |h2 |h2
     ·rw[a2 h1,b1 h2];rfl
     ·subst h2;simp at hn
     ·have:=Int.mul_pos h1 h2;omega
 · rcases dG n 0 with h1 |h1 |h1
   · rcases dG m 0 with h2 |h2 |h2
     ·rw[a1 h1,b1 h2];rfl
     ·subst h2;simp at hn
     ·have:=eo h1 h2;omega
   ·subst h1;simp at hn
   · rcases dG m 0 with h2 |h2 |h2
     ·have:=Int.mul_neg_of_pos_of_neg h1 h2;omega
     ·subst h2;simp at hn
     ·rw[a2 h1,b2 h2];rfl
end Go.Ev
namespace Go.Ev
open Ieee
theorem yJ(a b c:Int)(hc:0<c):compare (a * c) (b * c)=compare a b:=by
 rcases dG a b with h |h |h
 ·rw[gp.2 h,gp.2 (Int.mul_lt_mul_of_pos_right h hc)]
 ·subst h;simp
 ·rw[gn.2 h,gn.2 (Int.mul_lt_mul_of_pos_right h hc)]
theorem wG{x y:Nat}{n m:Int}(hx:isI x n)(hy:isI y m):dB x y=some (compare n m):=by
 obtain⟨s,k,e1,a1,a2⟩:=hx
 obtain⟨t,l,e2,b1,b2⟩:=hy
 have g1:=gV s n k a1 a2 _ rfl ((-(k:Int)) - -((max k l:Nat):Int)).toNat
 have g2:=gV t m l b1 b2 _ rfl ((-(l:Int)) - -((max k l:Nat):Int)).toNat
 have u1:k+((-(k:Int)) - -((max k l:Nat):Int)).toNat=max k l:=by omega
 have u2:l+((-(l:Int)) - -((max k l:Nat):Int)).toNat=max k l:=by omega
 rw[u1]at g1
 rw[u2]at g2
 have hpos:(0:Int)<2 ^ (max k l):=Int.pow_pos (by decide)
 simp only[dB,FloatKind.format,Format.order,e1,e2,Datum.order,ox,g1,g2,yJ _ _ _ hpos]
theorem JH{x:Nat}{n:Int}(hx:isI x n):(FloatKind.f64.decode x).toInt .zero=some n:=by
 obtain⟨s,k,e1,a1,a2⟩:=hx
 have hcut:Toward.zero.cut s (n.natAbs * 2 ^ k) k=n.natAbs:=by
  by_cases h0:n.natAbs=0
  ·rw[h0];simp[Toward.cut]
  · have hl:=ni h0 k
    have hmin:min k ((n.natAbs * 2 ^ k).log2+2)=k:=by rw[hl];omega
    have hg:(1:Nat) <<< k=2 ^ k:=by rw[cU,Nat.one_mul]
    simp only[Toward.cut,hmin,hg,Nat.mul_div_cancel _ (cD k)]
    simp
 have e2:(FloatKind.f64.decode x) = .number s (n.natAbs * 2 ^ k) (-(k:Int)):=e1
 have u1:(-(k:Int)).toNat=0:=by omega
 have u2:(- -(k:Int)).toNat=k:=by omega
 simp only[e2,Datum.toInt,Datum.integral,u1,u2,Nat.shiftLeft_zero,hcut]
 have:=gV s n 0 a1 a2 n.natAbs (by simp) 0
 simp only[cF]at this
 rw[this];simp
theorem j2{x:Nat}{n:Int}(hx:isI x n):da x=n:=by simp[da,JH hx]
end Go.Ev
namespace Go.Ev
open Ieee
def inB(x:Nat):Bool:=(dB x 13920626448202203136==some .gt||dB x 13920626448202203136==some .eq)&&(dB x 4697254411347427328==some .lt||dB x 4697254411347427328==some .eq)
def iq(x:Nat):Bool:=inB x&&dB x (FloatKind.f64.nearest (da x))==some .eq
def pIn(a:Int):Bool:=decide (-1048576≤a)&&decide (a≤1048576)
theorem MT:FloatKind.f64.nearest (-1048576)=13920626448202203136:=by decide
theorem JV:FloatKind.f64.nearest 1048576=4697254411347427328:=by decide
theorem P1:isI 13920626448202203136 (-1048576):=MT ▸ iz (-1048576) (by decide)
theorem Mq:isI 4697254411347427328 1048576:=JV ▸ iz 1048576 (by decide)
theorem oc{x y:Nat}{s t:Bool}{m n:Nat}{i j:Int}(hx:double.read x = .number s m i)(hy:double.read y = .number t n j):dB x y=some (compare (signed s m (i - min i j).toNat) (signed t n (j - min i j).toNat)):=by
 simp only[dB,FloatKind.format,Format.order,hx,hy,Datum.order]
theorem Cv:double.read 13920626448202203136 = .number true (2 ^ 52) (-32):=by decide
theorem yn:double.read 4697254411347427328 = .number false (2 ^ 52) (-32):=by decide
theorem cu{x:Nat}:inB x=true↔(dB x 13920626448202203136=some .gt∨dB x 13920626448202203136=some .eq)∧(dB x 4697254411347427328=some .lt∨dB x 4697254411347427328=some .eq):=by
 simp[inB]
theorem vu{x:Nat}(h:inB x=true):∃s m i,double.read x = .number s m i:=by
 cases hx:double.read x with
 |number s m i=>exact⟨s,m,i,rfl⟩
 | infinity s =>
   exfalso
   obtain⟨h1,h2⟩:=cu.1 h
   simp only[dB,FloatKind.format,Format.order,hx,Cv,yn,Datum.order]at h1 h2
   cases s <;> simp at h1 h2
 | nan s f =>
   exfalso
   obtain⟨h1,_⟩:=cu.1 h
   simp only[dB,FloatKind.format,Format.order,hx,Datum.order]at h1
   simp at h1
theorem Fv{a b:Int}(h:compare a b = .gt∨compare a b = .eq):b≤a:=by
 rcases h with h |h
 ·exact Int.le_of_lt (gn.1 h)
 ·rw[gm.1 h];exact fA _
theorem Fw{a b:Int}(h:compare a b = .lt∨compare a b = .eq):a≤b:=by
 rcases h with h |h
 ·exact Int.le_of_lt (gp.1 h)
 ·rw[gm.1 h];exact fA _
theorem pN(s:Bool)(m u:Nat):(signed s m u).natAbs=m * 2 ^ u:=by
 rw[←cU]
 unfold signed
 generalize m <<< u=q
 cases s <;> simp
theorem Hk(m u:Nat):0≤signed false m u:=by
 unfold signed
 rw[if_neg (by simp)]
 exact Int.natCast_nonneg _
theorem Hj(m u:Nat):signed true m u≤0:=by
 unfold signed
 rw[if_pos rfl]
 have:=Int.natCast_nonneg (m <<< u)
 omega
theorem Ey{x:Nat}(h:inB x=true){s:Bool}{m:Nat}{i:Int}(hx:double.read x = .number s m i):m * 2 ^ i.toNat≤2 ^ 20 * 2 ^ (-i).toNat:=by
 obtain⟨h1,h2⟩:=cu.1 h
 rw[oc hx Cv]at h1
 rw[oc hx yn]at h2
 have h3:=Fv (h1.imp bX bX)
 have h4:=Fw (h2.imp bX bX)
 have h5:(signed s m (i - min i (-32)).toNat).natAbs≤2 ^ 52 * 2 ^ (-32 - min i (-32)).toNat:=by
  have e1:signed true (2 ^ 52) (-32 - min i (-32)).toNat = -((2 ^ 52 * 2 ^ (-32 - min i (-32)).toNat:Nat):Int):=by
   unfold signed;rw[cU];rfl
  have e2:signed false (2 ^ 52) (-32 - min i (-32)).toNat=((2 ^ 52 * 2 ^ (-32 - min i (-32)).toNat:Nat):Int):=by
   unfold signed;rw[cU];rfl
  rw[e1]at h3
  rw[e2]at h4
  generalize 2 ^ 52 * 2 ^ (-32 - min i (-32)).toNat=c at h3 h4 ⊢
  generalize signed s m (i - min i (-32)).toNat=v at h3 h4 ⊢
  omega
 rw[pN]at h5
 rcases Int.le_total i (-32)with hi |hi
 · have e1:(i - min i (-32)).toNat=0:=by omega
   have e2:(-32 - min i (-32)).toNat=(-i).toNat - 32:=by omega
   have e3:i.toNat=0:=by omega
   have e4:2 ^ 20 * 2 ^ (-i).toNat=2 ^ 52 * 2 ^ ((-i).toNat - 32):=by rw[←cy,←cy];congr 1;omega
   rw[e3,e4]
   rw[e1,e2]at h5
   exact h5
 · have e1:(i - min i (-32)).toNat=(i+32).toNat:=by congr 1;omega
   have e2:(-32 - min i (-32)).toNat=0:=by omega
   rw[e1,e2]at h5
   rcases Int.le_total 0 i with h0 |h0
   · have e3:(-i).toNat=0:=by omega
     have e4:(i+32).toNat=i.toNat+32:=by omega
     rw[e4,cy,←gH]at h5
     rw[e3]
     have:m * 2 ^ i.toNat * 2 ^ 32≤2 ^ 20 * 2 ^ 32:=by simpa[←cy]using h5
     have:=Nat.le_of_mul_le_mul_right this (cD 32)
     simpa using this
   · have e3:i.toNat=0:=by omega
     rw[e3]
     have e5:2 ^ 20 * 2 ^ (-i).toNat * 2 ^ (i+32).toNat=2 ^ 52:=by
      rw[←cy,←cy];congr 1;omega
     refine Nat.le_of_mul_le_mul_right (c:=2 ^ (i+32).toNat) ?_ (cD _)
     rw[e5];simpa using h5
theorem Df(s:Bool)(n d c:Nat)(h:n≤c * 2 ^ d):Toward.zero.cut s n d≤c:=by
 have hg:(1:Nat) <<< (min d (n.log2+2))=2 ^ (min d (n.log2+2)):=by rw[cU,Nat.one_mul]
 simp only[Toward.cut,hg]
 show n / 2 ^ min d (n.log2+2)+0≤c
 rw[cF]
 rcases Nat.le_total d (n.log2+2)with hd |hd
 · rw[dw hd]
   exact Nat.div_le_of_le_mul (by rw[Nat.mul_comm];exact h)
 · rw[Nat.min_eq_right hd]
   have:n<2 ^ (n.log2+2):=Nat.lt_trans Nat.lt_log2_self (Nat.pow_lt_pow_right (by decide) (by omega))
   rw[Nat.div_eq_of_lt this];exact aS _
theorem Ex{x:Nat}(h:inB x=true):(FloatKind.f64.decode x).toInt .zero=some (da x)∧pIn (da x)=true:=by
 obtain⟨s,m,i,hx⟩:=vu h
 have hm:=Ey h hx
 have hd:FloatKind.f64.decode x = .number s m i:=hx
 have ht:(FloatKind.f64.decode x).toInt .zero=some (signed s (Toward.zero.cut s (m <<< i.toNat) (-i).toNat) 0):=by
  rw[hd];rfl
 have hf:da x=signed s (Toward.zero.cut s (m <<< i.toNat) (-i).toNat) 0:=by
  unfold da;rw[ht];rfl
 refine⟨by rw[hf];exact ht,?_⟩
 have hc:=Df s (m <<< i.toNat) (-i).toNat (2 ^ 20) (by rw[cU];exact hm)
 have ha:=pN s (Toward.zero.cut s (m <<< i.toNat) (-i).toNat) 0
 rw[←hf]at ha
 simp only[pIn,af,decide_eq_true_eq]
 have:(2:Nat) ^ 20=1048576:=by decide
 omega
theorem pA{x:Nat}(h:inB x=true):jJ .i64 x:=by
 obtain⟨h1,h2⟩:=Ex h
 simp only[pIn,af,decide_eq_true_eq]at h2
 refine⟨h1,?_,?_⟩
 · have:IntKind.i64.min = -9223372036854775808:=by decide
   omega
 · have:IntKind.i64.max=9223372036854775807:=by decide
   omega
theorem mw{x:Nat}(h:iq x=true):inB x=true:=by
 simp only[iq,af]at h;exact h.1
theorem rj{x:Nat}(h:iq x=true):pIn (da x)=true:=(Ex (mw h)).2
theorem cB{a:Int}(h:pIn a=true):a.natAbs≤1048576:=by
 simp only[pIn,af,decide_eq_true_eq]at h;omega
theorem vH {x:Nat} (h:iq x=true):isI x (da x):=by
 have hB:=mw h
 have hin:=cB (rj h)
 have he:dB x (FloatKind.f64.nearest (da x))=some .eq:=by
  simp only[iq,af,beq_iff_eq]at h;exact h.2
 obtain⟨s,m,i,hx⟩:=vu hB
 have hm:=Ey hB hx
 obtain⟨t,k,hy,b1,b2⟩:=iz (da x) (by omega)
 generalize da x=n at *
 rw[oc hx hy]at he
 have hv:=gm.1 (bX he)
 have hi : i≤0:=by
  rw[wV]at hx
  split at hx
  ·cases hx;decide
  · split at hx
    · rcases Int.le_total i 0 with h |h
      ·exact h
      · exfalso
        have hmm:4503599627370496≤m:=by
         simp only[Datum.number.injEq]at hx;omega
        have e:(-i).toNat=0:=by omega
        rw[e]at hm
        have:m * 1≤m * 2 ^ i.toNat:=Nat.mul_le_mul_left _ (cD _)
        have p20:(2:Nat) ^ 20 * 2 ^ 0=1048576:=by decide
        omega
    ·split at hx <;> cases hx
 obtain⟨k',rfl⟩:∃k':Nat,i = -(k':Int):=⟨(-i).toNat,by omega⟩
 have g2:=gV t n k b1 b2 _ rfl ((-(k:Int)) - min (-(k':Int)) (-(k:Int))).toNat
 rw[g2]at hv
 have hab:=congrArg Int.natAbs hv
 rw[pN,gd,Int.natAbs_pow]at hab
 have e1:(-(k':Int) - min (-(k':Int)) (-(k:Int))).toNat=max k' k - k':=by omega
 have e2:k+(-(k:Int) - min (-(k':Int)) (-(k:Int))).toNat=max k' k:=by omega
 rw[e1,e2]at hab
 have hmm:m=n.natAbs * 2 ^ k':=by
  have e3:(2:Int).natAbs ^ max k' k=2 ^ k' * 2 ^ (max k' k - k'):=by
   rw[←cy];show 2 ^ max k' k=_;congr 1;omega
  rw[e3,←gH]at hab
  exact Nat.eq_of_mul_eq_mul_right (cD _) hab
 rw[e2]at hv
 have hpos:(0:Int)<2 ^ max k' k:=Int.pow_pos (by decide)
 refine⟨s,k',by rw[hx,hmm],fun hn=>?_,fun hn=>?_⟩
 · cases s
   · exfalso
     have:n * 2 ^ max k' k<0:=eo hn hpos
     rw[←hv]at this
     have:=Hk m (-(k':Int) - min (-(k':Int)) (-(k:Int))).toNat
     omega
   ·rfl
 · cases s
   ·rfl
   · exfalso
     have:0<n * 2 ^ max k' k:=Int.mul_pos hn hpos
     rw[←hv]at this
     have:=Hj m (-(k':Int) - min (-(k':Int)) (-(k:Int))).toNat
     omega
theorem P0{x:Nat}{n:Int}(h:isI x n):inB x=pIn n:=by
 unfold inB
 rw[wG h P1,wG h Mq]
 rw[aT]
 simp only[pIn,af,aN,beq_iff_eq,aa,decide_eq_true_eq,gn,gp,gm]
 omega
theorem vz{x:Nat}{n:Int}(h:isI x n):iq x=pIn n:=by
 unfold iq
 rw[P0 h]
 cases hp:pIn n
 ·rfl
 · have:=cB hp
   rw[j2 h,wG h (iz n (by omega))]
   simp
/-! ### points, by the bits of their parts -/
def bV(p:Nat×Nat):Bool:=iq p.1&&iq p.2
def dT:Option (Nat×Nat)→Bool
 |some p=>bV p
 |none=>false
def num(n:Int):Nat:=FloatKind.f64.nearest n
def qk(p:Nat×Nat):Nat×Nat:=(num (da p.1),num (da p.2))
def qj:Option (Nat×Nat)→Nat×Nat
 |some p=>qk p
 |none=>(0,0)
def aw(a b:Int):Nat×Nat:=if pIn a&&pIn b then(num a,num b)else(0,0)
def hX(a b:Int):Int:=if pIn a&&pIn b then 0 else 5
def my(p:Nat×Nat):Int:=if bV p then da p.1 else 0
def mz(p:Nat×Nat):Int:=if bV p then da p.2 else 0
def AH(p:Nat×Nat):Int:=if bV p then 0 else 12
def dE(p q:Nat×Nat)(o:Option (Nat×Nat)):Nat×Nat:=if bV p&&bV q&&dT o then qj o else(0,0)
def dD(p q:Nat×Nat)(o:Option (Nat×Nat)):Int:=if bV p&&bV q then(if dT o then 0 else 5)else 12
theorem ri{p:Nat×Nat}(h:bV p=true):jJ .i64 p.1∧jJ .i64 p.2:=by
 simp only[bV,af]at h
 exact⟨pA (mw h.1),pA (mw h.2)⟩
theorem iF{p:Nat×Nat}(h:bV p=true):isI p.1 (da p.1)∧isI p.2 (da p.2)∧pIn (da p.1)=true∧pIn (da p.2)=true:=by
 simp only[bV,af]at h
 exact⟨vH h.1,vH h.2,rj h.1,rj h.2⟩
theorem ta{a b c d:Nat}{x y z u:Int}(ha:isI a x)(hb:isI b y)(hc:isI c z)(hd:isI d u)(h1:(x+z).natAbs<2 ^ 53)(h2:(y+u).natAbs<2 ^ 53):∃r,cSumBits .add .f64 a b c d=some r∧isI r.1 (x+z)∧isI r.2 (y+u):=by
 obtain⟨r1,e1,g1⟩:=wH ha hc h1
 obtain⟨r2,e2,g2⟩:=wH hb hd h2
 refine⟨(r1,r2),?_,g1,g2⟩
 have f1:floatBits .add .f64 a c=some r1:=e1
 have f2:floatBits .add .f64 b d=some r2:=e2
 simp[cSumBits,f1,f2]
theorem qV{a b c d:Nat}{x y z u:Int}(ha:isI a x)(hb:isI b y)(hc:isI c z)(hd:isI d u)(h1:(x - z).natAbs<2 ^ 53)(h2:(y - u).natAbs<2 ^ 53):∃r,cSumBits .sub .f64 a b c d=some r∧isI r.1 (x - z)∧isI r.2 (y - u):=by
 obtain⟨r1,e1,g1⟩:=tB ha hc h1
 obtain⟨r2,e2,g2⟩:=tB hb hd h2
 refine⟨(r1,r2),?_,g1,g2⟩
 have f1:floatBits .sub .f64 a c=some r1:=e1
 have f2:floatBits .sub .f64 b d=some r2:=e2
 simp[cSumBits,f1,f2]
theorem oh{a b c d:Nat}{x y z u:Int}(ha:isI a x)(hb:isI b y)(hc:isI c z)(hd:isI d u)(h1:x.natAbs≤1048576)(h2:y.natAbs≤1048576)(h3:z.natAbs≤1048576)(h4:u.natAbs≤1048576) :
 ∃r,cMulBits a b c d=some r∧isI r.1 (x * z - y * u)∧isI r.2 (x * u+y * z):=by
 have hm:∀{p q:Int},p.natAbs≤1048576→q.natAbs≤1048576→(p * q).natAbs≤1099511627776:=by
  intro p q hp hq
  rw[gd]
  calc p.natAbs * q.natAbs≤1048576 * 1048576:=Nat.mul_le_mul hp hq
   _=1099511627776:=by decide
 have p53:(2:Nat) ^ 53=9007199254740992:=by decide
 have m1:=hm h1 h3;have m2:=hm h2 h4;have m3:=hm h1 h4;have m4:=hm h2 h3
 obtain⟨ac,e1,g1⟩:=lB ha hc (by omega)
 obtain⟨bd,e2,g2⟩:=lB hb hd (by omega)
 obtain⟨re,e3,g3⟩:=tB g1 g2 (by omega)
 obtain⟨ad,e4,g4⟩:=lB ha hd (by omega)
 obtain⟨bc,e5,g5⟩:=lB hb hc (by omega)
 obtain⟨im,e6,g6⟩:=wH g4 g5 (by omega)
 refine⟨(re,im),?_,g3,g6⟩
 have f1:floatBits .mul .f64 a c=some ac:=e1
 have f2:floatBits .mul .f64 b d=some bd:=e2
 have f3:floatBits .sub .f64 ac bd=some re:=e3
 have f4:floatBits .mul .f64 a d=some ad:=e4
 have f5:floatBits .mul .f64 b c=some bc:=e5
 have f6:floatBits .add .f64 ad bc=some im:=e6
 simp[cMulBits,f1,f2,f3,f4,f5,f6]
theorem K2{p q:Nat×Nat}(hp:bV p=true)(hq:bV q=true):(cSumBits .add .f64 p.1 p.2 q.1 q.2).isSome=true:=by
 obtain⟨a1,a2,a3,a4⟩:=iF hp
 obtain⟨b1,b2,b3,b4⟩:=iF hq
 have:=cB a3;have:=cB a4;have:=cB b3;have:=cB b4
 have p53:(2:Nat) ^ 53=9007199254740992:=by decide
 obtain⟨r,hr,_⟩:=ta a1 a2 b1 b2 (by omega) (by omega)
 rw[hr];rfl
theorem N3{p q:Nat×Nat}(hp:bV p=true)(hq:bV q=true):(cSumBits .sub .f64 p.1 p.2 q.1 q.2).isSome=true:=by
 obtain⟨a1,a2,a3,a4⟩:=iF hp
 obtain⟨b1,b2,b3,b4⟩:=iF hq
 have:=cB a3;have:=cB a4;have:=cB b3;have:=cB b4
 have p53:(2:Nat) ^ 53=9007199254740992:=by decide
 obtain⟨r,hr,_⟩:=qV a1 a2 b1 b2 (by omega) (by omega)
 rw[hr];rfl
theorem MO{p q:Nat×Nat}(hp:bV p=true)(hq:bV q=true):(cMulBits p.1 p.2 q.1 q.2).isSome=true:=by
 obtain⟨a1,a2,a3,a4⟩:=iF hp
 obtain⟨b1,b2,b3,b4⟩:=iF hq
 obtain⟨r,hr,_⟩:=oh a1 a2 b1 b2 (cB a3) (cB a4) (cB b3) (cB b4)
 rw[hr];rfl
def isP(p:Nat×Nat)(a b:Int):Prop:=isI p.1 a∧isI p.2 b
theorem qQ{p:Nat×Nat}{a b:Int}(h:isP p a b):bV p=(pIn a&&pIn b):=by
 simp only[bV,vz h.1,vz h.2]
theorem xZ{p:Nat×Nat}{a b:Int}(h:isP p a b):qk p=(num a,num b):=by
 simp only[qk,j2 h.1,j2 h.2]
theorem P3{a b:Int}(ha:a.natAbs<2 ^ 53)(hb:b.natAbs<2 ^ 53):isP (num a,num b) a b:=⟨iz a ha,iz b hb⟩
def oa:Nat→Int×Int→Int×Int
 |0,p=>p
 |n+1,p=>oa n (-p.2,p.1)
def lG(n:Int):Int:=IntKind.i64.wrap (((BitVec.ofInt 64 n &&& BitVec.ofInt 64 3).toNat:Nat):Int)
theorem J9(n:Int):(BitVec.ofInt 64 n &&& BitVec.ofInt 64 3).toNat=(n % 4).toNat:=by
 have h3:(BitVec.ofInt 64 3).toNat=2 ^ 2 - 1:=by decide
 rw[BitVec.toNat_and,h3,Nat.and_two_pow_sub_one_eq_mod,BitVec.toNat_ofInt]
 have p64:(2:Nat) ^ 64=18446744073709551616:=by decide
 have p2:(2:Nat) ^ 2=4:=by decide
 rw[p64,p2]
 omega
theorem Ct(n:Int):lG n=n % 4:=by
 have h1:((n % 4).toNat:Int)=n % 4:=by omega
 unfold lG
 rw[J9,h1]
 exact cg (by omega) (by omega)
theorem DA(n:Int):0≤lG n∧lG n≤3:=by rw[Ct];omega
def jV(p:Nat×Nat)(n:Int):Nat×Nat:=if bV p then(num (oa (lG n).toNat (da p.1,da p.2)).1,num (oa (lG n).toNat (da p.1,da p.2)).2)else(0,0)
def jU(p:Nat×Nat):Int:=if bV p then 0 else 12
theorem MU:FloatKind.f64.nearest 1=4607182418800017408:=by decide
theorem JW:FloatKind.f64.nearest 0=0:=by decide
theorem P2:isI 4607182418800017408 1:=MU ▸ iz 1 (by decide)
theorem Mr:isI 0 0:=JW ▸ iz 0 (by decide)
end Go.Ev
