/- Plain laws: floats that are whole numbers, their sums and products; parts of points. Conditions: each theorem's own. -/
import Derived.Laws.ComplexArith
import Derived.Test.YtpfidgnkokidoaaGreatDoorPD
import Derived.Test.YtpfidgnkokidoaaGreatDoorPX
namespace Go.Ev
open Ieee
theorem log2_lt {a n:Nat} (h0:a≠0) (h:a<2 ^ n):a.log2<n:=(Nat.log2_lt h0).2 h
theorem mI {a:Nat} (h0:a≠0) (k:Nat):(a * 2 ^ k).log2=a.log2+k:=by
 have h1:=Nat.log2_self_le h0
 have h2:a<2 ^ (a.log2+1):=Nat.lt_log2_self
 have hne:a * 2 ^ k≠0:=Nat.mul_ne_zero h0 (Nat.ne_of_gt (cN k))
 have ha:2 ^ (a.log2+k)≤a * 2 ^ k:=by rw [cR]; exact bV _ h1
 have hb:a * 2 ^ k<2 ^ (a.log2+k+1):=by
  rw [show a.log2+k+1=a.log2+1+k from by omega,cR]
  exact Nat.mul_lt_mul_of_pos_right h2 (cN k)
 have g1:a.log2+k≤(a * 2 ^ k).log2:=(Nat.le_log2 hne).2 ha
 have g2:(a * 2 ^ k).log2<a.log2+k+1:=(Nat.log2_lt hne).2 hb
 omega
theorem yk (neg:Bool) (n:Nat):Toward.even.cut neg n 0=n:=by
 simp [Toward.cut,Nat.mod_one]
theorem wG (neg:Bool) (b d:Nat) (hb:b≠0):Toward.even.cut neg (b * 2 ^ d) d=b:=by
 have hl:=mI hb d
 have hmin:min d ((b * 2 ^ d).log2+2)=d:=by rw [hl]; omega
 have hg:(1:Nat) <<< d=2 ^ d:=by rw [dc,Nat.one_mul]
 have hpos:=cN d
 simp only [Toward.cut,hmin,hg,Nat.mul_div_cancel _ hpos,Nat.mul_mod_left]
 have h2:(2 ^ d==2 * 0)=false:=by simp
 simp [h2]
theorem jz:double.leastPlace = -1074:=by decide
theorem pI:double.binade=4503599627370496:=by decide
theorem nS:double.infRung=9218868437227405312:=by decide
theorem lH:double.signWeight=9223372036854775808:=by decide
theorem vv (neg:Bool) (r:Nat) (hr:r<9223372036854775808):double.word neg r / 9223372036854775808 % 2=neg.toNat∧double.word neg r % 9223372036854775808=r:=by
 have hw:double.word neg r=if neg then 9223372036854775808+r else r:=by unfold Format.word; rw [lH]
 rw [hw]
 cases neg
 · simp only [cD,if_false,Bool.toNat_false]; omega
 · simp only [if_true,Bool.toNat_true]; omega
theorem wH (x:Nat):double.read x=if x % 9223372036854775808<4503599627370496 then .number (x / 9223372036854775808 % 2==1) (x % 9223372036854775808) (-1074)
 else if x % 9223372036854775808<9218868437227405312 then .number (x / 9223372036854775808 % 2==1) (4503599627370496+x % 9223372036854775808 % 4503599627370496) (-1074+(x % 9223372036854775808 / 4503599627370496 - 1:Nat))
 else if x % 9223372036854775808=9218868437227405312 then .infinity (x / 9223372036854775808 % 2==1) else .nan (x / 9223372036854775808 % 2==1) (x % 9223372036854775808 - 9218868437227405312):=by
 unfold Format.read
 simp only [lH,pI,nS,jz]
theorem HR (neg:Bool) (q f:Nat) (hq:1≤q) (hq2:q<2047) (hf:f<4503599627370496):double.read (double.word neg (q * 4503599627370496+f)) = .number neg (4503599627370496+f) (-1074+((q - 1:Nat):Int)):=by
 have hr:q * 4503599627370496+f<9223372036854775808:=by omega
 obtain ⟨h1,h2⟩:=vv neg _ hr
 have c1:¬(q * 4503599627370496+f<4503599627370496):=by omega
 have c2:q * 4503599627370496+f<9218868437227405312:=by omega
 have c3:(q * 4503599627370496+f) % 4503599627370496=f:=by omega
 have c4:(q * 4503599627370496+f) / 4503599627370496=q:=by omega
 rw [wH,h1,h2,if_neg c1,if_pos c2,c3,c4]
 cases neg <;> rfl
theorem Aa (s:Bool) (a k:Nat) (h0:a≠0) (h:a<2 ^ 53):double.read (double.nearest s (a * 2 ^ k) (-(k:Int))) = .number s (a * 2 ^ (52 - a.log2)) ((a.log2:Int) - 52):=by
 have hl:=mI h0 k
 have hlt:=log2_lt h0 h
 have hne:a * 2 ^ k≠0:=Nat.mul_ne_zero h0 (Nat.ne_of_gt (cN k))
 have hlast:max (-(k:Int)+((a * 2 ^ k).log2:Int) - (double.fractionBits:Int)) double.leastPlace=(a.log2:Int) - 52:=by
  rw [hl,jz]
  have:(double.fractionBits:Int)=52:=rfl
  rw [this]; omega
 have hkept:Toward.even.cut s ((a * 2 ^ k) <<< (-(k:Int) - ((a.log2:Int) - 52)).toNat) (((a.log2:Int) - 52) - -(k:Int)).toNat=a * 2 ^ (52 - a.log2):=by
  rcases Nat.le_total (k+a.log2) 52 with hc | hc
  · have e1:(-(k:Int) - ((a.log2:Int) - 52)).toNat=52 - a.log2 - k:=by omega
    have e2:(((a.log2:Int) - 52) - -(k:Int)).toNat=0:=by omega
    rw [e1,e2,yk,dc,fY,← cR]
    congr 2; omega
  · have e1:(-(k:Int) - ((a.log2:Int) - 52)).toNat=0:=by omega
    have e2:(((a.log2:Int) - 52) - -(k:Int)).toNat=k+a.log2 - 52:=by omega
    rw [e1,e2,Nat.shiftLeft_zero]
    have e3:a * 2 ^ k=a * 2 ^ (52 - a.log2) * 2 ^ (k+a.log2 - 52):=by
     rw [fY,← cR]; congr 2; omega
    rw [e3]
    exact wG s _ _ (Nat.mul_ne_zero h0 (Nat.ne_of_gt (cN _)))
 have hk1:2 ^ 52≤a * 2 ^ (52 - a.log2):=by
  have h1:=Nat.log2_self_le h0
  have:2 ^ 52=2 ^ a.log2 * 2 ^ (52 - a.log2):=by rw [← cR]; congr 1; omega
  rw [this]; exact bV _ h1
 have hk2:a * 2 ^ (52 - a.log2)<2 ^ 53:=by
  have h2:a<2 ^ (a.log2+1):=Nat.lt_log2_self
  have:2 ^ 53=2 ^ (a.log2+1) * 2 ^ (52 - a.log2):=by rw [← cR]; congr 1; omega
  rw [this]; exact Nat.mul_lt_mul_of_pos_right h2 (cN _)
 have hn:double.nearest s (a * 2 ^ k) (-(k:Int))=double.word s (min (((a.log2:Int) - 52 - -1074).toNat * 4503599627370496+a * 2 ^ (52 - a.log2)) 9218868437227405312):=by
  unfold Format.nearest
  rw [if_neg hne]
  dsimp only
  rw [hlast,hkept,jz,pI,nS]
 rw [hn]
 clear hn hkept hlast
 have p52:(2:Nat) ^ 52=4503599627370496:=by decide
 have p53:(2:Nat) ^ 53=9007199254740992:=by decide
 rw [p52] at hk1
 rw [p53] at hk2
 generalize a * 2 ^ (52 - a.log2)=m at hk1 hk2 ⊢
 have e4:((a.log2:Int) - 52 - -1074).toNat=a.log2+1022:=by omega
 rw [e4]
 have e5:min ((a.log2+1022) * 4503599627370496+m) 9218868437227405312=(a.log2+1023) * 4503599627370496+(m - 4503599627370496):=by omega
 rw [e5,HR s (a.log2+1023) (m - 4503599627370496) (by omega) (by omega) (by omega)]
 have e6:4503599627370496+(m - 4503599627370496)=m:=by omega
 have e7:(-1074:Int)+((a.log2+1023 - 1:Nat):Int)=(a.log2:Int) - 52:=by omega
 rw [e6,e7]
theorem CG (s:Bool) (p:Int):double.read (double.nearest s 0 p) = .number s 0 (-1074):=by
 have:double.nearest s 0 p=double.word s 0:=by unfold Format.nearest; rw [if_pos rfl]
 obtain ⟨h1,h2⟩:=vv s 0 (by omega)
 rw [this,wH,h1,h2,if_pos (by omega)]
 cases s <;> rfl
end Go.Ev
namespace Go.Ev
open Ieee
def isI (x:Nat) (n:Int):Prop:=∃ (s:Bool) (k:Nat),double.read x = .number s (n.natAbs * 2 ^ k) (-(k:Int))∧(n<0→s=true)∧(0<n→s=false)
theorem Cj (s:Bool) (n:Int) (k:Nat) (h:n.natAbs<2 ^ 53) (h1:n<0→s=true) (h2:0<n→s=false):isI (double.nearest s (n.natAbs * 2 ^ k) (-(k:Int))) n:=by
 by_cases h0:n.natAbs=0
 · obtain ⟨q,hq⟩:∃ q:Nat,(-1074:Int) = -(q:Int):=⟨1074,rfl⟩
   refine ⟨s,q,?_,h1,h2⟩
   rw [h0,Nat.zero_mul,Nat.zero_mul,CG,hq]
 · have hlt:=log2_lt h0 h
   refine ⟨s,52 - n.natAbs.log2,?_,h1,h2⟩
   rw [Aa s _ k h0 h]
   congr 1
   omega
theorem jd (n:Int) (h:n.natAbs<2 ^ 53):isI (FloatKind.f64.nearest n) n:=by
 have:=Cj (decide (n<0)) n 0 h (fun h=>by simpa using h) (fun h=>by simp; omega)
 simpa [FloatKind.nearest,FloatKind.encode,FloatKind.format,Format.write] using this
theorem lN (s:Bool) (n:Int) (j:Nat) (h1:n<0→s=true) (h2:0<n→s=false) (m:Nat) (hm:m=n.natAbs * 2 ^ j) (u:Nat):signed s m u=n * 2 ^ (j+u):=by
 subst hm
 unfold signed
 rw [dc,fY,← cR]
 cases s
 · have:0≤n:=by
    rcases Int.lt_or_le n 0 with h | h
    · exact absurd (h1 h) (by simp)
    · exact h
   simp only [cD,if_false,Int.natCast_mul,Int.natCast_pow]
   congr 1; omega
 · have:n≤0:=by
    rcases Int.lt_or_le 0 n with h | h
    · exact absurd (h2 h) (by simp)
    · exact h
   simp only [if_true,Int.natCast_mul,Int.natCast_pow]
   rw [← Int.neg_mul]
   congr 1; omega
theorem MY (k l:Nat):min (-(k:Int)) (-(l:Int)) = -((max k l:Nat):Int):=by omega
end Go.Ev
namespace Go.Ev
open Ieee
theorem yg (a b c:Int) (hc:0<c):compare (a * c) (b * c)=compare a b:=by
 rcases Int.lt_trichotomy a b with h | h | h
 · rw [gG.2 h,gG.2 (Int.mul_lt_mul_of_pos_right h hc)]
 · subst h; simp
 · rw [gJ.2 h,gJ.2 (Int.mul_lt_mul_of_pos_right h hc)]
theorem wa {x y:Nat} {n m:Int} (hx:isI x n) (hy:isI y m):dU x y=some (compare n m):=by
 obtain ⟨s,k,e1,a1,a2⟩:=hx
 obtain ⟨t,l,e2,b1,b2⟩:=hy
 have g1:=lN s n k a1 a2 _ rfl ((-(k:Int)) - -((max k l:Nat):Int)).toNat
 have g2:=lN t m l b1 b2 _ rfl ((-(l:Int)) - -((max k l:Nat):Int)).toNat
 have u1:k+((-(k:Int)) - -((max k l:Nat):Int)).toNat=max k l:=by omega
 have u2:l+((-(l:Int)) - -((max k l:Nat):Int)).toNat=max k l:=by omega
 rw [u1] at g1
 rw [u2] at g2
 have hpos:(0:Int)<2 ^ (max k l):=Int.pow_pos (by decide)
 simp only [dU,FloatKind.format,Format.order,e1,e2,Datum.order,MY,g1,g2,yg _ _ _ hpos]
theorem HY {x:Nat} {n:Int} (hx:isI x n):(FloatKind.f64.decode x).toInt .zero=some n:=by
 obtain ⟨s,k,e1,a1,a2⟩:=hx
 have hcut:Toward.zero.cut s (n.natAbs * 2 ^ k) k=n.natAbs:=by
  by_cases h0:n.natAbs=0
  · rw [h0]; simp [Toward.cut]
  · have hl:=mI h0 k
    have hmin:min k ((n.natAbs * 2 ^ k).log2+2)=k:=by rw [hl]; omega
    have hg:(1:Nat) <<< k=2 ^ k:=by rw [dc,Nat.one_mul]
    simp only [Toward.cut,hmin,hg,Nat.mul_div_cancel _ (cN k)]
    simp
 have e2:(FloatKind.f64.decode x) = .number s (n.natAbs * 2 ^ k) (-(k:Int)):=e1
 have u1:(-(k:Int)).toNat=0:=by omega
 have u2:(- -(k:Int)).toNat=k:=by omega
 simp only [e2,Datum.toInt,Datum.integral,u1,u2,Nat.shiftLeft_zero,hcut]
 have:=lN s n 0 a1 a2 n.natAbs (by simp) 0
 simp only [b5] at this
 rw [this]; simp
theorem te {x:Nat} {n:Int} (hx:isI x n):gm x=n:=by simp [gm,HY hx]
end Go.Ev
namespace Go.Ev
open Ieee
def inB (x:Nat):Bool:=(dU x 13920626448202203136==some .gt||dU x 13920626448202203136==some .eq)&&(dU x 4697254411347427328==some .lt||dU x 4697254411347427328==some .eq)
def iy (x:Nat):Bool:=inB x&&dU x (FloatKind.f64.nearest (gm x))==some .eq
def pIn (a:Int):Bool:=decide (-1048576≤a)&&decide (a≤1048576)
theorem Ko:FloatKind.f64.nearest (-1048576)=13920626448202203136:=by decide
theorem Gg:FloatKind.f64.nearest 1048576=4697254411347427328:=by decide
theorem Nj:isI 13920626448202203136 (-1048576):=Ko ▸ jd (-1048576) (by decide)
theorem Kl:isI 4697254411347427328 1048576:=Gg ▸ jd 1048576 (by decide)
theorem nI {x y:Nat} {s t:Bool} {m n:Nat} {i j:Int} (hx:double.read x = .number s m i) (hy:double.read y = .number t n j):dU x y=some (compare (signed s m (i - min i j).toNat) (signed t n (j - min i j).toNat)):=by
 simp only [dU,FloatKind.format,Format.order,hx,hy,Datum.order]
theorem yW:double.read 13920626448202203136 = .number true (2 ^ 52) (-32):=by decide
theorem xr:double.read 4697254411347427328 = .number false (2 ^ 52) (-32):=by decide
theorem wy {x:Nat}:inB x=true↔(dU x 13920626448202203136=some .gt∨dU x 13920626448202203136=some .eq)∧(dU x 4697254411347427328=some .lt∨dU x 4697254411347427328=some .eq):=by
 simp [inB]
theorem ui {x:Nat} (h:inB x=true):∃ s m i,double.read x = .number s m i:=by
 cases hx:double.read x with
 | number s m i=>exact ⟨s,m,i,rfl⟩
 | infinity s =>
   exfalso
   obtain ⟨h1,h2⟩:=wy.1 h
   simp only [dU,FloatKind.format,Format.order,hx,yW,xr,Datum.order] at h1 h2
   cases s <;> simp at h1 h2
 | nan s f =>
   exfalso
   obtain ⟨h1,_⟩:=wy.1 h
   simp only [dU,FloatKind.format,Format.order,hx,Datum.order] at h1
   simp at h1
theorem Fs {a b:Int} (h:compare a b = .gt∨compare a b = .eq):b≤a:=by
 rcases h with h | h
 · exact Int.le_of_lt (gJ.1 h)
 · rw [gF.1 h]; exact cd _
theorem D3 {a b:Int} (h:compare a b = .lt∨compare a b = .eq):a≤b:=by
 rcases h with h | h
 · exact Int.le_of_lt (gG.1 h)
 · rw [gF.1 h]; exact cd _
theorem oX (s:Bool) (m u:Nat):(signed s m u).natAbs=m * 2 ^ u:=by
 rw [← dc]
 unfold signed
 generalize m <<< u=q
 cases s <;> simp
theorem EP (m u:Nat):0≤signed false m u:=by
 unfold signed
 rw [if_neg (by simp)]
 exact eE _
theorem DK (m u:Nat):signed true m u≤0:=by
 unfold signed
 rw [if_pos rfl]
 have:=eE (m <<< u)
 omega
theorem CN {x:Nat} (h:inB x=true) {s:Bool} {m:Nat} {i:Int} (hx:double.read x = .number s m i):m * 2 ^ i.toNat≤2 ^ 20 * 2 ^ (-i).toNat:=by
 obtain ⟨h1,h2⟩:=wy.1 h
 rw [nI hx yW] at h1
 rw [nI hx xr] at h2
 have h3:=Fs (h1.imp au au)
 have h4:=D3 (h2.imp au au)
 have h5:(signed s m (i - min i (-32)).toNat).natAbs≤2 ^ 52 * 2 ^ (-32 - min i (-32)).toNat:=by
  have e1:signed true (2 ^ 52) (-32 - min i (-32)).toNat = -((2 ^ 52 * 2 ^ (-32 - min i (-32)).toNat:Nat):Int):=by
   unfold signed; rw [dc]; rfl
  have e2:signed false (2 ^ 52) (-32 - min i (-32)).toNat=((2 ^ 52 * 2 ^ (-32 - min i (-32)).toNat:Nat):Int):=by
   unfold signed; rw [dc]; rfl
  rw [e1] at h3
  rw [e2] at h4
  generalize 2 ^ 52 * 2 ^ (-32 - min i (-32)).toNat=c at h3 h4 ⊢
  generalize signed s m (i - min i (-32)).toNat=v at h3 h4 ⊢
  omega
 rw [oX] at h5
 rcases Int.le_total i (-32) with hi | hi
 · have e1:(i - min i (-32)).toNat=0:=by omega
   have e2:(-32 - min i (-32)).toNat=(-i).toNat - 32:=by omega
   have e3:i.toNat=0:=by omega
   have e4:2 ^ 20 * 2 ^ (-i).toNat=2 ^ 52 * 2 ^ ((-i).toNat - 32):=by rw [← cR,← cR]; congr 1; omega
   rw [e3,e4]
   rw [e1,e2] at h5
   exact h5
 · have e1:(i - min i (-32)).toNat=(i+32).toNat:=by congr 1; omega
   have e2:(-32 - min i (-32)).toNat=0:=by omega
   rw [e1,e2] at h5
   rcases Int.le_total 0 i with h0 | h0
   · have e3:(-i).toNat=0:=by omega
     have e4:(i+32).toNat=i.toNat+32:=by omega
     rw [e4,cR,← fY] at h5
     rw [e3]
     have:m * 2 ^ i.toNat * 2 ^ 32≤2 ^ 20 * 2 ^ 32:=by simpa [← cR] using h5
     have:=Nat.le_of_mul_le_mul_right this (cN 32)
     simpa using this
   · have e3:i.toNat=0:=by omega
     rw [e3]
     have e5:2 ^ 20 * 2 ^ (-i).toNat * 2 ^ (i+32).toNat=2 ^ 52:=by
      rw [← cR,← cR]; congr 1; omega
     refine Nat.le_of_mul_le_mul_right (c:=2 ^ (i+32).toNat) ?_ (cN _)
     rw [e5]; simpa using h5
theorem B7 (s:Bool) (n d c:Nat) (h:n≤c * 2 ^ d):Toward.zero.cut s n d≤c:=by
 have hg:(1:Nat) <<< (min d (n.log2+2))=2 ^ (min d (n.log2+2)):=by rw [dc,Nat.one_mul]
 simp only [Toward.cut,hg]
 show n / 2 ^ min d (n.log2+2)+0≤c
 rw [b5]
 rcases Nat.le_total d (n.log2+2) with hd | hd
 · rw [dN hd]
   exact Nat.div_le_of_le_mul (by rw [Nat.mul_comm]; exact h)
 · rw [Nat.min_eq_right hd]
   have:n<2 ^ (n.log2+2):=Nat.lt_trans Nat.lt_log2_self (Nat.pow_lt_pow_right (by decide) (by omega))
   rw [Nat.div_eq_of_lt this]; exact br _
theorem CK {x:Nat} (h:inB x=true):(FloatKind.f64.decode x).toInt .zero=some (gm x)∧pIn (gm x)=true:=by
 obtain ⟨s,m,i,hx⟩:=ui h
 have hm:=CN h hx
 have hd:FloatKind.f64.decode x = .number s m i:=hx
 have ht:(FloatKind.f64.decode x).toInt .zero=some (signed s (Toward.zero.cut s (m <<< i.toNat) (-i).toNat) 0):=by
  rw [hd]; rfl
 have hf:gm x=signed s (Toward.zero.cut s (m <<< i.toNat) (-i).toNat) 0:=by
  unfold gm; rw [ht]; rfl
 refine ⟨by rw [hf]; exact ht,?_⟩
 have hc:=B7 s (m <<< i.toNat) (-i).toNat (2 ^ 20) (by rw [dc]; exact hm)
 have ha:=oX s (Toward.zero.cut s (m <<< i.toNat) (-i).toNat) 0
 rw [← hf] at ha
 simp only [pIn,ab,decide_eq_true_eq]
 have:(2:Nat) ^ 20=1048576:=by decide
 omega
theorem pB {x:Nat} (h:inB x=true):lf .i64 x:=by
 obtain ⟨h1,h2⟩:=CK h
 simp only [pIn,ab,decide_eq_true_eq] at h2
 refine ⟨h1,?_,?_⟩
 · have:IntKind.i64.min = -9223372036854775808:=by decide
   omega
 · have:IntKind.i64.max=9223372036854775807:=by decide
   omega
theorem lL {x:Nat} (h:iy x=true):inB x=true:=by
 simp only [iy,ab] at h; exact h.1
theorem qI {x:Nat} (h:iy x=true):pIn (gm x)=true:=(CK (lL h)).2
theorem Do {a:Int} (h:pIn a=true):a.natAbs≤1048576:=by
 simp only [pIn,ab,decide_eq_true_eq] at h; omega
theorem ux {x:Nat} (h:iy x=true):isI x (gm x):=by
 have hB:=lL h
 have hin:=Do (qI h)
 have he:dU x (FloatKind.f64.nearest (gm x))=some .eq:=by
  simp only [iy,ab,beq_iff_eq] at h; exact h.2
 obtain ⟨s,m,i,hx⟩:=ui hB
 have hm:=CN hB hx
 obtain ⟨t,k,hy,b1,b2⟩:=jd (gm x) (by omega)
 generalize gm x=n at *
 rw [nI hx hy] at he
 have hv:=gF.1 (au he)
 have hi : i≤0:=by
  rw [wH] at hx
  split at hx
  · cases hx; decide
  · split at hx
    · rcases Int.le_total i 0 with h | h
      · exact h
      · exfalso
        have hmm:4503599627370496≤m:=by
         simp only [Datum.number.injEq] at hx; omega
        have e:(-i).toNat=0:=by omega
        rw [e] at hm
        have:m * 1≤m * 2 ^ i.toNat:=Nat.mul_le_mul_left _ (cN _)
        have p20:(2:Nat) ^ 20 * 2 ^ 0=1048576:=by decide
        omega
    · split at hx <;> cases hx
 obtain ⟨k',rfl⟩:∃ k':Nat,i = -(k':Int):=⟨(-i).toNat,by omega⟩
 have g2:=lN t n k b1 b2 _ rfl ((-(k:Int)) - min (-(k':Int)) (-(k:Int))).toNat
 rw [g2] at hv
 have hab:=congrArg Int.natAbs hv
 rw [oX,Int.natAbs_mul,Int.natAbs_pow] at hab
 have e1:(-(k':Int) - min (-(k':Int)) (-(k:Int))).toNat=max k' k - k':=by omega
 have e2:k+(-(k:Int) - min (-(k':Int)) (-(k:Int))).toNat=max k' k:=by omega
 rw [e1,e2] at hab
 have hmm:m=n.natAbs * 2 ^ k':=by
  have e3:(2:Int).natAbs ^ max k' k=2 ^ k' * 2 ^ (max k' k - k'):=by
   rw [← cR]; show 2 ^ max k' k=_; congr 1; omega
  rw [e3,← fY] at hab
  exact Nat.eq_of_mul_eq_mul_right (cN _) hab
 rw [e2] at hv
 have hpos:(0:Int)<2 ^ max k' k:=Int.pow_pos (by decide)
 refine ⟨s,k',by rw [hx,hmm],fun hn=>?_,fun hn=>?_⟩
 · cases s
   · exfalso
     have:n * 2 ^ max k' k<0:=Int.mul_neg_of_neg_of_pos hn hpos
     rw [← hv] at this
     have:=EP m (-(k':Int) - min (-(k':Int)) (-(k:Int))).toNat
     omega
   · rfl
 · cases s
   · rfl
   · exfalso
     have:0<n * 2 ^ max k' k:=Int.mul_pos hn hpos
     rw [← hv] at this
     have:=DK m (-(k':Int) - min (-(k':Int)) (-(k:Int))).toNat
     omega
theorem NB {x:Nat} {n:Int} (h:isI x n):inB x=pIn n:=by
 unfold inB
 rw [wa h Nj,wa h Kl]
 rw [cM]
 simp only [pIn,ab,aF,beq_iff_eq,aa,decide_eq_true_eq,gJ,gG,gF]
 omega
theorem vQ {x:Nat} {n:Int} (h:isI x n):iy x=pIn n:=by
 unfold iy
 rw [NB h]
 cases hp:pIn n
 · rfl
 · have:=Do hp
   rw [te h,wa h (jd n (by omega))]
   simp
/-! ### points, by the bits of their parts -/
def eC (p:Nat×Nat):Bool:=iy p.1&&iy p.2
def qZ:Option (Nat×Nat)→Bool
 | some p=>eC p
 | none=>false
def num (n:Int):Nat:=FloatKind.f64.nearest n
def bX (a b:Int):Nat×Nat:=if pIn a&&pIn b then (num a,num b) else (0,0)
def jK (a b:Int):Int:=if pIn a&&pIn b then 0 else 5
def cP (p:Nat×Nat):Int:=if eC p then gm p.1 else 0
def cQ (p:Nat×Nat):Int:=if eC p then gm p.2 else 0
def kP (p:Nat×Nat):Int:=if eC p then 0 else 12
theorem Am {p:Nat×Nat} (h:eC p=true):lf .i64 p.1∧lf .i64 p.2:=by
 simp only [eC,ab] at h
 exact ⟨pB (lL h.1),pB (lL h.2)⟩
theorem vT {p:Nat×Nat} (h:eC p=true):isI p.1 (gm p.1)∧isI p.2 (gm p.2)∧pIn (gm p.1)=true∧pIn (gm p.2)=true:=by
 simp only [eC,ab] at h
 exact ⟨ux h.1,ux h.2,qI h.1,qI h.2⟩
def isP (p:Nat×Nat) (a b:Int):Prop:=isI p.1 a∧isI p.2 b
theorem xc {p:Nat×Nat} {a b:Int} (h:isP p a b):eC p=(pIn a&&pIn b):=by
 simp only [eC,vQ h.1,vQ h.2]
theorem L7 {a b:Int} (ha:a.natAbs<2 ^ 53) (hb:b.natAbs<2 ^ 53):isP (num a,num b) a b:=⟨jd a ha,jd b hb⟩
theorem Gs:FloatKind.f64.nearest 0=0:=by decide
theorem Bo:isI 0 0:=Gs ▸ jd 0 (by decide)
end Go.Ev
