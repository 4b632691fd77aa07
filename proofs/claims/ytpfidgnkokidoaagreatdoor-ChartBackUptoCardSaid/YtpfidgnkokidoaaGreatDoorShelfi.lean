/- Plain laws: floats that are whole numbers, their sums and products; parts of points. Conditions: each theorem's own. Plain: a chart's text, its lines, read. Conditions: none. Plain: what is read, its cases; the example. Conditions: none. The library's contracts of the shelf, laid at this dump by the kit's tools. Conditions: each one's own. -/
import Derived.Laws.ComplexArith
import Derived.Test.YtpfidgnkokidoaaGreatDoorPD
import Derived.Test.YtpfidgnkokidoaaGreatDoorDa
import Derived.Test.YtpfidgnkokidoaaGreatDoorWj
import Derived.Shelf.Lays
import Derived.Shelf.Strings.Runes
import Derived.Shelf.Strings.AsciiSet
import Derived.Test.YtpfidgnkokidoaaGreatDoorProg
namespace Go.Ev
open Ieee
theorem log2_lt {a n:Nat} (h0:a≠0) (h:a<2 ^ n):a.log2<n:=(Nat.log2_lt h0).2 h
theorem mI {a:Nat} (h0:a≠0) (k:Nat):(a * 2 ^ k).log2=a.log2+k:=by
 have h1:=Nat.log2_self_le h0
 have h2:a<2 ^ (a.log2+1):=Nat.lt_log2_self
 have hne:a * 2 ^ k≠0:=Nat.mul_ne_zero h0 (Nat.ne_of_gt (cM k))
 have ha:2 ^ (a.log2+k)≤a * 2 ^ k:=by rw [cQ]; exact bX _ h1
 have hb:a * 2 ^ k<2 ^ (a.log2+k+1):=by
  rw [show a.log2+k+1=a.log2+1+k from by omega,cQ]
  exact Nat.mul_lt_mul_of_pos_right h2 (cM k)
 have g1:a.log2+k≤(a * 2 ^ k).log2:=(Nat.le_log2 hne).2 ha
 have g2:(a * 2 ^ k).log2<a.log2+k+1:=(Nat.log2_lt hne).2 hb
 omega
theorem yq (neg:Bool) (n:Nat):Toward.even.cut neg n 0=n:=by
 simp [Toward.cut,Nat.mod_one]
theorem wA (neg:Bool) (b d:Nat) (hb:b≠0):Toward.even.cut neg (b * 2 ^ d) d=b:=by
 have hl:=mI hb d
 have hmin:min d ((b * 2 ^ d).log2+2)=d:=by rw [hl]; omega
 have hg:(1:Nat) <<< d=2 ^ d:=by rw [de,gU]
 have hpos:=cM d
 simp only [Toward.cut,hmin,hg,Nat.mul_div_cancel _ hpos,Nat.mul_mod_left]
 have h2:(2 ^ d==2 * 0)=false:=by simp
 simp [h2]
theorem jG:double.leastPlace = -1074:=by decide
theorem pU:double.binade=4503599627370496:=by decide
theorem oA:double.infRung=9218868437227405312:=by decide
theorem lR:double.signWeight=9223372036854775808:=by decide
theorem vX (neg:Bool) (r:Nat) (hr:r<9223372036854775808):double.word neg r / 9223372036854775808 % 2=neg.toNat∧double.word neg r % 9223372036854775808=r:=by
 have hw:double.word neg r=if neg then 9223372036854775808+r else r:=by unfold Format.word; rw [lR]
 rw [hw]
 cases neg
 · simp only [cC,if_false,Bool.toNat_false]; omega
 · simp only [if_true,Bool.toNat_true]; omega
theorem wU (x:Nat):double.read x=if x % 9223372036854775808<4503599627370496 then .number (x / 9223372036854775808 % 2==1) (x % 9223372036854775808) (-1074)
 else if x % 9223372036854775808<9218868437227405312 then .number (x / 9223372036854775808 % 2==1) (4503599627370496+x % 9223372036854775808 % 4503599627370496) (-1074+(x % 9223372036854775808 / 4503599627370496 - 1:Nat))
 else if x % 9223372036854775808=9218868437227405312 then .infinity (x / 9223372036854775808 % 2==1) else .nan (x / 9223372036854775808 % 2==1) (x % 9223372036854775808 - 9218868437227405312):=by
 unfold Format.read
 simp only [lR,pU,oA,jG]
theorem GN (neg:Bool) (q f:Nat) (hq:1≤q) (hq2:q<2047) (hf:f<4503599627370496):double.read (double.word neg (q * 4503599627370496+f)) = .number neg (4503599627370496+f) (-1074+((q - 1:Nat):Int)):=by
 have hr:q * 4503599627370496+f<9223372036854775808:=by omega
 obtain ⟨h1,h2⟩:=vX neg _ hr
 have c1:¬(q * 4503599627370496+f<4503599627370496):=by omega
 have c2:q * 4503599627370496+f<9218868437227405312:=by omega
 have c3:(q * 4503599627370496+f) % 4503599627370496=f:=by omega
 have c4:(q * 4503599627370496+f) / 4503599627370496=q:=by omega
 rw [wU,h1,h2,if_neg c1,if_pos c2,c3,c4]
 cases neg <;> rfl
theorem BK (s:Bool) (a k:Nat) (h0:a≠0) (h:a<2 ^ 53):double.read (double.nearest s (a * 2 ^ k) (-(k:Int))) = .number s (a * 2 ^ (52 - a.log2)) ((a.log2:Int) - 52):=by
 have hl:=mI h0 k
 have hlt:=log2_lt h0 h
 have hne:a * 2 ^ k≠0:=Nat.mul_ne_zero h0 (Nat.ne_of_gt (cM k))
 have hlast:max (-(k:Int)+((a * 2 ^ k).log2:Int) - (double.fractionBits:Int)) double.leastPlace=(a.log2:Int) - 52:=by
  rw [hl,jG]
  have:(double.fractionBits:Int)=52:=rfl
  rw [this]; omega
 have hkept:Toward.even.cut s ((a * 2 ^ k) <<< (-(k:Int) - ((a.log2:Int) - 52)).toNat) (((a.log2:Int) - 52) - -(k:Int)).toNat=a * 2 ^ (52 - a.log2):=by
  rcases Nat.le_total (k+a.log2) 52 with hc | hc
  · have e1:(-(k:Int) - ((a.log2:Int) - 52)).toNat=52 - a.log2 - k:=by omega
    have e2:(((a.log2:Int) - 52) - -(k:Int)).toNat=0:=by omega
    rw [e1,e2,yq,de,gi,← cQ]
    congr 2; omega
  · have e1:(-(k:Int) - ((a.log2:Int) - 52)).toNat=0:=by omega
    have e2:(((a.log2:Int) - 52) - -(k:Int)).toNat=k+a.log2 - 52:=by omega
    rw [e1,e2,Nat.shiftLeft_zero]
    have e3:a * 2 ^ k=a * 2 ^ (52 - a.log2) * 2 ^ (k+a.log2 - 52):=by
     rw [gi,← cQ]; congr 2; omega
    rw [e3]
    exact wA s _ _ (Nat.mul_ne_zero h0 (Nat.ne_of_gt (cM _)))
 have hk1:2 ^ 52≤a * 2 ^ (52 - a.log2):=by
  have h1:=Nat.log2_self_le h0
  have:2 ^ 52=2 ^ a.log2 * 2 ^ (52 - a.log2):=by rw [← cQ]; congr 1; omega
  rw [this]; exact bX _ h1
 have hk2:a * 2 ^ (52 - a.log2)<2 ^ 53:=by
  have h2:a<2 ^ (a.log2+1):=Nat.lt_log2_self
  have:2 ^ 53=2 ^ (a.log2+1) * 2 ^ (52 - a.log2):=by rw [← cQ]; congr 1; omega
  rw [this]; exact Nat.mul_lt_mul_of_pos_right h2 (cM _)
 have hn:double.nearest s (a * 2 ^ k) (-(k:Int))=double.word s (min (((a.log2:Int) - 52 - -1074).toNat * 4503599627370496+a * 2 ^ (52 - a.log2)) 9218868437227405312):=by
  unfold Format.nearest
  rw [if_neg hne]
  dsimp only
  rw [hlast,hkept,jG,pU,oA]
 rw [hn]
 clear hn hkept hlast
 have p52:(2:Nat) ^ 52=4503599627370496:=by decide
 have p53:(2:Nat) ^ 53=9007199254740992:=by decide
 rw [p52] at hk1
 rw [p53] at hk2
 generalize a * 2 ^ (52 - a.log2)=m at hk1 hk2 ⊢
 have e4:((a.log2:Int) - 52 - -1074).toNat=a.log2+1022:=by omega
 rw [e4]
 have e5:min ((a.log2+1022) * 4503599627370496+m) 9218868437227405312=(a.log2+1023) * 4503599627370496+(m - 4503599627370496):=by omega
 rw [e5,GN s (a.log2+1023) (m - 4503599627370496) (by omega) (by omega) (by omega)]
 have e6:4503599627370496+(m - 4503599627370496)=m:=by omega
 have e7:(-1074:Int)+((a.log2+1023 - 1:Nat):Int)=(a.log2:Int) - 52:=by omega
 rw [e6,e7]
theorem CM (s:Bool) (p:Int):double.read (double.nearest s 0 p) = .number s 0 (-1074):=by
 have:double.nearest s 0 p=double.word s 0:=by unfold Format.nearest; rw [if_pos rfl]
 obtain ⟨h1,h2⟩:=vX s 0 (by omega)
 rw [this,wU,h1,h2,if_pos (by omega)]
 cases s <;> rfl
end Go.Ev
namespace Go.Ev
open Ieee
def isI (x:Nat) (n:Int):Prop:=∃ (s:Bool) (k:Nat),double.read x = .number s (n.natAbs * 2 ^ k) (-(k:Int))∧(n<0→s=true)∧(0<n→s=false)
theorem CN (s:Bool) (n:Int) (k:Nat) (h:n.natAbs<2 ^ 53) (h1:n<0→s=true) (h2:0<n→s=false):isI (double.nearest s (n.natAbs * 2 ^ k) (-(k:Int))) n:=by
 by_cases h0:n.natAbs=0
 · obtain ⟨q,hq⟩:∃ q:Nat,(-1074:Int) = -(q:Int):=⟨1074,rfl⟩
   refine ⟨s,q,?_,h1,h2⟩
   rw [h0,Nat.zero_mul,Nat.zero_mul,CM,hq]
 · have hlt:=log2_lt h0 h
   refine ⟨s,52 - n.natAbs.log2,?_,h1,h2⟩
   rw [BK s _ k h0 h]
   congr 1
   omega
theorem jn (n:Int) (h:n.natAbs<2 ^ 53):isI (FloatKind.f64.nearest n) n:=by
 have:=CN (decide (n<0)) n 0 h (fun h=>by simpa using h) (fun h=>by simp; omega)
 simpa [FloatKind.nearest,FloatKind.encode,FloatKind.format,Format.write] using this
theorem lZ (s:Bool) (n:Int) (j:Nat) (h1:n<0→s=true) (h2:0<n→s=false) (m:Nat) (hm:m=n.natAbs * 2 ^ j) (u:Nat):signed s m u=n * 2 ^ (j+u):=by
 subst hm
 unfold signed
 rw [de,gi,← cQ]
 cases s
 · have:0≤n:=by
    rcases Int.lt_or_le n 0 with h | h
    · exact absurd (h1 h) (by simp)
    · exact h
   simp only [cC,if_false,Int.natCast_mul,Int.natCast_pow]
   congr 1; omega
 · have:n≤0:=by
    rcases Int.lt_or_le 0 n with h | h
    · exact absurd (h2 h) (by simp)
    · exact h
   simp only [if_true,Int.natCast_mul,Int.natCast_pow]
   rw [← Int.neg_mul]
   congr 1; omega
theorem NO (k l:Nat):min (-(k:Int)) (-(l:Int)) = -((max k l:Nat):Int):=by omega
end Go.Ev
namespace Go.Ev
open Ieee
theorem yw (a b c:Int) (hc:0<c):compare (a * c) (b * c)=compare a b:=by
 rcases Int.lt_trichotomy a b with h | h | h
 · rw [gI.2 h,gI.2 (Int.mul_lt_mul_of_pos_right h hc)]
 · subst h; simp
 · rw [gM.2 h,gM.2 (Int.mul_lt_mul_of_pos_right h hc)]
theorem wh {x y:Nat} {n m:Int} (hx:isI x n) (hy:isI y m):dQ x y=some (compare n m):=by
 obtain ⟨s,k,e1,a1,a2⟩:=hx
 obtain ⟨t,l,e2,b1,b2⟩:=hy
 have g1:=lZ s n k a1 a2 _ rfl ((-(k:Int)) - -((max k l:Nat):Int)).toNat
 have g2:=lZ t m l b1 b2 _ rfl ((-(l:Int)) - -((max k l:Nat):Int)).toNat
 have u1:k+((-(k:Int)) - -((max k l:Nat):Int)).toNat=max k l:=by omega
 have u2:l+((-(l:Int)) - -((max k l:Nat):Int)).toNat=max k l:=by omega
 rw [u1] at g1
 rw [u2] at g2
 have hpos:(0:Int)<2 ^ (max k l):=Int.pow_pos (by decide)
 simp only [dQ,FloatKind.format,Format.order,e1,e2,Datum.order,NO,g1,g2,yw _ _ _ hpos]
theorem GT {x:Nat} {n:Int} (hx:isI x n):(FloatKind.f64.decode x).toInt .zero=some n:=by
 obtain ⟨s,k,e1,a1,a2⟩:=hx
 have hcut:Toward.zero.cut s (n.natAbs * 2 ^ k) k=n.natAbs:=by
  by_cases h0:n.natAbs=0
  · rw [h0]; simp [Toward.cut]
  · have hl:=mI h0 k
    have hmin:min k ((n.natAbs * 2 ^ k).log2+2)=k:=by rw [hl]; omega
    have hg:(1:Nat) <<< k=2 ^ k:=by rw [de,gU]
    simp only [Toward.cut,hmin,hg,Nat.mul_div_cancel _ (cM k)]
    simp
 have e2:(FloatKind.f64.decode x) = .number s (n.natAbs * 2 ^ k) (-(k:Int)):=e1
 have u1:(-(k:Int)).toNat=0:=by omega
 have u2:(- -(k:Int)).toNat=k:=by omega
 simp only [e2,Datum.toInt,Datum.integral,u1,u2,Nat.shiftLeft_zero,hcut]
 have:=lZ s n 0 a1 a2 n.natAbs (by simp) 0
 simp only [b6] at this
 rw [this]; simp
theorem tE {x:Nat} {n:Int} (hx:isI x n):gu x=n:=by simp [gu,GT hx]
end Go.Ev
namespace Go.Ev
open Ieee
def inB (x:Nat):Bool:=(dQ x 13920626448202203136==some .gt||dQ x 13920626448202203136==some .eq)&&(dQ x 4697254411347427328==some .lt||dQ x 4697254411347427328==some .eq)
def iv (x:Nat):Bool:=inB x&&dQ x (FloatKind.f64.nearest (gu x))==some .eq
def pIn (a:Int):Bool:=decide (-1048576≤a)&&decide (a≤1048576)
theorem JV:FloatKind.f64.nearest (-1048576)=13920626448202203136:=by decide
theorem IT:FloatKind.f64.nearest 1048576=4697254411347427328:=by decide
theorem M7:isI 13920626448202203136 (-1048576):=JV ▸ jn (-1048576) (by decide)
theorem JL:isI 4697254411347427328 1048576:=IT ▸ jn 1048576 (by decide)
theorem nS {x y:Nat} {s t:Bool} {m n:Nat} {i j:Int} (hx:double.read x = .number s m i) (hy:double.read y = .number t n j):dQ x y=some (compare (signed s m (i - min i j).toNat) (signed t n (j - min i j).toNat)):=by
 simp only [dQ,FloatKind.format,Format.order,hx,hy,Datum.order]
theorem Af:double.read 13920626448202203136 = .number true (2 ^ 52) (-32):=by decide
theorem xY:double.read 4697254411347427328 = .number false (2 ^ 52) (-32):=by decide
theorem wB {x:Nat}:inB x=true↔(dQ x 13920626448202203136=some .gt∨dQ x 13920626448202203136=some .eq)∧(dQ x 4697254411347427328=some .lt∨dQ x 4697254411347427328=some .eq):=by
 simp [inB]
theorem vW {x:Nat} (h:inB x=true):∃ s m i,double.read x = .number s m i:=by
 cases hx:double.read x with
 | number s m i=>exact ⟨s,m,i,rfl⟩
 | infinity s =>
   exfalso
   obtain ⟨h1,h2⟩:=wB.1 h
   simp only [dQ,FloatKind.format,Format.order,hx,Af,xY,Datum.order] at h1 h2
   cases s <;> simp at h1 h2
 | nan s f =>
   exfalso
   obtain ⟨h1,_⟩:=wB.1 h
   simp only [dQ,FloatKind.format,Format.order,hx,Datum.order] at h1
   simp at h1
theorem DL {a b:Int} (h:compare a b = .gt∨compare a b = .eq):b≤a:=by
 rcases h with h | h
 · exact Int.le_of_lt (gM.1 h)
 · rw [gO.1 h]; exact cd _
theorem EV {a b:Int} (h:compare a b = .lt∨compare a b = .eq):a≤b:=by
 rcases h with h | h
 · exact Int.le_of_lt (gI.1 h)
 · rw [gO.1 h]; exact cd _
theorem pL (s:Bool) (m u:Nat):(signed s m u).natAbs=m * 2 ^ u:=by
 rw [← de]
 unfold signed
 generalize m <<< u=q
 cases s <;> simp
theorem ED (m u:Nat):0≤signed false m u:=by
 unfold signed
 rw [if_neg (by simp)]
 exact eG _
theorem Fj (m u:Nat):signed true m u≤0:=by
 unfold signed
 rw [if_pos rfl]
 have:=eG (m <<< u)
 omega
theorem Dt {x:Nat} (h:inB x=true) {s:Bool} {m:Nat} {i:Int} (hx:double.read x = .number s m i):m * 2 ^ i.toNat≤2 ^ 20 * 2 ^ (-i).toNat:=by
 obtain ⟨h1,h2⟩:=wB.1 h
 rw [nS hx Af] at h1
 rw [nS hx xY] at h2
 have h3:=DL (h1.imp ar ar)
 have h4:=EV (h2.imp ar ar)
 have h5:(signed s m (i - min i (-32)).toNat).natAbs≤2 ^ 52 * 2 ^ (-32 - min i (-32)).toNat:=by
  have e1:signed true (2 ^ 52) (-32 - min i (-32)).toNat = -((2 ^ 52 * 2 ^ (-32 - min i (-32)).toNat:Nat):Int):=by
   unfold signed; rw [de]; rfl
  have e2:signed false (2 ^ 52) (-32 - min i (-32)).toNat=((2 ^ 52 * 2 ^ (-32 - min i (-32)).toNat:Nat):Int):=by
   unfold signed; rw [de]; rfl
  rw [e1] at h3
  rw [e2] at h4
  generalize 2 ^ 52 * 2 ^ (-32 - min i (-32)).toNat=c at h3 h4 ⊢
  generalize signed s m (i - min i (-32)).toNat=v at h3 h4 ⊢
  omega
 rw [pL] at h5
 rcases Int.le_total i (-32) with hi | hi
 · have e1:(i - min i (-32)).toNat=0:=by omega
   have e2:(-32 - min i (-32)).toNat=(-i).toNat - 32:=by omega
   have e3:i.toNat=0:=by omega
   have e4:2 ^ 20 * 2 ^ (-i).toNat=2 ^ 52 * 2 ^ ((-i).toNat - 32):=by rw [← cQ,← cQ]; congr 1; omega
   rw [e3,e4]
   rw [e1,e2] at h5
   exact h5
 · have e1:(i - min i (-32)).toNat=(i+32).toNat:=by congr 1; omega
   have e2:(-32 - min i (-32)).toNat=0:=by omega
   rw [e1,e2] at h5
   rcases Int.le_total 0 i with h0 | h0
   · have e3:(-i).toNat=0:=by omega
     have e4:(i+32).toNat=i.toNat+32:=by omega
     rw [e4,cQ,← gi] at h5
     rw [e3]
     have:m * 2 ^ i.toNat * 2 ^ 32≤2 ^ 20 * 2 ^ 32:=by simpa [← cQ] using h5
     have:=Nat.le_of_mul_le_mul_right this (cM 32)
     simpa using this
   · have e3:i.toNat=0:=by omega
     rw [e3]
     have e5:2 ^ 20 * 2 ^ (-i).toNat * 2 ^ (i+32).toNat=2 ^ 52:=by
      rw [← cQ,← cQ]; congr 1; omega
     refine Nat.le_of_mul_le_mul_right (c:=2 ^ (i+32).toNat) ?_ (cM _)
     rw [e5]; simpa using h5
theorem CQ (s:Bool) (n d c:Nat) (h:n≤c * 2 ^ d):Toward.zero.cut s n d≤c:=by
 have hg:(1:Nat) <<< (min d (n.log2+2))=2 ^ (min d (n.log2+2)):=by rw [de,gU]
 simp only [Toward.cut,hg]
 show n / 2 ^ min d (n.log2+2)+0≤c
 rw [b6]
 rcases Nat.le_total d (n.log2+2) with hd | hd
 · rw [dN hd]
   exact Nat.div_le_of_le_mul (by rw [Nat.mul_comm]; exact h)
 · rw [Nat.min_eq_right hd]
   have:n<2 ^ (n.log2+2):=Nat.lt_trans Nat.lt_log2_self (Nat.pow_lt_pow_right (by decide) (by omega))
   rw [Nat.div_eq_of_lt this]; exact bt _
theorem Dc {x:Nat} (h:inB x=true):(FloatKind.f64.decode x).toInt .zero=some (gu x)∧pIn (gu x)=true:=by
 obtain ⟨s,m,i,hx⟩:=vW h
 have hm:=Dt h hx
 have hd:FloatKind.f64.decode x = .number s m i:=hx
 have ht:(FloatKind.f64.decode x).toInt .zero=some (signed s (Toward.zero.cut s (m <<< i.toNat) (-i).toNat) 0):=by
  rw [hd]; rfl
 have hf:gu x=signed s (Toward.zero.cut s (m <<< i.toNat) (-i).toNat) 0:=by
  unfold gu; rw [ht]; rfl
 refine ⟨by rw [hf]; exact ht,?_⟩
 have hc:=CQ s (m <<< i.toNat) (-i).toNat (2 ^ 20) (by rw [de]; exact hm)
 have ha:=pL s (Toward.zero.cut s (m <<< i.toNat) (-i).toNat) 0
 rw [← hf] at ha
 simp only [pIn,ab,decide_eq_true_eq]
 have:(2:Nat) ^ 20=1048576:=by decide
 omega
theorem pz {x:Nat} (h:inB x=true):ln .i64 x:=by
 obtain ⟨h1,h2⟩:=Dc h
 simp only [pIn,ab,decide_eq_true_eq] at h2
 refine ⟨h1,?_,?_⟩
 · have:IntKind.i64.min = -9223372036854775808:=by decide
   omega
 · have:IntKind.i64.max=9223372036854775807:=by decide
   omega
theorem l9 {x:Nat} (h:iv x=true):inB x=true:=by
 simp only [iv,ab] at h; exact h.1
theorem qC {x:Nat} (h:iv x=true):pIn (gu x)=true:=(Dc (l9 h)).2
theorem C0 {a:Int} (h:pIn a=true):a.natAbs≤1048576:=by
 simp only [pIn,ab,decide_eq_true_eq] at h; omega
theorem uj {x:Nat} (h:iv x=true):isI x (gu x):=by
 have hB:=l9 h
 have hin:=C0 (qC h)
 have he:dQ x (FloatKind.f64.nearest (gu x))=some .eq:=by
  simp only [iv,ab,beq_iff_eq] at h; exact h.2
 obtain ⟨s,m,i,hx⟩:=vW hB
 have hm:=Dt hB hx
 obtain ⟨t,k,hy,b1,b2⟩:=jn (gu x) (by omega)
 generalize gu x=n at *
 rw [nS hx hy] at he
 have hv:=gO.1 (ar he)
 have hi : i≤0:=by
  rw [wU] at hx
  split at hx
  · cases hx; decide
  · split at hx
    · rcases Int.le_total i 0 with h | h
      · exact h
      · exfalso
        have hmm:4503599627370496≤m:=by
         simp only [Datum.number.injEq] at hx; omega
        have e:(-i).toNat=0:=by omega
        rw [e] at hm
        have:m * 1≤m * 2 ^ i.toNat:=Nat.mul_le_mul_left _ (cM _)
        have p20:(2:Nat) ^ 20 * 2 ^ 0=1048576:=by decide
        omega
    · split at hx <;> cases hx
 obtain ⟨k',rfl⟩:∃ k':Nat,i = -(k':Int):=⟨(-i).toNat,by omega⟩
 have g2:=lZ t n k b1 b2 _ rfl ((-(k:Int)) - min (-(k':Int)) (-(k:Int))).toNat
 rw [g2] at hv
 have hab:=congrArg Int.natAbs hv
 rw [pL,Int.natAbs_mul,Int.natAbs_pow] at hab
 have e1:(-(k':Int) - min (-(k':Int)) (-(k:Int))).toNat=max k' k - k':=by omega
 have e2:k+(-(k:Int) - min (-(k':Int)) (-(k:Int))).toNat=max k' k:=by omega
 rw [e1,e2] at hab
 have hmm:m=n.natAbs * 2 ^ k':=by
  have e3:(2:Int).natAbs ^ max k' k=2 ^ k' * 2 ^ (max k' k - k'):=by
   rw [← cQ]; show 2 ^ max k' k=_; congr 1; omega
  rw [e3,← gi] at hab
  exact Nat.eq_of_mul_eq_mul_right (cM _) hab
 rw [e2] at hv
 have hpos:(0:Int)<2 ^ max k' k:=Int.pow_pos (by decide)
 refine ⟨s,k',by rw [hx,hmm],fun hn=>?_,fun hn=>?_⟩
 · cases s
   · exfalso
     have:n * 2 ^ max k' k<0:=Int.mul_neg_of_neg_of_pos hn hpos
     rw [← hv] at this
     have:=ED m (-(k':Int) - min (-(k':Int)) (-(k:Int))).toNat
     omega
   · rfl
 · cases s
   · rfl
   · exfalso
     have:0<n * 2 ^ max k' k:=Int.mul_pos hn hpos
     rw [← hv] at this
     have:=Fj m (-(k':Int) - min (-(k':Int)) (-(k:Int))).toNat
     omega
theorem Na {x:Nat} {n:Int} (h:isI x n):inB x=pIn n:=by
 unfold inB
 rw [wh h M7,wh h JL]
 rw [cL]
 simp only [pIn,ab,aH,beq_iff_eq,aa,decide_eq_true_eq,gM,gI,gO]
 omega
theorem vE {x:Nat} {n:Int} (h:isI x n):iv x=pIn n:=by
 unfold iv
 rw [Na h]
 cases hp:pIn n
 · rfl
 · have:=C0 hp
   rw [tE h,wh h (jn n (by omega))]
   simp
/-! ### points, by the bits of their parts -/
def eE (p:Nat×Nat):Bool:=iv p.1&&iv p.2
def rC:Option (Nat×Nat)→Bool
 | some p=>eE p
 | none=>false
def num (n:Int):Nat:=FloatKind.f64.nearest n
def bY (a b:Int):Nat×Nat:=if pIn a&&pIn b then (num a,num b) else (0,0)
def jV (a b:Int):Int:=if pIn a&&pIn b then 0 else 5
def cP (p:Nat×Nat):Int:=if eE p then gu p.1 else 0
def cR (p:Nat×Nat):Int:=if eE p then gu p.2 else 0
def lf (p:Nat×Nat):Int:=if eE p then 0 else 12
theorem Bd {p:Nat×Nat} (h:eE p=true):ln .i64 p.1∧ln .i64 p.2:=by
 simp only [eE,ab] at h
 exact ⟨pz (l9 h.1),pz (l9 h.2)⟩
theorem uP {p:Nat×Nat} (h:eE p=true):isI p.1 (gu p.1)∧isI p.2 (gu p.2)∧pIn (gu p.1)=true∧pIn (gu p.2)=true:=by
 simp only [eE,ab] at h
 exact ⟨uj h.1,uj h.2,qC h.1,qC h.2⟩
def isP (p:Nat×Nat) (a b:Int):Prop:=isI p.1 a∧isI p.2 b
theorem ym {p:Nat×Nat} {a b:Int} (h:isP p a b):eE p=(pIn a&&pIn b):=by
 simp only [eE,vE h.1,vE h.2]
theorem Nr {a b:Int} (ha:a.natAbs<2 ^ 53) (hb:b.natAbs<2 ^ 53):isP (num a,num b) a b:=⟨jn a ha,jn b hb⟩
theorem Gp:FloatKind.f64.nearest 0=0:=by decide
theorem A1:isI 0 0:=Gp ▸ jn 0 (by decide)
end Go.Ev
namespace Go.Proofs.YtpfidgnkokidoaaGreatDoor
open Go Go.Ev
set_option maxRecDepth 100000
/-! ### lines -/
def dD:Str→Str→List Str
 | cur,[]=>[cur]
 | cur,c::r=>bif c==10 then cur::dD [] r else dD (cur++[c]) r
variable {c:Chart} {n:Nat} (s:Str)
def vg:Bool:=s.getLast?==some 10
def jS:Str:=if vg s=true then s.dropLast else s
def dH:List Str:=dD [] (jS s)
theorem qV:∀ (s cur:Str),(10:UInt8) ∉ s→dD cur s=[cur++s]
 | [],cur,_=>by simp [dD]
 | c::r,cur,h=>by
   simp only [aO,not_or] at h
   have hc:(c==10)=false:=by simpa using fun e=>h.1 e.symm
   rw [dD,hc,cond_false,qV r _ h.2]; simp
theorem tC:∀ (a cur b:Str),(10:UInt8) ∉ a→dD cur (a++10::b)=(cur++a)::dD [] b
 | [],cur,b,_=>by simp [dD]
 | c::r,cur,b,h=>by
   simp only [aO,not_or] at h
   have hc:(c==10)=false:=by simpa using fun e=>h.1 e.symm
   rw [bE,dD,hc,cond_false,tC r _ b h.2]; simp
theorem qx:∀ (k:Nat) (s:Str),Lib.count s [10]=k→Lib.splitK [10] 0 k s=dD [] s
 | 0,s,h=>by
   rw [Lib.count_one] at h
   rw [qV s [] (List.count_eq_zero.1 h)]; rfl
 | k + 1,s,h=>by
   rcases l7 s 10 with ⟨h1,_⟩ | ⟨a,r,rfl,h2,h3⟩
   · rw [Lib.count_miss h1] at h; omega
   · have h4:=Lib.count_hit (by simp) h3
     have e:(a++10::r).drop (a.length+1)=r:=by
      rw [← eX,ew]; rfl
     rw [show ([10]:Str).length=1 from rfl,e] at h4
     rw [Lib.splitK,if_neg (by rw [h3]; simp),h3,bj,show ([10]:Str).length=1 from rfl,e,b6,eY,tC a [] r h2,qx k r (by omega)]; rfl
theorem Ck:(Lib.splitB ⟨#[10]⟩ 0 (Lib.countB (bs s) ⟨#[10]⟩) (bs s)).map (·.data.toList)=dD [] s:=by
 rw [Lib.splitB_data]
 have e:(bs s).data.toList=s:=cF s
 rw [e]
 exact qx _ s (by show Lib.count s [10]=Lib.count (bs s).data.toList _; rw [e])
theorem pf:∀ (s cur:Str),(dD cur s).length=s.countP (·==10)+1
 | [],cur=>rfl
 | c::r,cur=>by
   rw [dD,List.countP_cons]
   cases h:c==10
   · rw [cond_false,pf r]; simp
   · rw [cond_true,ah,pf r]; simp
theorem sP:(dD [] s).length≤s.length+1:=by
 rw [pf]; have:=List.countP_le_length (p:=(·==(10:UInt8))) (l:=s); omega
theorem sS:∀ (s cur:Str),∀ p∈dD cur s,p.length≤cur.length+s.length
 | [],cur,p,h=>by simp [dD] at h; subst h; simp
 | c :: r,cur,p,h=>by
   rw [dD] at h
   cases hc:c==10
   · rw [hc,cond_false] at h
     have:=sS r (cur++[c]) p h
     simp only [ag,ah,aj] at this ⊢; omega
   · rw [hc,cond_true] at h
     rcases aO.1 h with rfl | h
     · simp
     · have:=sS r [] p h
       simp only [aj,ah] at this ⊢; omega
theorem ky:(jS s).length≤s.length:=by
 unfold jS; split
 · rw [List.length_dropLast]; omega
 · exact av _
theorem wD:(dH s).length≤s.length+1:=by
 have h1:=sP (jS s); have h2:=ky s
 show (dD [] (jS s)).length≤_; omega
theorem Cu {s p:Str} (h:p∈dH s):p.length≤s.length:=by
 have h1:=sS (jS s) [] p h
 have h2:=ky s
 simp only [aj] at h1; omega
theorem B8:0<(dH s).length:=by
 show 0<(dD [] (jS s)).length
 rw [pf]; omega
/-! ### points -/
def db (a b:Int):Str:=Lib.itoa a++(if b<0 then [] else [43])++Lib.itoa b++[105]
def oW (p:Int×Int):Prop:=pIn p.1=true∧pIn p.2=true∧db p.1 p.2=s
open Classical in
noncomputable def E4:Option (Int×Int):=if h:∃ p,oW s p then some h.choose else none
def fB:Prop:=∃ p,oW s p
noncomputable def ptA:Int:=match E4 s with | some p=>p.1 | none=>0
noncomputable def ptB:Int:=match E4 s with | some p=>p.2 | none=>0
theorem kA {s:Str} (h:fB s):oW s (ptA s,ptB s):=by
 have e:E4 s=some h.choose:=dif_pos h
 unfold ptA ptB
 rw [e]
 exact h.choose_spec
/-! ### a line -/
noncomputable def jj (c:Chart) (d:Int) (w:List Str):Option Chart:=by
 classical exact if eK c d w 4=true∧(bg (an w 1)).2=0∧(bg (an w 2)).2=0∧fB (an w 3) then some { c with vars:=c.vars++[⟨an w 0,3,(bg (an w 1)).1,(bg (an w 2)).1,⟨3,ptA (an w 3),ptB (an w 3)⟩⟩] } else none
noncomputable def cu (c:Chart) (d:Int) (k:Str) (w:List Str):Option Chart :=
 if k=gx then jH c d w else if k=nZ then nG c d w else if k=jP then kB c d w else if k=jL then jj c d w
 else if k=mU then aN 1 1 c d w else if k=oZ then aN 3 1 c d w else if k=my then aN 4 1 c d w
 else if k=tA then aN 2 2 c d w else if k=jX then aN 5 2 c d w else if k=oV then aN 6 2 c d w
 else if k=iz then ix c d w else if k=jc then jC c d w else if k=wOn then onC c d w else none
def rJ (c:Chart) (l:Str):Option Chart :=
 if bF l=0∧(bq l).length=2∧an (bq l) 0=iy∧aP (an (bq l) 1)=true then some { c with name:=an (bq l) 1 } else none
noncomputable def dR (c:Chart) (k:Nat) (l:Str):Option Chart :=
 if gW l=true then (if k=0 then rJ c l else cu c (bF l:Nat) (an (bq l) 0) ((bq l).drop 1)) else none
def dk:Chart:=⟨[],[],[],[],[]⟩
noncomputable def dO:Chart→Nat→List Str→Chart×Option Nat
 | c,_,[]=>(c,none)
 | c,k,l::r=>match dR c k l with
   | some c'=>dO c' (k+1) r
   | none=>(dk,some k)
noncomputable def br:Chart×Int×Int:=if 6000<s.length then (dk,0,4) else match dO dk 0 (dH s) with
 | (c,none)=>(c,0,0)
 | (_,some k)=>(dk,(k:Int)+1,1)
def gv:Prop:=(br s).2.2=0
/-! ### how much may stand in a chart that is read -/
structure Fit (c:Chart) (n:Nat):Prop where
 events:c.events.length≤n
 vars:c.vars.length≤n
 states:c.states.length≤n
 trans:c.trans.length≤n
 depth:∀ s∈c.states,0≤s.depth∧s.depth≤6000
theorem Fit.zero:Fit dk 0:=⟨av _,av _,av _,av _,by simp [dk]⟩
theorem Fit.le {m:Nat} (h:Fit c n) (hm:n≤m):Fit c m:=⟨ay h.1 hm,ay h.2 hm,ay h.3 hm,ay h.4 hm,h.5⟩
theorem cJ {α:Type} {p:Prop} {inst:Decidable p} {x y:α} (h:(if p then some x else none)=some y):p∧x=y:=by
 split at h
 · rename_i hp; exact ⟨hp,ar h⟩
 · cases h
theorem Fit.last (h:Fit c n) {s :  Ev.Stat} (hs:c.states.getLast?=some s):0≤s.depth∧s.depth≤6000:=h.depth s (List.mem_of_getLast? hs)
theorem Fit.room (h:Fit c n):0≤jb c∧jb c≤6001:=by
 unfold jb
 cases hs:c.states.getLast? with
 | none=>simp
 | some s=>have:=h.last hs; simp only; omega
theorem Fit.put (h:Fit c n) {s s':Ev.Stat} (hs:c.states.getLast?=some s) (hd:s'.depth=s.depth):Fit { c with states:=c.states.dropLast++[s'] } n:=by
 have hl:c.states.length≠0:=by
  intro e; rw [b5] at e; rw [e] at hs; cases hs
 refine ⟨h.1,h.2,?_,h.4,?_⟩
 · have:=h.3; simp only [ag,List.length_dropLast,ah,aj]; omega
 · intro x hx
   simp only [bb,aW] at hx
   rcases hx with hx | rfl
   · exact h.depth x (List.dropLast_subset _ hx)
   · rw [hd]; exact h.last hs
theorem Fit.line {c':Chart} {n k:Nat} {l:Str} (h:Fit c n) (hl:l.length≤6000) (e:dR c k l=some c'):Fit c' (n+1):=by
 have hl':=tu l
 unfold dR at e
 obtain ⟨_,e⟩:_∧_:=by
  by_cases hk:gW l=true
  · rw [if_pos hk] at e; exact ⟨hk,e⟩
  · rw [if_neg hk] at e; cases e
 split at e
 · unfold rJ at e
   obtain ⟨_,rfl⟩:=cJ e
   exact ⟨bn h.1,bn h.2,bn h.3,bn h.4,h.5⟩
 · unfold cu at e
   have st:∀ (kind:Int) (m:Nat) (w:List Str),aN kind m c (bF l:Nat) w=some c'→Fit c' (n+1):=fun kind m w e=>by
    unfold aN at e
    obtain ⟨_,rfl⟩:=cJ e
    refine ⟨bn h.1,bn h.2,by have:=h.3; simp; omega,bn h.4,fun x hx=>?_⟩
    simp only [bb,aW] at hx
    rcases hx with hx | rfl
    · exact h.depth x hx
    · simp only; omega
   generalize an (bq l) 0=k at e
   generalize (bq l).drop 1=w at e
   by_cases k0:k=gx
   · rw [if_pos k0] at e
     unfold jH at e; obtain ⟨_,rfl⟩:=cJ e
     exact ⟨by have:=h.1; simp; omega,bn h.2,bn h.3,bn h.4,h.5⟩
   rw [if_neg k0] at e
   by_cases k1:k=nZ
   · rw [if_pos k1] at e
     unfold nG at e; obtain ⟨_,rfl⟩:=cJ e
     exact ⟨bn h.1,by have:=h.2; simp; omega,bn h.3,bn h.4,h.5⟩
   rw [if_neg k1] at e
   by_cases k2:k=jP
   · rw [if_pos k2] at e
     unfold kB at e; obtain ⟨_,rfl⟩:=cJ e
     exact ⟨bn h.1,by have:=h.2; simp; omega,bn h.3,bn h.4,h.5⟩
   rw [if_neg k2] at e
   by_cases k3:k=jL
   · rw [if_pos k3] at e
     unfold jj at e; obtain ⟨_,rfl⟩:=cJ e
     exact ⟨bn h.1,by have:=h.2; simp; omega,bn h.3,bn h.4,h.5⟩
   rw [if_neg k3] at e
   by_cases k4:k=mU
   · rw [if_pos k4] at e
     exact st _ _ _ e
   rw [if_neg k4] at e
   by_cases k5:k=oZ
   · rw [if_pos k5] at e
     exact st _ _ _ e
   rw [if_neg k5] at e
   by_cases k6:k=my
   · rw [if_pos k6] at e
     exact st _ _ _ e
   rw [if_neg k6] at e
   by_cases k7:k=tA
   · rw [if_pos k7] at e
     exact st _ _ _ e
   rw [if_neg k7] at e
   by_cases k8:k=jX
   · rw [if_pos k8] at e
     exact st _ _ _ e
   rw [if_neg k8] at e
   by_cases k9:k=oV
   · rw [if_pos k9] at e
     exact st _ _ _ e
   rw [if_neg k9] at e
   by_cases k10:k=iz
   · rw [if_pos k10] at e
     unfold ix at e
     split at e
     · rename_i s hs
       obtain ⟨_,rfl⟩:=cJ e
       exact (h.put (s':={ s with entry:=(aM (an w 0)).1 }) hs rfl).le (Nat.le_succ n)
     · cases e
   rw [if_neg k10] at e
   by_cases k11:k=jc
   · rw [if_pos k11] at e
     unfold jC at e
     split at e
     · rename_i s hs
       obtain ⟨_,rfl⟩:=cJ e
       exact (h.put (s':={ s with leave:=(aM (an w 0)).1 }) hs rfl).le (Nat.le_succ n)
     · cases e
   rw [if_neg k11] at e
   by_cases k12:k=wOn
   · rw [if_pos k12] at e
     unfold onC at e; obtain ⟨_,rfl⟩:=cJ e
     exact ⟨bn h.1,bn h.2,bn h.3,by have:=h.4; simp; omega,h.5⟩
   rw [if_neg k12] at e
   cases e
end Go.Proofs.YtpfidgnkokidoaaGreatDoor
namespace Go.Proofs.YtpfidgnkokidoaaGreatDoor
open Go Go.Ev
set_option maxRecDepth 100000
theorem pV:∀ (a:List Str) (c:Chart) (k:Nat) (b:List Str),dO c k (a++b)=match dO c k a with | (c',none)=>dO c' (k+a.length) b | x=>x
 | [],c,k,b=>rfl
 | l :: a,c,k,b=>by
   simp only [bE,dO]
   cases dR c k l with
   | none=>rfl
   | some c' =>
     simp only [pV a c' (k+1) b,ah,gh,Nat.add_comm 1]
theorem AB (s:Str):(6000<s.length∧br s=(dk,0,4))∨(¬6000<s.length∧((∃ c,dO dk 0 (dH s)=(c,none)∧br s=(c,0,0))∨∃ k,(dO dk 0 (dH s)).2=some k∧br s=(dk,(k:Int)+1,1))):=by
 by_cases h:6000<s.length
 · exact .inl ⟨h,by rw [br,if_pos h]⟩
 · refine .inr ⟨h,?_⟩
   rcases e:dO dk 0 (dH s) with ⟨c,_ | k⟩
   · exact .inl ⟨c,rfl,by rw [br,if_neg h,e]⟩
   · exact .inr ⟨k,rfl,by rw [br,if_neg h,e]⟩
theorem sA {s:Str} (h:gv s):s.length≤6000∧dO dk 0 (dH s)=((br s).1,none)∧br s=((br s).1,0,0):=by
 have h0:(br s).2.2=0:=h
 rcases AB s with ⟨_,e⟩ | ⟨h1,⟨c,e1,e⟩ | ⟨k,_,e⟩⟩
 · rw [e] at h0
   have h5:(4:Int)=0:=h0
   exact absurd h5 (by decide)
 · rw [e]; exact ⟨by omega,e1,rfl⟩
 · rw [e] at h0
   have h5:(1:Int)=0:=h0
   exact absurd h5 (by decide)
def ex1:Str:=[99,104,97,114,116,32,99,10,111,110,101,32,114,32,97,10,32,98,97,115,105,99,32,97,10,32,32,111,110,32,103,111,32,45,32,45,32,45,10]
def ex2:Str:=[99,104,97,114,116,32,99,10,32,98,97,115,105,99,32,97]
def exC:Chart:=⟨[99],[],[],[⟨[114],2,0,[97],[],[]⟩,⟨[97],1,1,[],[],[]⟩],[⟨1,[103,111],[],[],[]⟩]⟩
theorem KY:dH ex2=[[99,104,97,114,116,32,99],[32,98,97,115,105,99,32,97]]:=by decide +kernel
theorem IW:dR dk 0 [99,104,97,114,116,32,99]=some { dk with name:=[99] }:=rfl
theorem Oe:dR { dk with name:=[99] } 1 [32,98,97,115,105,99,32,97]=none:=rfl
theorem Ii:br ex2=(dk,2,1):=by
 unfold br
 rw [if_neg (by decide),KY]
 simp only [dO,IW,Oe]
 rfl
theorem IM:dH ex1=[[99,104,97,114,116,32,99],[111,110,101,32,114,32,97],[32,98,97,115,105,99,32,97],[32,32,111,110,32,103,111,32,45,32,45,32,45]]:=by decide +kernel
def exA:Chart:=⟨[99],[],[],[⟨[114],2,0,[97],[],[]⟩],[]⟩
def exB:Chart:=⟨[99],[],[],[⟨[114],2,0,[97],[],[]⟩,⟨[97],1,1,[],[],[]⟩],[]⟩
theorem Px:dR { dk with name:=[99] } 1 [111,110,101,32,114,32,97]=some exA:=rfl
theorem Pn:dR exA 2 [32,98,97,115,105,99,32,97]=some exB:=rfl
theorem Pg:dR exB 3 [32,32,111,110,32,103,111,32,45,32,45,32,45]=some exC:=by
 show onC exB 2 [[103,111],[45],[45],[45]]=some exC
 unfold onC
 rw [if_pos ⟨rfl,rfl,.inr rfl,.inl rfl,.inl rfl,.inl rfl⟩]
 have e:∀ {α:Type} (x:List α),(if an [[103,111],[45],[45],[45]] 1=dash then [] else x)=[]:=fun _=>if_pos rfl
 have e2:(if an [[103,111],[45],[45],[45]] 2=dash then [] else an [[103,111],[45],[45],[45]] 2)=[]:=if_pos rfl
 have e3:∀ {α:Type} (x:List α),(if an [[103,111],[45],[45],[45]] 3=dash then [] else x)=[]:=fun _=>if_pos rfl
 have e0:(if an [[103,111],[45],[45],[45]] 0=dash then [] else an [[103,111],[45],[45],[45]] 0)=[103,111]:=if_neg (by decide)
 rw [e,e2,e3,e0]; rfl
theorem Db:br ex1=(exC,0,0):=by
 unfold br
 rw [if_neg (by decide),IM]
 simp only [dO,Nat.reduceAdd,IW,Px,Pn,Pg]
end Go.Proofs.YtpfidgnkokidoaaGreatDoor
namespace Go.Proofs
open Go.Shelf
def Tryz.lays152_ren:Go.Shelf.Ren:=⟨fun | 152=>153 | 137=>184 | 119=>185 | 224=>167 | 225=>166 | 217=>165 | 266=>191 | n=>n,fun | 9=>9 | 21=>21 | 3=>3 | 4=>4 | 5=>5 | 0=>0 | 46=>145 | n=>n,fun | n=>n⟩
theorem Tryz.lays152:Go.Proofs.Lays.n152 Tryz.prog Tryz.lays152_ren:={
 mixed:=by kernel_rfl
 f119:=Tryz.func185.trans (congrArg some (by kernel_rfl))
 f137:=Tryz.func184.trans (congrArg some (by kernel_rfl))
 f152:=Tryz.func153.trans (congrArg some (by kernel_rfl))
 f217:=Tryz.func165.trans (congrArg some (by kernel_rfl))
 f224:=Tryz.func167.trans (congrArg some (by kernel_rfl))
 f225:=Tryz.func166.trans (congrArg some (by kernel_rfl))
 f266:=Tryz.func191.trans (congrArg some (by kernel_rfl))
 t0:=Tryz.underlying0
 a0:=Tryz.isAgg0
 z0:=Tryz.sizeOf0
 v0:=Tryz.zeroValue0
 t3:=Tryz.underlying3
 a3:=Tryz.isAgg3
 z3:=Tryz.sizeOf3
 v3:=Tryz.zeroValue3
 t4:=Tryz.underlying4
 a4:=Tryz.isAgg4
 z4:=Tryz.sizeOf4
 v4:=Tryz.zeroValue4
 t5:=Tryz.underlying5
 a5:=Tryz.isAgg5
 z5:=Tryz.sizeOf5
 v5:=Tryz.zeroValue5
 t9:=Tryz.underlying9
 a9:=Tryz.isAgg9
 z9:=Tryz.sizeOf9
 v9:=Tryz.zeroValue9
 t21:=Tryz.underlying21
 a21:=Tryz.isAgg21
 z21:=Tryz.sizeOf21
 v21:=Tryz.zeroValue21
 t46:=Tryz.underlying145
 a46:=Tryz.isAgg145
 z46:=Tryz.sizeOf145
 v46:=Tryz.zeroValue145 }
def Tryz.lays227_ren:Go.Shelf.Ren:=⟨fun | 227=>146 | n=>n,fun | 9=>9 | 116=>190 | 4=>4 | 0=>0 | 3=>3 | 5=>5 | n=>n,fun | n=>n⟩
theorem Tryz.lays227:Go.Proofs.Lays.n227 Tryz.prog Tryz.lays227_ren:={
 mixed:=by kernel_rfl
 f227:=Tryz.func146.trans (congrArg some (by kernel_rfl))
 t0:=Tryz.underlying0
 a0:=Tryz.isAgg0
 z0:=Tryz.sizeOf0
 v0:=Tryz.zeroValue0
 t3:=Tryz.underlying3
 a3:=Tryz.isAgg3
 z3:=Tryz.sizeOf3
 v3:=Tryz.zeroValue3
 t4:=Tryz.underlying4
 a4:=Tryz.isAgg4
 z4:=Tryz.sizeOf4
 v4:=Tryz.zeroValue4
 t5:=Tryz.underlying5
 a5:=Tryz.isAgg5
 z5:=Tryz.sizeOf5
 v5:=Tryz.zeroValue5
 t9:=Tryz.underlying9
 a9:=Tryz.isAgg9
 z9:=Tryz.sizeOf9
 v9:=Tryz.zeroValue9
 t116:=Tryz.underlying190
 a116:=Tryz.isAgg190
 z116:=Tryz.sizeOf190 }
def Tryz.lays228_ren:Go.Shelf.Ren:=⟨fun | 228=>155 | n=>n,fun | 124=>194 | 5=>5 | 4=>4 | 0=>0 | 116=>190 | n=>n,fun | n=>n⟩
theorem Tryz.lays228:Go.Proofs.Lays.n228 Tryz.prog Tryz.lays228_ren:={
 mixed:=by kernel_rfl
 f228:=Tryz.func155.trans (congrArg some (by kernel_rfl))
 t0:=Tryz.underlying0
 a0:=Tryz.isAgg0
 z0:=Tryz.sizeOf0
 v0:=Tryz.zeroValue0
 t4:=Tryz.underlying4
 a4:=Tryz.isAgg4
 z4:=Tryz.sizeOf4
 v4:=Tryz.zeroValue4
 t5:=Tryz.underlying5
 a5:=Tryz.isAgg5
 z5:=Tryz.sizeOf5
 v5:=Tryz.zeroValue5
 t116:=Tryz.underlying190
 a116:=Tryz.isAgg190
 z116:=Tryz.sizeOf190
 t124:=Tryz.underlying194
 a124:=Tryz.isAgg194
 z124:=Tryz.sizeOf194
 v124:=Tryz.zeroValue194 }
open Go.RowKit Go.Lib in
theorem Tryz.strings_IndexRune_ascii (s:ByteArray) (r:Int) (w:World) (h0:0≤r) (h1:r<128) :
 Calls Tryz.prog 153 #[.string s,.int .i32 r] w fun e w'=>e = .returned (.int .i64 (Lib.indexByte s.data.toList r.toNat.toUInt8))∧w'=w:=Any.strings_IndexRune_ascii Tryz.lays152 s r w h0 h1
open Go.RowKit Go.Lib in
theorem Tryz.strings_makeASCIISet (hv116:∀ w,(zeroValue 190).run Tryz.prog w = .ok (.agg (Array.replicate 256 (.bool false))) w) (chars:ByteArray) (w:World) (hs:chars.size<4294967281) (hascii:∀ (j:Nat) b,chars.data.toList[j]?=some b→b.toNat<128) :
 Calls Tryz.prog 146 #[.string chars] w fun e w'=>e = .returned (.tuple #[.agg (Lib.setCells chars.data.toList),.bool true])∧w'=w.alloc (.cells (Lib.setCells chars.data.toList) 190):=Any.strings_makeASCIISet Tryz.lays227 hv116 (by kernel_rfl) chars w hs hascii
open Go.RowKit Go.Lib in
theorem Tryz.asciiSet_contains (b:Nat) (x:UInt8) (v:Bool) (w:World) (hc:w.cell? ⟨b,x.toNat,none⟩=some (.bool v)) :
 Calls Tryz.prog 155 #[.pointer (some ⟨b,0,none⟩),.int .u8 x.toNat] w fun e w'=>e = .returned (.bool v)∧w'=w:=Any.asciiSet_contains Tryz.lays228 b x v w hc
end Go.Proofs
