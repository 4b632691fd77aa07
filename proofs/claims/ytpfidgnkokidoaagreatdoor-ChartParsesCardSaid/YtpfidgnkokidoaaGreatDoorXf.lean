/- Plain: what is read is small. Conditions: none. Plain: a number at a text's beginning. Conditions: none. Contracts: the document's points read. Conditions: sizes. -/
import Derived.Test.YtpfidgnkokidoaaGreatDoorYe
import Derived.Test.YtpfidgnkokidoaaGreatDoorShelfi
import Derived.Test.YtpfidgnkokidoaaGreatDoorWm
import Derived.Test.YtpfidgnkokidoaaGreatDoorXb
namespace Go.Proofs.YtpfidgnkokidoaaGreatDoor
open Go Go.Ev
set_option maxRecDepth 100000
def iO (l:List Deed):Prop:=∀ d∈l,d.expr.length≤32
theorem iO.nil:iO []:=by intro d hd; cases hd
theorem tu (s:Str):(aO s).1.length≤32:=by
 unfold aO
 repeat' split
 all_goals (first | exact bJ _ | (show (cu s).out.length≤32; omega))
theorem Hy {s:Str} {d:Deed} (h:fS s=some d):d.expr.length≤32:=by
 have h2:=tu (bO s)
 unfold fS at h
 repeat' split at h
 all_goals first
  | (cases h; done)
  | (simp only [aa] at h; subst h; first | exact bJ _ | exact h2)
theorem qT:∀ (ps:List Str) (l:List Deed),readAll ps=some l→iO l
 | [],l,h=>by simp only [readAll,aa] at h; subst h; exact iO.nil
 | p :: r,l,h=>by
   simp only [readAll] at h
   split at h
   · rename_i d m h1 h2
     simp only [aa] at h; subst h
     intro x hx
     rcases bg.1 hx with rfl | hx
     · exact Hy h1
     · exact qT r m h2 x hx
   · cases h
theorem ot (s:Str):iO (aF s).1:=by
 unfold aF
 repeat' split
 all_goals first
  | exact iO.nil
  | exact qT _ _ (by assumption)
structure Sm (c:Chart):Prop where
 stat:∀ s∈c.states,iO s.entry∧iO s.leave
 tran:∀ t∈c.trans,t.guard.length≤32∧iO t.acts
theorem gW {p:Prop} {i:Decidable p} {a b:Option Chart} {c:Chart} (h:(if p then a else b)=some c):a=some c∨b=some c:=by
 split at h
 · exact .inl h
 · exact .inr h
theorem Sm.add {c:Chart} (h:Sm c) {l:List Ev.Stat} (hl:∀ x∈l,x∈c.states) {s:Ev.Stat} (h1:iO s.entry) (h2:iO s.leave):Sm { c with states:=l++[s] }:=⟨fun x hx=>by
 rcases bz.1 hx with hx | hx
 · exact h.1 x (hl x hx)
 · rw [aY.1 hx]; exact ⟨h1,h2⟩,h.2⟩
theorem Sm.line {c c':Chart} {k:Nat} {l:Str} (h:Sm c) (e:cd c k l=some c'):Sm c':=by
 unfold cd at e
 split at e
 · split at e
   · unfold nv at e
     obtain ⟨_,rfl⟩:=eL e; exact ⟨h.1,h.2⟩
   · unfold bF at e
     have hst:∀ {kind:Int} {m:Nat} {d:Int} {w:List Str},aH kind m c d w=some c'→Sm c':=fun e=>by
      unfold aH at e; obtain ⟨_,rfl⟩:=eL e; exact h.add (fun _=>id) iO.nil iO.nil
     rcases gW e with e | e
     · unfold gR at e; obtain ⟨_,rfl⟩:=eL e; exact ⟨h.1,h.2⟩
     rcases gW e with e | e
     · unfold jO at e; obtain ⟨_,rfl⟩:=eL e; exact ⟨h.1,h.2⟩
     rcases gW e with e | e
     · unfold iI at e; obtain ⟨_,rfl⟩:=eL e; exact ⟨h.1,h.2⟩
     rcases gW e with e | e
     · unfold gd at e; obtain ⟨_,rfl⟩:=eL e; exact ⟨h.1,h.2⟩
     rcases gW e with e | e
     · exact hst e
     rcases gW e with e | e
     · exact hst e
     rcases gW e with e | e
     · exact hst e
     rcases gW e with e | e
     · exact hst e
     rcases gW e with e | e
     · exact hst e
     rcases gW e with e | e
     · exact hst e
     rcases gW e with e | e
     · unfold fI at e
       split at e
       · rename_i s hs
         obtain ⟨_,rfl⟩:=eL e
         exact h.add (fun _ hx=>List.dropLast_subset _ hx) (ot _) (h.1 s (List.mem_of_getLast? hs)).2
       · cases e
     rcases gW e with e | e
     · unfold gz at e
       split at e
       · rename_i s hs
         obtain ⟨_,rfl⟩:=eL e
         exact h.add (fun _ hx=>List.dropLast_subset _ hx) (h.1 s (List.mem_of_getLast? hs)).1 (ot _)
       · cases e
     rcases gW e with e | e
     · unfold onC at e
       obtain ⟨_,rfl⟩:=eL e
       refine ⟨h.1,fun t ht=>?_⟩
       rcases bz.1 ht with ht | ht
       · exact h.2 t ht
       · rw [aY.1 ht]
         constructor
         · show (if _ then _ else _:List Cell).length≤32
           split
           · exact bJ _
           · exact tu _
         · show iO (if _ then _ else _)
           split
           · exact iO.nil
           · exact ot _
     · cases e
 · cases e
theorem ss:∀ (ls:List Str) (c:Chart) (k n:Nat) (c':Chart),(∀ l∈ls,l.length≤6000)→Fit c n→Sm c→eF c k ls=(c',none)→Fit c' (n+ls.length)∧Sm c'
 | [],c,k,n,c',_,hf,hs,h=>by
   simp only [eF,ae,and_true] at h; subst h
   exact ⟨hf,hs⟩
 | l :: r,c,k,n,c',hl,hf,hs,h=>by
   simp only [eF] at h
   cases e:cd c k l with
   | none=>rw [e] at h; simp at h
   | some c1 =>
     rw [e] at h
     have:=ss r c1 (k+1) (n+1) c' (fun x hx=>hl x (aX _ hx)) (hf.line (hl l aU) e) (hs.line e) h
     rw [ai,show n+(r.length+1)=n+1+r.length by omega]; exact this
theorem AY (s:Str):SmallC (bm s).1:=by
 have key:∃ c,(bm s).1=c∧Fit c 6001∧Sm c:=by
  have z:Sm eJ:=⟨fun s hs=>(by cases hs),fun t ht=>(by cases ht)⟩
  have fz:Fit eJ 6001:=Fit.zero.le (by omega)
  rcases Au s with ⟨_,e⟩ | ⟨h,⟨c,e1,e⟩ | ⟨k,_,e⟩⟩
  · rw [e]; exact ⟨_,rfl,fz,z⟩
  · rw [e]
    obtain ⟨h1,h2⟩:=ss _ _ _ 0 c (fun l hl=>by have:=rm hl; omega) Fit.zero z e1
    have:=mN s
    exact ⟨_,rfl,h1.le (by omega),h2⟩
  · rw [e]; exact ⟨_,rfl,fz,z⟩
 obtain ⟨c,e,hf,hs⟩:=key
 rw [e]
 have fd:∀ {l:List Deed},iO l→∀ d∈l,d.expr.length≤1000000:=fun h d hd=>bq (h d hd) (by decide)
 exact ⟨bq hf.1 (by decide),bq hf.2 (by decide),bq hf.3 (by decide),bq hf.4 (by decide),fun s h=>⟨fd (hs.1 s h).1,fd (hs.1 s h).2⟩,fun t h=>⟨bq (hs.2 t h).1 (by decide),fd (hs.2 t h).2⟩⟩
/-! ### plain -/
def wGo:Nat→List UInt8→Nat×Nat
 | n,[]=>(n,0)
 | n,c::r=>if isD c=true∧n≤1048576 then ((wGo (10 * n+(c.toNat - 48)) r).1,(wGo (10 * n+(c.toNat - 48)) r).2+1) else (n,0)
def iN (s:Str) (f:Nat) (ng:Bool) (p:Nat×Nat):Int×Int:=if p.2=0∨((s.getD f 0).toNat=48∧(1<p.2∨ng=true)) then (0,0) else (if ng=true then -(p.1:Int) else (p.1:Int),((f+p.2:Nat):Int))
def aW (s:Str):Int×Int:=if aS s [45]=true then iN s 1 true (wGo 0 (s.drop 1)) else iN s 0 false (wGo 0 s)
theorem tR:∀ (l:List UInt8) (n:Nat),n≤10485769→(wGo n l).1≤10485769∧(wGo n l).2≤l.length
 | [],n,h=>⟨h,aD _⟩
 | c :: r,n,h=>by
   unfold wGo
   split
   · rename_i hc
     have hd:=jo hc.1
     have:=tR r (10 * n+(c.toNat - 48)) (by omega)
     exact ⟨this.1,by simp only [ai]; omega⟩
   · exact ⟨h,bJ _⟩
theorem uQ:∀ (d:List UInt8) (n:Nat) (r:List UInt8),d.all isD=true→cI n d≤1048576→(∀ c q,r=c::q→isD c=false)→wGo n (d++r)=(cI n d,d.length)
 | [],n,r,_,_,hr=>by
   cases r with
   | nil=>rfl
   | cons c q=>rw [cn,wGo,if_neg (by rw [hr c q rfl]; simp)]; rfl
 | c::d,n,r,hd,hv,hr=>by
   simp only [bA,af] at hd
   have hv':cI (10 * n+(c.toNat - 48)) d≤1048576:=hv
   have h1:=mP d (10 * n+(c.toNat - 48))
   rw [bt,wGo,if_pos ⟨hd.1,by omega⟩,uQ d _ r hd.2 hv' hr]; rfl
theorem rM:∀ (l:List UInt8) (n:Nat),(l.take (wGo n l).2).all isD=true∧cI n (l.take (wGo n l).2)=(wGo n l).1∧(wGo n l).2≤l.length
 | [],n=>⟨rfl,rfl,aD _⟩
 | c :: r,n=>by
   rw [wGo]
   split
   · rename_i hc
     obtain ⟨h1,h2,h3⟩:=rM r (10 * n+(c.toNat - 48))
     exact ⟨by simp only [List.take_succ_cons,bA,hc.1,h1,Bool.and_self],h2,by simp only [ai]; omega⟩
   · exact ⟨rfl,rfl,bJ _⟩
theorem tQ {a:Int} {r:List UInt8} (ha:pIn a=true) (hr:∀ c q,r=c::q→isD c=false):aW (Lib.itoa a++r)=(a,((Lib.itoa a).length:Int)):=by
 have hb:=eO ha
 by_cases hn:a<0
 · have e:Lib.itoa a=45::Lib.decDigits a.natAbs:=by unfold Lib.itoa; rw [if_pos hn]
   obtain ⟨i1,i2,i3,i4,_⟩:=js a.natAbs
   have h4:=i4 (by omega)
   rw [e,bt,aW,if_pos (fE _).2]
   have ed:(45::(Lib.decDigits a.natAbs++r)).drop 1=Lib.decDigits a.natAbs++r:=rfl
   rw [ed,uQ _ 0 r i1 (by rw [i3]; omega) hr,i3,iN,if_neg]
   · simp only [if_true,ai]
     congr 1
     · omega
     · omega
   · rintro (h | ⟨h,_⟩)
     · exact i2 (bj.1 h)
     · have:((45::(Lib.decDigits a.natAbs++r)).getD 1 0).toNat=((Lib.decDigits a.natAbs).getD 0 0).toNat:=by
        cases hd:Lib.decDigits a.natAbs with
        | nil=>exact absurd hd i2
        | cons x q=>rfl
       rw [this] at h; exact h4 h
 · have e:Lib.itoa a=Lib.decDigits a.toNat:=by unfold Lib.itoa; rw [if_neg hn]
   obtain ⟨i1,i2,i3,i4,i5⟩:=js a.toNat
   have hno:aS (Lib.decDigits a.toNat++r) [45]=false:=by
    cases hd:Lib.decDigits a.toNat with
    | nil=>exact absurd hd i2
    | cons x q =>
      rw [hd] at i1
      simp only [bA,af] at i1
      have:=jo i1.1
      exact (fg (q++r) (c:=x) (by rintro rfl; simp at this)).2
   rw [e,aW,if_neg (by rw [hno]; simp),uQ _ 0 r i1 (by rw [i3]; omega) hr,i3,iN,if_neg]
   · simp only [bR,if_false]
     congr 1
     · omega
     · omega
   · rintro (h | ⟨h,h2⟩)
     · exact i2 (bj.1 h)
     · have h3:((Lib.decDigits a.toNat++r).getD 0 0).toNat=((Lib.decDigits a.toNat).getD 0 0).toNat:=by
        cases hd:Lib.decDigits a.toNat with
        | nil=>exact absurd hd i2
        | cons x q=>rfl
       rw [h3] at h
       have h5:a.toNat<10:=by
        by_cases h1:1≤a.toNat
        · exact absurd h (i4 h1)
        · omega
       rcases h2 with h2 | h2
       · have:=i5 h5; omega
       · cases h2
theorem tN {s:Str} (h0:(aW s).2≠0) (hin:pIn (aW s).1=true):0≤(aW s).2∧(aW s).2≤s.length∧s.take (aW s).2.toNat=Lib.itoa (aW s).1:=by
 have fin:∀ (f:Nat) (ng:Bool) (t:Str),(ng=true→f=1)→(ng=false→f=0)→s=(if ng=true then 45::t else t)→aW s=iN s f ng (wGo 0 t)→0≤(aW s).2∧(aW s).2≤s.length∧s.take (aW s).2.toNat=Lib.itoa (aW s).1:=fun f ng t h1 h2 hs hw=>by
  have hb:=rM t 0
  have hbb:=tR t 0 (by omega)
  rw [hw] at h0 hin ⊢
  unfold iN at h0 hin ⊢
  split at h0
  · exact absurd rfl h0
  · rename_i hc
    rw [if_neg hc] at hin ⊢
    generalize (wGo 0 t).1=v at *
    generalize (wGo 0 t).2=m at *
    have hm:m≠0:=fun e=>hc (.inl e)
    have hne:t.take m≠[]:=by
     intro e
     have:=congrArg List.length e
     rw [bo,al] at this
     have h8:=hb.2.2
     omega
    have hlen:(t.take m).length=m:=by rw [bo]; omega
    have h00:(t.take m).getD 0 0=t.getD 0 0:=by
     simp only [List.getD_eq_getElem?_getD,List.getElem?_take]
     rw [if_pos (by omega)]
    have hcan:(t.take m).length=1∨((t.take m).getD 0 0).toNat≠48:=by
     by_cases h9:(s.getD f 0).toNat=48
     · left
       have:¬(1<m∨ng=true):=fun x=>hc (.inr ⟨h9,x⟩)
       have:¬1<m:=fun x=>this (.inl x)
       omega
     · right
       rw [h00]
       cases ng with
       | true=>rw [h1 rfl,hs] at h9; exact h9
       | false=>rw [h2 rfl,hs] at h9; exact h9
    have hdb:=Ib m (t.take m) hlen hb.1 hne hcan
    rw [hb.2.1] at hdb
    cases ng with
    | true =>
      have f1:=h1 rfl
      subst f1
      simp only [if_true] at hs hin ⊢
      have hv:v≠0:=by
       intro e
       subst e
       rw [Lib.decDigits_one (by omega)] at hdb
       have e2:(t.take m).getD 0 0=48:=by rw [← hdb]; rfl
       have e3:(s.getD 1 0).toNat=48:=by rw [hs]; show (t.getD 0 0).toNat=48; rw [← h00,e2]; rfl
       exact hc (.inr ⟨e3,.inr rfl⟩)
      refine ⟨by omega,by rw [hs]; simp only [ai]; omega,?_⟩
      have et:(((1+m:Nat):Int)).toNat=m+1:=by omega
      rw [et,hs,List.take_succ_cons]
      unfold Lib.itoa
      rw [if_pos (by omega),show (-(v:Int)).natAbs=v by omega,hdb]
    | false =>
      have f1:=h2 rfl
      subst f1
      simp only [bR,if_false] at hs hin ⊢
      refine ⟨by omega,by rw [hs]; omega,?_⟩
      have et:(((0+m:Nat):Int)).toNat=m:=by omega
      rw [et,hs]
      unfold Lib.itoa
      rw [if_neg (by omega),show ((v:Int)).toNat=v by omega,hdb]
 by_cases hp:aS s [45]=true
 · obtain ⟨r,hr⟩:=oj hp
   have hw:aW s=iN s 1 true (wGo 0 (s.drop 1)):=by rw [aW,if_pos hp]
   have e:s=45::s.drop 1:=by rw [hr]; rfl
   exact fin 1 true (s.drop 1) (fun _=>rfl) (fun x=>by cases x) (by simpa using e) hw
 · have hw:aW s=iN s 0 false (wGo 0 s):=by rw [aW,if_neg hp]
   exact fin 0 false s (fun x=>by cases x) (fun _=>rfl) rfl hw
theorem Jg {s:Str} {a n:Nat} (h:(decide ((a:Int)<ab s)&&decide (((s.getD a 0).toNat:Int)≥48)&&decide (((s.getD a 0).toNat:Int)≤57)&&decide ((n:Int)≤1048576))=false) (ha:a≤s.length):wGo n (s.drop a)=(n,0):=by
 have hL:ab s=(s.length:Int):=rfl
 rcases Nat.lt_or_ge a s.length with h1 | h1
 · rw [cH h1,wGo,if_neg]
   rintro ⟨h2,h3⟩
   have h4:=jo h2
   rw [decide_eq_true (by omega),decide_eq_true (by omega),decide_eq_true (by omega),decide_eq_true (by omega)] at h
   cases h
 · rw [List.drop_eq_nil_of_le h1]; rfl
abbrev zXf1:List PI:=[.code [1,1,1,1,1,1,0,0,0],.inLoop [1,1,1,1,1,1,0,0,0],.inBlock 0,.code [1,1,1,1,1,1,1]]
variable (s:Str) (f:Nat) (ng:Bool) (Γ:Ctx)
theorem Fj (hs:s.length≤1000000) (hf:f≤s.length) (a n m:Nat) (ha:a≤s.length) (hm:f+m=a) (hn:n≤10485769)
 (nx:a<s.length→10 * n+((s.getD a 0).toNat - 48)≤10485769→J Tryz.prog 127 (az Tryz.f127) Γ (Eq2 (je (iN s f ng ((wGo (10 * n+((s.getD a 0).toNat - 48)) (s.drop (a+1))).1,m+1+(wGo (10 * n+((s.getD a 0).toNat - 48)) (s.drop (a+1))).2))) []) zXf1 ({ n:=71,fr:=[(0,.p (.str s)),(2,.i 0),(3,.i 0),(4,.i (((a+1:Nat):Int))),(5,.p (.bool ng)),(6,.i (((10 * n+((s.getD a 0).toNat - 48):Nat):Int))),(7,.i ((f:Int)))],ck:=[] })) :
 J Tryz.prog 127 (az Tryz.f127) Γ (Eq2 (je (iN s f ng ((wGo n (s.drop a)).1,m+(wGo n (s.drop a)).2))) []) zXf1 ({ n:=71,fr:=[(0,.p (.str s)),(2,.i 0),(3,.i 0),(4,.i ((a:Int))),(5,.p (.bool ng)),(6,.i ((n:Int))),(7,.i ((f:Int)))],ck:=[] }):=by
 have hL:ab s=(s.length:Int):=rfl
 refine jg aV Tryz.func127 (let x1:=(↑((List.getD s a (0:UInt8)).toNat):Int); let x2:=((a:Int)<ab s); .need (decide x2=true→(0:Int)≤(a:Int)∧(a:Int)<ab s) (.need ((decide x2&&decide (x1≥48))=true→(0:Int)≤(a:Int)∧(a:Int)<ab s) (.ite (decide x2&&decide (x1≥48)&&decide (x1≤57)&&decide ((n:Int)≤1048576)) (.need ((0:Int)≤(a:Int)∧(a:Int)<ab s) (.stop zXf1 { n:=71,fr:=[(0,.p (.str s)),(2,.i 0),(3,.i 0),(4,.i (IntKind.wrap .i64 ((a:Int)+1))),(5,.p (.bool ng)),(6,.i (IntKind.wrap .i64 (IntKind.wrap .i64 ((10:Int) * (n:Int))+IntKind.wrap .i64 (IntKind.wrap .u8 (x1 - 48))))),(7,.i f)],ck:=[] })) (.need (((a:Int)==(f:Int))=false→(0:Int)≤(f:Int)∧(f:Int)<ab s) (.ite ((a:Int)==(f:Int)||(↑((List.getD s f (0:UInt8)).toNat):Int)==48&&(decide ((a:Int)>IntKind.wrap .i64 ((f:Int)+1))||ng)) (.ret (.tup [.i 0,.i 0]) []) (.ite ng (.ret (.tup [.i (IntKind.wrap .i64 ((0:Int) - (n:Int))),.i a]) []) (.ret (.tup [.i n,.i a]) []))))))) ?_
 conv=>zeta
 refine ⟨fun h=>⟨by omega,of_decide_eq_true h⟩,fun h=>?_,fun h=>?_,fun h=>?_⟩
 · rw [af] at h; exact ⟨by omega,of_decide_eq_true h.1⟩
 · simp only [af,decide_eq_true_eq] at h
   obtain ⟨⟨⟨h1,h2⟩,h3⟩,h4⟩:=h
   have hlt:a<s.length:=by omega
   have hd:isD (s.getD a 0)=true:=M3 (by omega) (by omega)
   have e8:IntKind.wrap .u8 (((s.getD a 0).toNat:Int) - 48)=(((s.getD a 0).toNat - 48:Nat):Int):=by
    show (((s.getD a 0).toNat:Int) - 48) % 256=_; omega
   have e1:IntKind.wrap .i64 (10 * (n:Int))=((10 * n:Nat):Int):=by rw [bG (by omega) (by omega)]; omega
   have e2:IntKind.wrap .i64 (((s.getD a 0).toNat - 48:Nat):Int)=(((s.getD a 0).toNat - 48:Nat):Int):=bG (by omega) (by omega)
   have e3:IntKind.wrap .i64 (((10 * n:Nat):Int)+(((s.getD a 0).toNat - 48:Nat):Int))=((10 * n+((s.getD a 0).toNat - 48):Nat):Int):=by rw [bG (by omega) (by omega)]; omega
   have ed:wGo n (s.drop a)=((wGo (10 * n+((s.getD a 0).toNat - 48)) (s.drop (a+1))).1,(wGo (10 * n+((s.getD a 0).toNat - 48)) (s.drop (a+1))).2+1):=by
    rw [cH hlt,wGo,if_pos ⟨hd,by omega⟩]
   refine ⟨⟨by omega,h1⟩,?_⟩
   rw [e8,e1,e2,e3,cU (by omega),ed]
   have h9:=nx hlt (by omega)
   rw [show m+1+(wGo (10 * n+((s.getD a 0).toNat - 48)) (s.drop (a+1))).2=m+((wGo (10 * n+((s.getD a 0).toNat - 48)) (s.drop (a+1))).2+1) by omega] at h9
   exact h9
 · rw [Jg h ha]
   have e48:(((s.getD f 0).toNat:Int)==48)=decide ((s.getD f 0).toNat=48):=by
    rw [bV]; simp; omega
   have eaf:((a:Int)==(f:Int))=decide (m=0):=by
    rw [bV]; simp; omega
   have ew:IntKind.wrap IntKind.i64 ((f:Int)+1)=(f:Int)+1:=bG (by omega) (by omega)
   refine ⟨fun h2=>?_,fun h2=>?_,fun h2=>⟨fun h3=>?_,fun h3=>?_⟩⟩
   · rw [eaf] at h2
     have:=of_decide_eq_false h2
     exact ⟨by omega,by omega⟩
   all_goals
    rw [e48,eaf,ew] at h2
   · refine ⟨?_,rfl⟩
     have:m=0∨((s.getD f 0).toNat=48∧(1<m∨ng=true)):=by
      simp only [aA,af,decide_eq_true_eq] at h2
      rcases h2 with h2 | ⟨h2,h3 | h3⟩
      · exact .inl h2
      · exact .inr ⟨h2,.inl (by omega)⟩
      · exact .inr ⟨h2,.inr h3⟩
     unfold iN
     rw [if_pos (by simpa using this)]; rfl
   all_goals
    have hc:¬(m=0∨((s.getD f 0).toNat=48∧(1<m∨ng=true))):=by
     rintro (x | ⟨x,y⟩)
     · rw [decide_eq_true x] at h2; cases h2
     · rw [decide_eq_true x] at h2
       rcases y with y | y
       · rw [decide_eq_true (show (a:Int)>(f:Int)+1 by omega)] at h2; simp at h2
       · rw [y] at h2; simp at h2
    unfold iN
    rw [if_neg (by simpa using hc)]
   · refine ⟨?_,rfl⟩
     rw [if_pos h3,bG (by omega) (by omega)]
     show SV.tup [_,_]=SV.tup [_,_]
     rw [show (0:Int) - (n:Int) = -(n:Int) by omega,show (a:Int)=((f+m:Nat):Int) by omega]; rfl
   · refine ⟨?_,rfl⟩
     rw [if_neg (by rw [h3]; simp)]
     show SV.tup [_,_]=SV.tup [_,_]
     rw [show (a:Int)=((f+m:Nat):Int) by omega]; rfl
theorem BH (hs:s.length≤1000000) (hf:f≤s.length):∀ (k a n m:Nat),s.length - a≤k→a≤s.length→f+m=a→n≤10485769 →
 J Tryz.prog 127 (az Tryz.f127) Γ (Eq2 (je (iN s f ng ((wGo n (s.drop a)).1,m+(wGo n (s.drop a)).2))) []) zXf1 ({ n:=71,fr:=[(0,.p (.str s)),(2,.i 0),(3,.i 0),(4,.i ((a:Int))),(5,.p (.bool ng)),(6,.i ((n:Int))),(7,.i ((f:Int)))],ck:=[] }):=by
 intro k
 induction k with
 | zero=>intro a n m hk ha hm hn; exact Fj s f ng Γ hs hf a n m ha hm hn (fun h=>by omega)
 | succ k ih=>intro a n m hk ha hm hn; exact Fj s f ng Γ hs hf a n m ha hm hn (fun h h2=>ih (a+1) _ (m+1) (by omega) (by omega) (by omega) h2)
theorem A0 (hs:s.length≤1000000):ak Tryz.prog 127 [.c (.pd (.str s))] [] (je (aW s)) []:=by
 have hL:ab s=(s.length:Int):=rfl
 refine dg aV Tryz.func127 (let x1:=(decide (ab s>(0:Int))&&(↑((List.getD s 0 (0:UInt8)).toNat):Int)==45); let x2:List PI:=zXf1; .need (decide (ab s>(0:Int))=true→(0:Int)≤0∧(0:Int)<ab s) (.ite x1 (.stop x2 { n:=71,fr:=[(0,.p (.str s)),(2,.i 0),(3,.i 0),(4,.i 1),(5,.p (.bool x1)),(6,.i 0),(7,.i 1)],ck:=[] }) (.stop x2 { n:=71,fr:=[(0,.p (.str s)),(2,.i 0),(3,.i 0),(4,.i 0),(5,.p (.bool x1)),(6,.i 0),(7,.i 0)],ck:=[] }))) fun Γ=>?_
 conv=>zeta
 have hg:0<s.length→(((s.getD 0 0).toNat:Int)==45)=aS s [45]:=fun h=>by
  cases s with
  | nil=>exact absurd h (by decide)
  | cons c r =>
    by_cases hc:c=45
    · subst hc; rw [(fE r).2]; rfl
    · rw [(fg r hc).2]
      rw [beq_eq_false_iff_ne]
      intro e
      have:c.toNat=(45:UInt8).toNat:=by
       have:((c::r).getD 0 0).toNat=c.toNat:=rfl
       have:(45:UInt8).toNat=45:=rfl
       omega
      exact hc (cy.1 this)
 refine ⟨fun h=>⟨by omega,of_decide_eq_true h⟩,fun h=>?_,fun h=>?_⟩
 · have h1:0<s.length:=by
    rw [af] at h; have:=of_decide_eq_true h.1; omega
   rw [af] at h
   have hp:aS s [45]=true:=by rw [← hg h1]; exact h.2
   have e:(decide (ab s>0)&&(((s.getD 0 0).toNat:Int)==45))=true:=by rw [af]; exact h
   rw [e,aW,if_pos hp]
   have:=BH s 1 true Γ hs (by omega) s.length 1 0 0 (by omega) (by omega) rfl (by omega)
   rw [bE] at this
   exact this
 · have hp:¬aS s [45]=true:=fun x=>by
    have h1:0<s.length:=by cases s with | nil=>cases x | cons _ _=>simp
    rw [hg h1,x,decide_eq_true (by omega)] at h; cases h
   rw [h,aW,if_neg hp]
   have:=BH s 0 false Γ hs (by omega) s.length 0 0 0 (by omega) (by omega) rfl (by omega)
   rw [bE] at this
   exact this
end Go.Proofs.YtpfidgnkokidoaaGreatDoor
