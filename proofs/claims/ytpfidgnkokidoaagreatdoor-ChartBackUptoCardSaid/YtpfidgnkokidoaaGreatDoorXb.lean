/- Contracts: points told and read. Conditions: texts that are ASCII. Contracts: the program's reader of charts: points' lines. Conditions: sizes. Contracts: the kinds of lines, a map. Conditions: none. -/
import Derived.Test.YtpfidgnkokidoaaGreatDoorWd
import Derived.Test.YtpfidgnkokidoaaGreatDoorJp
import Derived.Test.YtpfidgnkokidoaaGreatDoorWh
import Derived.Test.YtpfidgnkokidoaaGreatDoorDa
import Derived.Test.YtpfidgnkokidoaaGreatDoorVc
namespace Go.Proofs.YtpfidgnkokidoaaGreatDoor
open Go Go.Ev
set_option maxRecDepth 100000
/-! ### the program's -/
abbrev zJ80Xd:=J Tryz.prog 80 (aI Tryz.f80)
theorem sU {p:Nat×Nat} : -1048576≤cP p∧cP p≤1048576:=by
 unfold cP; split
 · rename_i h; exact fw (uP h).2.2.1
 · omega
theorem tm {p:Nat×Nat} : -1048576≤cR p∧cR p≤1048576:=by
 unfold cR; split
 · rename_i h; exact fw (uP h).2.2.2
 · omega
def Ik:Cfg:=⟨bx,[ox,eFi]⟩
theorem HQ:ai Tryz.prog Ik.tab:=(ai.cons qT (ai.cons HV ai.nil))
theorem KK (p:Nat×Nat) (h:eE p=true):ak Tryz.prog 57 [.c (.pd (.cx (some p)))] [] (.tup [.s (db (cP p) (cR p)),.i 0]) []:=by
 refine dg HQ Tryz.func57 (let x1:=((-9223372036854775808:Int)≤cP p∧cP p≤(9223372036854775807:Int)); let x2:=((-9223372036854775808:Int)≤cR p∧cR p≤(9223372036854775807:Int)); .ite (lf p != (0:Int)) (.ret (.tup [.p (.str []),.i (lf p)]) []) (.ite (decide (cR p<(0:Int))) (.need x1 (.need ((Lib.itoa (cP p)).length+0≤9223372036854775807) (.need x2 (.need ((Lib.itoa (cP p)++[]).length+(Lib.itoa (cR p)).length≤9223372036854775807) (.need ((Lib.itoa (cP p)++[]++Lib.itoa (cR p)).length+1≤9223372036854775807) (.ret (.tup [.p (.str (Lib.itoa (cP p)++[]++Lib.itoa (cR p)++[(105:UInt8)])),.i 0]) [])))))) (.need x1 (.need ((Lib.itoa (cP p)).length+1≤9223372036854775807) (.need x2 (.need ((Lib.itoa (cP p)++[(43:UInt8)]).length+(Lib.itoa (cR p)).length≤9223372036854775807) (.need ((Lib.itoa (cP p)++[(43:UInt8)]++Lib.itoa (cR p)).length+1≤9223372036854775807) (.ret (.tup [.p (.str (Lib.itoa (cP p)++[(43:UInt8)]++Lib.itoa (cR p)++[(105:UInt8)])),.i 0]) [])))))))) fun Γ=>?_
 conv=>zeta
 have hA:=sU (p:=p)
 have hB:=tm (p:=p)
 have hE:lf p=0:=by unfold lf; rw [if_pos h]
 have pa:pIn (cP p)=true:=by simp only [pIn,ab,decide_eq_true_eq]; exact hA
 have pb:pIn (cR p)=true:=by simp only [pIn,ab,decide_eq_true_eq]; exact hB
 have lA:=(hP pa).1
 have lB:=(hP pb).1
 rw [hE]
 refine ⟨fun h=>Bool.noConfusion h,fun _=>⟨fun h=>?_,fun h=>?_⟩⟩
 · have h':=of_decide_eq_true h
   refine ⟨⟨by omega,by omega⟩,by omega,⟨by omega,by omega⟩,by simp only [ag,aj]; omega,by simp only [ag,aj]; omega,?_,rfl⟩
   unfold db; rw [if_pos h']
 · have h':=of_decide_eq_false h
   refine ⟨⟨by omega,by omega⟩,by omega,⟨by omega,by omega⟩,by simp only [ag,ah,aj]; omega,by simp only [ag,ah,aj]; omega,?_,rfl⟩
   unfold db; rw [if_neg h']
def BI:Ent:=(57,fun
 | [.c (.pd (.cx (some p)))],[]=>some (some (eE p=true),.tup [.c (.pd (.str (db (cP p) (cR p)))),.c (.pd (.int .i64 0))],[])
 | _,_=>none)
theorem De:EntOk Tryz.prog BI:=entOk fun vs ck=>by
 unfold BI; dsimp only; split
 · rename_i p; exact entS fun hp=>KK p hp
 · exact entN
def ng:Cfg:=⟨bx,[yZ,qF,uH,rh,BI]⟩
theorem j2:ai Tryz.prog ng.tab:=(ai.cons Kl (ai.cons yd (ai.cons GZ (ai.cons xe (ai.cons De ai.nil)))))
variable {a b:Int} (s:Str)
theorem kq (ha:pIn a=true) (hb:pIn b=true):eE (bY a b)=true∧cP (bY a b)=a∧cR (bY a b)=b∧lf (bY a b)=0:=by
 have h1:=fw ha; have h2:=fw hb
 have e:bY a b=(num a,num b):=by unfold bY; rw [ha,hb]; rfl
 have hp:=Nr (a:=a) (b:=b) (by omega) (by omega)
 have hr:eE (num a,num b)=true:=by rw [ym hp,ha,hb]; rfl
 rw [e]
 refine ⟨hr,?_,?_,?_⟩
 · unfold cP; rw [if_pos hr]; exact tE hp.1
 · unfold cR; rw [if_pos hr]; exact tE hp.2
 · unfold lf; rw [if_pos hr]
theorem xi (h:(pIn a&&pIn b)=false):bY a b=(0,0)∧jV a b=5:=by
 unfold bY jV; rw [h]; exact ⟨rfl,rfl⟩
theorem MX (ha:pIn a=true) (hb:pIn b=true):jV a b=0:=by unfold jV; rw [ha,hb]; rfl
def vG:Cfg:=⟨bx,[ou]⟩
theorem qp:ai Tryz.prog vG.tab:=(ai.cons vS ai.nil)
def vT:Cfg:=⟨bx,[oF]⟩
theorem qD:ai Tryz.prog vT.tab:=(ai.cons uM ai.nil)
theorem Fa:eE (0,0)=true:=by rw [ym (p:=(0,0)) ⟨A1,A1⟩]; decide
theorem vH (a b:Int):eE (bY a b)=true:=by
 cases h:(pIn a&&pIn b)
 · rw [(xi h).1]; exact Fa
 · rw [ab] at h; exact (kq h.1 h.2).1
def PrQ:Out:=fun v k=>(fB s→v = .tup [.c (.pd (.cx (some (bY (ptA s) (ptB s))))),.i 0])∧(¬fB s→v = .tup [.c (.pd (.cx (some (0,0)))),.i 1])∧k=[]
theorem PrQ.no {s:Str} (h:¬fB s):PrQ s (.tup [.c (.pd (.cx (some (0,0)))),.i 1]) []:=⟨fun h'=>absurd h' h,fun _=>rfl,rfl⟩
theorem PrQ.yes {s:Str} {a b:Int} (h:oW s (a,b)):PrQ s (.tup [.c (.pd (.cx (some (bY a b)))),.i 0]) []:=by
 have hr:fB s:=⟨(a,b),h⟩
 obtain ⟨g1,g2,g3⟩:=kA hr
 obtain ⟨k1,k2,k3⟩:=h
 have:=qz g1 g2 k1 k2 (g3.trans k3.symm)
 have t1:ptA s=a:=this.1
 have t2:ptB s=b:=this.2
 exact ⟨fun _=>by rw [t1,t2],fun h'=>absurd hr h',rfl⟩
theorem It {s:Str} {k:Int}:(aC s none (some k)).2=s.take k.toNat:=by simp [aC]
theorem tc {s:Str} {k:Int}:(aC s (some k) none).2=s.drop k.toNat:=by simp [aC]
abbrev zXd1:List PI:=[.ops [1,1,1,1,0] 6,.code [1,1,1,1,1]]
theorem C2 (hs:s.length≤1000000) (ha:s.all (fun c=>decide (c.toNat<128))=true) (Γ:Ctx):zJ80Xd Γ (PrQ s) [.code []] (cN Tryz.f80.ntmps [.s s] []):=by
 refine jg j2 Tryz.func80 (.need (s.length≤9223372036854775807∧(List.all s fun c=>decide (UInt8.toNat c<128))=true) (.ite (decide (aK s<(1:Int))||decide (af s>(20:Int))) (.ret (.tup [.p (.cx (some (0,0))),.i 1]) []) (.need ((0:Int)≤aK s∧aK s≤(s.length:Int)) (.stop [.ops [1,1,1,0] 3,.code [1,1,1,1]] { n:=67,fr:=[(0,.p (.str s)),(2,.p (.cx (some (0,0)))),(3,.i 0),(4,.i (aK s)),(25,.p (.str ((aC s none (some (aK s))).2)))],ck:=[] })))) ?_
 have hL:af s=(s.length:Int):=rfl
 have hb:=qa s s.length
 have hb1 : -1≤aK s∧aK s<s.length:=hb
 have facts:∀ a b:Int,oW s (a,b)→aK s=((Lib.itoa a).length:Int)∧s.length≤20∧0<(Lib.itoa a).length∧(aC s none (some (aK s))).2=Lib.itoa a∧(Lib.trimPrefix (Lib.trimSuffix (Prod.snd (aC s (some (aK s)) none)) [(105:UInt8)]) [(43:UInt8)])=Lib.itoa b:=fun a b h=>by
  obtain ⟨f1,f2,f3,f4,f5⟩:=nJ h
  refine ⟨f1,f2,f3,?_,?_⟩
  · rw [It,f1,bj]; exact f4
  · rw [tc,f1,bj]; exact f5
 refine ⟨⟨by omega,ha⟩,fun h=>PrQ.no ?_,fun h=>⟨?_,?_⟩⟩
 · rintro ⟨⟨a,b⟩,hp⟩
   obtain ⟨f1,f2,f3,_⟩:=facts a b hp
   rw [aH] at h
   rcases h with h | h
   · have:=of_decide_eq_true h; omega
   · have:=of_decide_eq_true h; omega
 · rw [aJ] at h
   have:=of_decide_eq_false h.1
   omega
 · rw [aJ] at h
   have hk1:=of_decide_eq_false h.1
   have hk2:=of_decide_eq_false h.2
   have lX:(aC s none (some (aK s))).2.length≤281474976710656:=by rw [It,bw]; omega
   have lY:(Lib.trimPrefix (Lib.trimSuffix (Prod.snd (aC s (some (aK s)) none)) [(105:UInt8)]) [(43:UInt8)]).length≤281474976710656:=by
    have h1:∀ (a p:Str),(Lib.trimPrefix a p).length≤a.length:=fun a p=>by unfold Lib.trimPrefix; split; rw [bH]; omega; exact av _
    have h2:∀ (a p:Str),(Lib.trimSuffix a p).length≤a.length:=fun a p=>by unfold Lib.trimSuffix; split; rw [bw]; omega; exact av _
    have h3:=h1 (Lib.trimSuffix (Prod.snd (aC s (some (aK s)) none)) [(105:UInt8)]) [(43:UInt8)]
    have h4:=h2 (Prod.snd (aC s (some (aK s)) none)) [(105:UInt8)]
    have h5:(Prod.snd (aC s (some (aK s)) none)).length≤s.length:=by rw [tc,bH]; omega
    omega
   have ld:(Prod.snd (aC s (some (aK s)) none)).length≤9223372036854775807:=by rw [tc,bH]; omega
   have pokX:dv (aC s none (some (aK s))).2=false→¬fB s:=fun hp=>by
    rintro ⟨⟨a,b⟩,q⟩
    obtain ⟨_,_,_,f4,_⟩:=facts a b q
    rw [f4,(gT (n:=a) (by have:=fw q.1; omega) (by have:=fw q.1; omega)).1] at hp; cases hp
   have pokY:dv (Lib.trimPrefix (Lib.trimSuffix (Prod.snd (aC s (some (aK s)) none)) [(105:UInt8)]) [(43:UInt8)])=false→¬fB s:=fun hp=>by
    rintro ⟨⟨a,b⟩,q⟩
    obtain ⟨_,_,_,_,f5⟩:=facts a b q
    rw [f5,(gT (n:=b) (by have:=fw q.2.1; omega) (by have:=fw q.2.1; omega)).1] at hp; cases hp
   cases hX:dv (aC s none (some (aK s))).2
   · have hno:=pokX hX
     have h0:zJ80Xd Γ (PrQ s) [.ops [1,1,1,0] 4,.code [1,1,1,1]] ({ n:=67,fr:=[(0,.p (.str s)),(2,.p (.cx (some (0,0)))),(3,.i 0),(4,.i (aK s)),(25,.p (.str ((aC s none (some (aK s))).2))),(26,.tup [.i (aU (aC s none (some (aK s))).2),.c (.pd .err)])],ck:=[] }):=by
      refine jg j2 Tryz.func80 (.need ((0:Int)≤aK s∧aK s≤(s.length:Int)) (.need (((aC s (some (aK s)) none).2).length≤9223372036854775807) (.stop [.ops [1,1,1,1,0] 5,.code [1,1,1,1,1]] { n:=67,fr:=[(0,.p (.str s)),(2,.p (.cx (some (0,0)))),(3,.i 0),(5,.i (aU ((aC s none (some (aK s))).2))),(6,.x (.c (.pd .err))),(34,.p (.str (Lib.trimPrefix (Lib.trimSuffix ((aC s (some (aK s)) none).2) [(105:UInt8)]) [(43:UInt8)])))],ck:=[] }))) ?_
      refine ⟨⟨by omega,by omega⟩,ld,?_⟩
      cases hY:dv (Lib.trimPrefix (Lib.trimSuffix (Prod.snd (aC s (some (aK s)) none)) [(105:UInt8)]) [(43:UInt8)])
      · have hz:zJ80Xd Γ (PrQ s) zXd1 ({ n:=67,fr:=[(0,.p (.str s)),(2,.p (.cx (some (0,0)))),(3,.i 0),(5,.i (aU ((aC s none (some (aK s))).2))),(6,.x (.c (.pd .err))),(34,.p (.str (Lib.trimPrefix (Lib.trimSuffix ((aC s (some (aK s)) none).2) [(105:UInt8)]) [(43:UInt8)]))),(35,.tup [.i (aU (Lib.trimPrefix (Lib.trimSuffix ((aC s (some (aK s)) none).2) [(105:UInt8)]) [(43:UInt8)])),.c (.pd .err)])],ck:=[] }):=by
         refine jg j2 Tryz.func80 (let x3:=(aU ((aC s none (some (aK s))).2)); let x2:=(aU (Lib.trimPrefix (Lib.trimSuffix ((aC s (some (aK s)) none).2) [(105:UInt8)]) [(43:UInt8)])); let x1:=(bY x3 x2); let x4:Tree:=(.ret (.tup [.p (.cx (some (0,0))),.i 1]) []); .ite true x4 (.need (eE x1=true) (.ite (jV x3 x2 != (0:Int)||(0:Int) != 0 || !db (cP x1) (cR x1)==s) x4 (.ret (.tup [.p (.cx (some x1)),.i 0]) [])))) ?_
         conv=>zeta
         exact ⟨fun _=>PrQ.no hno,fun x=>Bool.noConfusion x⟩
        exact J.step (cfg:=vT) qD (q:=some (_∧_)) (by kernel_rfl) ⟨lY,hY⟩ hz
      · have hz:zJ80Xd Γ (PrQ s) zXd1 ({ n:=67,fr:=[(0,.p (.str s)),(2,.p (.cx (some (0,0)))),(3,.i 0),(5,.i (aU ((aC s none (some (aK s))).2))),(6,.x (.c (.pd .err))),(34,.p (.str (Lib.trimPrefix (Lib.trimSuffix ((aC s (some (aK s)) none).2) [(105:UInt8)]) [(43:UInt8)]))),(35,.tup [.i (aU (Lib.trimPrefix (Lib.trimSuffix ((aC s (some (aK s)) none).2) [(105:UInt8)]) [(43:UInt8)])),.p (.v Value.nilIface)])],ck:=[] }):=by
         refine jg j2 Tryz.func80 (let x3:=(aU ((aC s none (some (aK s))).2)); let x2:=(aU (Lib.trimPrefix (Lib.trimSuffix ((aC s (some (aK s)) none).2) [(105:UInt8)]) [(43:UInt8)])); let x1:=(bY x3 x2); let x4:Tree:=(.ret (.tup [.p (.cx (some (0,0))),.i 1]) []); .ite true x4 (.need (eE x1=true) (.ite (jV x3 x2 != (0:Int)||(0:Int) != 0 || !db (cP x1) (cR x1)==s) x4 (.ret (.tup [.p (.cx (some x1)),.i 0]) [])))) ?_
         conv=>zeta
         exact ⟨fun _=>PrQ.no hno,fun x=>Bool.noConfusion x⟩
        exact J.step (cfg:=vG) qp (q:=some (_∧_)) (by kernel_rfl) ⟨lY,hY⟩ hz
     exact J.step (cfg:=vT) qD (q:=some (_∧_)) (by kernel_rfl) ⟨lX,hX⟩ h0
   · have h0 : zJ80Xd Γ (PrQ s) [.ops [1,1,1,0] 4,.code [1,1,1,1]] ({ n:=67,fr:=[(0,.p (.str s)),(2,.p (.cx (some (0,0)))),(3,.i 0),(4,.i (aK s)),(25,.p (.str ((aC s none (some (aK s))).2))),(26,.tup [.i (aU (aC s none (some (aK s))).2),.p (.v Value.nilIface)])],ck:=[] }):=by
      refine jg j2 Tryz.func80 (.need ((0:Int)≤aK s∧aK s≤(s.length:Int)) (.need (((aC s (some (aK s)) none).2).length≤9223372036854775807) (.stop [.ops [1,1,1,1,0] 5,.code [1,1,1,1,1]] { n:=67,fr:=[(0,.p (.str s)),(2,.p (.cx (some (0,0)))),(3,.i 0),(5,.i (aU ((aC s none (some (aK s))).2))),(6,.p (.v Value.nilIface)),(34,.p (.str (Lib.trimPrefix (Lib.trimSuffix ((aC s (some (aK s)) none).2) [(105:UInt8)]) [(43:UInt8)])))],ck:=[] }))) ?_
      refine ⟨⟨by omega,by omega⟩,ld,?_⟩
      cases hY:dv (Lib.trimPrefix (Lib.trimSuffix (Prod.snd (aC s (some (aK s)) none)) [(105:UInt8)]) [(43:UInt8)])
      · have hno:=pokY hY
        have hz:zJ80Xd Γ (PrQ s) zXd1 ({ n:=67,fr:=[(0,.p (.str s)),(2,.p (.cx (some (0,0)))),(3,.i 0),(5,.i (aU ((aC s none (some (aK s))).2))),(6,.p (.v Value.nilIface)),(34,.p (.str (Lib.trimPrefix (Lib.trimSuffix ((aC s (some (aK s)) none).2) [(105:UInt8)]) [(43:UInt8)]))),(35,.tup [.i (aU (Lib.trimPrefix (Lib.trimSuffix ((aC s (some (aK s)) none).2) [(105:UInt8)]) [(43:UInt8)])),.c (.pd .err)])],ck:=[] }):=by
         refine jg j2 Tryz.func80 (let x3:=(aU ((aC s none (some (aK s))).2)); let x2:=(aU (Lib.trimPrefix (Lib.trimSuffix ((aC s (some (aK s)) none).2) [(105:UInt8)]) [(43:UInt8)])); let x1:=(bY x3 x2); let x4:Tree:=(.ret (.tup [.p (.cx (some (0,0))),.i 1]) []); .ite true x4 (.need (eE x1=true) (.ite (jV x3 x2 != (0:Int)||(0:Int) != 0 || !db (cP x1) (cR x1)==s) x4 (.ret (.tup [.p (.cx (some x1)),.i 0]) [])))) ?_
         conv=>zeta
         exact ⟨fun _=>PrQ.no hno,fun x=>Bool.noConfusion x⟩
        exact J.step (cfg:=vT) qD (q:=some (_∧_)) (by kernel_rfl) ⟨lY,hY⟩ hz
      · have hz:zJ80Xd Γ (PrQ s) zXd1 ({ n:=67,fr:=[(0,.p (.str s)),(2,.p (.cx (some (0,0)))),(3,.i 0),(5,.i (aU ((aC s none (some (aK s))).2))),(6,.p (.v Value.nilIface)),(34,.p (.str (Lib.trimPrefix (Lib.trimSuffix ((aC s (some (aK s)) none).2) [(105:UInt8)]) [(43:UInt8)]))),(35,.tup [.i (aU (Lib.trimPrefix (Lib.trimSuffix ((aC s (some (aK s)) none).2) [(105:UInt8)]) [(43:UInt8)])),.p (.v Value.nilIface)])],ck:=[] }):=by
         refine jg j2 Tryz.func80 (let x3:=(aU ((aC s none (some (aK s))).2)); let x2:=(aU (Lib.trimPrefix (Lib.trimSuffix ((aC s (some (aK s)) none).2) [(105:UInt8)]) [(43:UInt8)])); let x1:=(bY x3 x2); let x4:Tree:=(.ret (.tup [.p (.cx (some (0,0))),.i 1]) []); .ite false x4 (.need (eE x1=true) (.ite (jV x3 x2 != (0:Int)||(0:Int) != 0 || !db (cP x1) (cR x1)==s) x4 (.ret (.tup [.p (.cx (some x1)),.i 0]) [])))) ?_
         conv=>zeta
         have of_pt:∀ a b:Int,oW s (a,b)→aU (aC s none (some (aK s))).2=a∧aU (Lib.trimPrefix (Lib.trimSuffix (Prod.snd (aC s (some (aK s)) none)) [(105:UInt8)]) [(43:UInt8)])=b:=fun a b q=>by
          obtain ⟨_,_,_,f4,f5⟩:=facts a b q
          rw [f4,f5]
          exact ⟨(gT (n:=a) (by have:=fw q.1; omega) (by have:=fw q.1; omega)).2,(gT (n:=b) (by have:=fw q.2.1; omega) (by have:=fw q.2.1; omega)).2⟩
         generalize aU (aC s none (some (aK s))).2=a at of_pt ⊢
         generalize aU (Lib.trimPrefix (Lib.trimSuffix (Prod.snd (aC s (some (aK s)) none)) [(105:UInt8)]) [(43:UInt8)])=b at of_pt ⊢
         refine ⟨fun x=>Bool.noConfusion x,fun _=>⟨vH a b,fun hb=>PrQ.no ?_,fun hb=>PrQ.yes ?_⟩⟩
         · rintro ⟨⟨x,y⟩,q⟩
           obtain ⟨rfl,rfl⟩:=of_pt x y q
           obtain ⟨m1,m2,m3,m4⟩:=kq q.1 q.2.1
           rw [MX q.1 q.2.1,m2,m3] at hb
           have e:db a b=s:=q.2.2
           rw [e] at hb
           simp at hb
         · simp only [aJ,bne_eq_false_iff_eq,cI] at hb
           cases hin:(pIn a&&pIn b)
           · rw [(xi hin).2] at hb; exact absurd hb.1.1 (by decide)
           · rw [ab] at hin
             obtain ⟨m1,m2,m3,m4⟩:=kq hin.1 hin.2
             rw [m2,m3] at hb
             exact ⟨hin.1,hin.2,eq_of_beq hb.2⟩
        exact J.step (cfg:=vG) qp (q:=some (_∧_)) (by kernel_rfl) ⟨lY,hY⟩ hz
     exact J.step (cfg:=vG) qp (q:=some (_∧_)) (by kernel_rfl) ⟨lX,hX⟩ h0
theorem KX (hs:s.length≤1000000) (ha:s.all (fun c=>decide (c.toNat<128))=true) (h:fB s):ak Tryz.prog 80 [.s s] [] (.tup [.c (.pd (.cx (some (bY (ptA s) (ptB s))))),.i 0]) [] :=
 ak.of Tryz.func80 (by kernel_rfl) (by kernel_rfl) fun Γ=>J.mono (fun v k q=>⟨q.1 h,q.2.2⟩) (C2 s hs ha Γ)
theorem Ki (hs:s.length≤1000000) (ha:s.all (fun c=>decide (c.toNat<128))=true) (h:¬fB s):ak Tryz.prog 80 [.s s] [] (.tup [.c (.pd (.cx (some (0,0)))),.i 1]) [] :=
 ak.of Tryz.func80 (by kernel_rfl) (by kernel_rfl) fun Γ=>J.mono (fun v k q=>⟨q.2.1 h,q.2.2⟩) (C2 s hs ha Γ)
noncomputable def yA:Ent:=(80,fun
 | [.c (.pd (.str s))],[]=>some (some (s.length≤1000000∧s.all (fun c=>decide (c.toNat<128))=true∧fB s),.tup [.c (.pd (.cx (some (bY (ptA s) (ptB s))))),.c (.pd (.int .i64 0))],[])
 | _,_=>none)
theorem Lj:EntOk Tryz.prog yA:=entOk fun vs ck=>by
 unfold yA; dsimp only; split
 · rename_i s; exact entS fun hp=>KX s hp.1 hp.2.1 hp.2.2
 · exact entN
noncomputable def Ab:Ent:=(80,fun
 | [.c (.pd (.str s))],[]=>some (some (s.length≤1000000∧s.all (fun c=>decide (c.toNat<128))=true∧¬fB s),.tup [.c (.pd (.cx (some (0,0)))),.c (.pd (.int .i64 1))],[])
 | _,_=>none)
theorem JC:EntOk Tryz.prog Ab:=entOk fun vs ck=>by
 unfold Ab; dsimp only; split
 · rename_i s; exact entS fun hp=>Ki s hp.1 hp.2.1 hp.2.2
 · exact entN
end Go.Proofs.YtpfidgnkokidoaaGreatDoor
namespace Go.Proofs.YtpfidgnkokidoaaGreatDoor
open Go Go.Ev
set_option maxRecDepth 100000
noncomputable def GI:Cfg:=⟨bx,[oP,yA,ox,wY]⟩
theorem Il:ai Tryz.prog GI.tab:=(ai.cons pw (ai.cons Lj (ai.cons qT (ai.cons wu ai.nil))))
noncomputable def Iv:Cfg:=⟨bx,[oP,Ab,ox,wY]⟩
theorem Hk:ai Tryz.prog Iv.tab:=(ai.cons pw (ai.cons JC (ai.cons qT (ai.cons wu ai.nil))))
abbrev zWq1 (a:Chart) (b:Int):List Chunk:=[.cells [.pd (.str a.name),.own 1,.own 2,.own 3,.own 4,.i b] 45,.own 9 .str a.events,.own 61 .var a.vars,.own 64 .stat a.states,.own 68 .tran a.trans]
variable (c:Chart) (d:Int) (w:List Str)
theorem LV (hf:Fit c 6001) (hw:okW w) (Γ:Ctx):J Tryz.prog 37 (aI Tryz.f37) Γ (bM (jj c d w) d) [.code []] (cN Tryz.f37.ntmps [.c (.loc 0 0),.l .str w] (rdK c d)):=by
 have he:=hf.vars
 have e3:ETy.get .str w 3=an w 3:=rfl
 by_cases hr:fB (an w 3)
 · refine jg Il Tryz.func37 (let x2:=((aC w (some (1:Int)) none).2); let x3:=(bY (ptA (ETy.get .str w 3)) (ptB (ETy.get .str w 3))); let x1:Var:={ name:=ETy.get .str w 0,kind:=(3:Int),lo:=(bg (an x2 0)).1,hi:=(bg (an x2 1)).1,init:={ kind:=(3:Int),a:=cP x3,b:=cR x3 } }; .need ((1:Int)≤4) (.ite (!eK c d w (4:Int)) (.ret (.p (.bool false)) (zWq1 c d)) (.need (inRg 0 w.length) (.need (inRg 3 w.length) (.need ((ETy.get .str w 3).length≤1000000∧(List.all (ETy.get .str w 3) fun c=>decide (UInt8.toNat c<128))=true∧fB (ETy.get .str w 3)) (.need ((0:Int)≤1∧(1:Int)≤(w.length:Int)) (.need (2≤x2.length∧okW x2) (.need (room (List.length (c.vars++[x1])) 64) (.ret (.p (.bool ((bg (an x2 0)).2==(0:Int)&&(bg (an x2 1)).2==(0:Int)&&(0:Int)==0))) [.cells [.pd (.str c.name),.own 1,.own 5,.own 3,.own 4,.i d] 45,.own 9 .str c.events,.dead,.own 64 .stat c.states,.own 68 .tran c.trans,.own 61 .var (c.vars++[x1])]))))))))) ?_
   conv=>zeta
   refine ⟨by omega,fun h=>?_,fun h=>?_⟩
   · refine bM.no (iF ?_)
     rintro ⟨g,_⟩
     rw [show eK c d w 4=true from g] at h; cases h
   · have g:eK c d w 4=true:=nf h
     obtain ⟨_,_,hn,_⟩:=gK (n:=4) g
     obtain ⟨l3,a3⟩:=hw.at (k:=3) (by omega)
     obtain ⟨q1,q2,q3⟩:=kA hr
     obtain ⟨_,m2,m3,_⟩:=kq q1 q2
     have m2':cP (bY (ptA (an w 3)) (ptB (an w 3)))=ptA (an w 3):=m2
     have m3':cR (bY (ptA (an w 3)) (ptB (an w 3)))=ptB (an w 3):=m3
     rw [jA,rN,rN,e3,m2',m3']
     refine ⟨⟨by omega,by omega⟩,⟨by omega,by omega⟩,⟨by omega,a3,hr⟩,⟨by omega,by omega⟩,⟨by rw [bH]; omega,hw.drop 1⟩,ry (by simp only [ag,ah,aj]; omega),?_⟩
     rw [Bv]
     by_cases hk:(bg (an w 1)).2=0∧(bg (an w 2)).2=0∧(0:Int)=0
     · rw [decide_eq_true hk]
       exact bM.yes (if_pos ⟨g,hk.1,hk.2.1,hr⟩) (IsR.of2 rfl)
     · rw [decide_eq_false hk]
       exact bM.no (iF fun x=>hk ⟨x.2.1,x.2.2.1,rfl⟩)
 · have hno:jj c d w=none:=iF fun x=>hr x.2.2.2
   refine jg Hk Tryz.func37 (let x2:=((aC w (some (1:Int)) none).2); let x1:Var:={ name:=ETy.get .str w 0,kind:=(3:Int),lo:=(bg (an x2 0)).1,hi:=(bg (an x2 1)).1,init:={ kind:=(3:Int),a:=cP (0,0),b:=cR (0,0) } }; .need ((1:Int)≤4) (.ite (!eK c d w (4:Int)) (.ret (.p (.bool false)) (zWq1 c d)) (.need (inRg 0 w.length) (.need (inRg 3 w.length) (.need ((ETy.get .str w 3).length≤1000000∧(List.all (ETy.get .str w 3) fun c=>decide (UInt8.toNat c<128))=true∧¬fB (ETy.get .str w 3)) (.need ((0:Int)≤1∧(1:Int)≤(w.length:Int)) (.need (2≤x2.length∧okW x2) (.need (room (List.length (c.vars++[x1])) 64) (.ret (.p (.bool ((bg (an x2 0)).2==(0:Int)&&(bg (an x2 1)).2==(0:Int)&&(1:Int)==0))) [.cells [.pd (.str c.name),.own 1,.own 5,.own 3,.own 4,.i d] 45,.own 9 .str c.events,.dead,.own 64 .stat c.states,.own 68 .tran c.trans,.own 61 .var (c.vars++[x1])]))))))))) ?_
   conv=>zeta
   refine ⟨by omega,fun h=>bM.no hno,fun h=>?_⟩
   have g:eK c d w 4=true:=nf h
   obtain ⟨_,_,hn,_⟩:=gK (n:=4) g
   obtain ⟨l3,a3⟩:=hw.at (k:=3) (by omega)
   refine ⟨⟨by omega,by omega⟩,⟨by omega,by omega⟩,⟨by rw [e3]; omega,a3,hr⟩,⟨by omega,by omega⟩,⟨by rw [jA,bH]; omega,by rw [jA]; exact hw.drop 1⟩,ry (by simp only [ag,ah,aj]; omega),?_⟩
   have e1:((1:Int)==0)=false:=by decide
   rw [e1,bB]
   exact bM.no hno
theorem Oi (hf:Fit c 6001) (hw:okW w) (h:(jj c d w).isSome=true):ak Tryz.prog 37 [.c (.loc 0 0),.l .str w] (rdK c d) (.x (.b true)) (ckR (got (jj c d w)) d) :=
 step_ok Tryz.func37 (by kernel_rfl) (by kernel_rfl) rfl (LV c d w hf hw) h
theorem O9 (hf:Fit c 6001) (hw:okW w) (h:(jj c d w).isSome=false):ak Tryz.prog 37 [.c (.loc 0 0),.l .str w] (rdK c d) (.x (.b false)) [.dead,.dead,.dead,.dead,.dead] :=
 kO Tryz.func37 (by kernel_rfl) (by kernel_rfl) (LV c d w hf hw) h
end Go.Proofs.YtpfidgnkokidoaaGreatDoor
namespace Go.Proofs.YtpfidgnkokidoaaGreatDoor
open Go Go.Ev
set_option maxRecDepth 100000
def cU:List (Str×Nat):=[([101,118,101,110,116],34),([105,110,116],35),([98,111,111,108],36),([112,111,105,110,116],37),([98,97,115,105,99],38),([98,111,116,104],39),([102,105,110,97,108],40),([111,110,101],41),([115,104,97,108,108,111,119],42),([100,101,101,112],43),([101,110,116,114,121],44),([101,120,105,116],45),([111,110],46)]
theorem FB:ak Tryz.prog 16 [] [] (.x (.p (.tbl cU))) []:=by
 refine dg bG Tryz.func16 (.stop [.ops [1,0] 0,.code [1,1]] { n:=3,fr:=[(0,.p (.v (Value.map none)))],ck:=[] }) fun Γ=>?_
 refine J.makeTbl (d:=1) (n:=13) (l:=cU.map fun p=>(bs p.1,p.2)) (by kernel_rfl) ?_
 have e:keyed (cU.map fun p=>(bs p.1,p.2))=cU:=by decide
 rw [e]
 refine jg bG Tryz.func16 (.ret (.p (PD.tbl [([(101:UInt8),118,101,110,116],34),([(105:UInt8),110,116],35),([(98:UInt8),111,111,108],36),([(112:UInt8),111,105,110,116],37),([(98:UInt8),97,115,105,99],38),([(98:UInt8),111,116,104],39),([(102:UInt8),105,110,97,108],40),([(111:UInt8),110,101],41),([(115:UInt8),104,97,108,108,111,119],42),([(100:UInt8),101,101,112],43),([(101:UInt8),110,116,114,121],44),([(101:UInt8),120,105,116],45),([(111:UInt8),110],46)])) []) ?_
 exact ⟨rfl,rfl⟩
def vp:Ent:=(16,fun
 | [],[]=>some (none,.x (.c (.pd (.tbl cU))),[])
 | _,_=>none)
theorem Hl:EntOk Tryz.prog vp:=entOk fun vs ck=>by
 unfold vp; dsimp only; split
 · exact entS fun hp=>FB
 · exact entN
end Go.Proofs.YtpfidgnkokidoaaGreatDoor
