/- Contracts: points told and read. Conditions: texts that are ASCII. Contracts: the program's reader of charts: points' lines. Conditions: sizes. Contracts: the kinds of lines, a map. Conditions: none. -/
import Derived.Test.YtpfidgnkokidoaaGreatDoorWd
import Derived.Test.YtpfidgnkokidoaaGreatDoorJp
import Derived.Test.YtpfidgnkokidoaaGreatDoorWh
import Derived.Test.YtpfidgnkokidoaaGreatDoorDa
import Derived.Test.YtpfidgnkokidoaaGreatDoorVc
namespace Go.Proofs.YtpfidgnkokidoaaGreatDoor
open Go Go.Ev
set_option maxRecDepth 100000
/-! ### the program's -/
abbrev zJ80Xd:=J Tryz.prog 80 (aH Tryz.f80)
theorem tc {p:Nat×Nat} : -1048576≤cP p∧cP p≤1048576:=by
 unfold cP; split
 · rename_i h; exact fu (vT h).2.2.1
 · omega
theorem sX {p:Nat×Nat} : -1048576≤cQ p∧cQ p≤1048576:=by
 unfold cQ; split
 · rename_i h; exact fu (vT h).2.2.2
 · omega
def Ic:Cfg:=⟨bu,[oc,eFi]⟩
theorem H3:ai Tryz.prog Ic.tab:=(ai.cons qM (ai.cons Gn ai.nil))
theorem IL (p:Nat×Nat) (h:eC p=true):ak Tryz.prog 57 [.c (.pd (.cx (some p)))] [] (.tup [.s (df (cP p) (cQ p)),.i 0]) []:=by
 refine dg H3 Tryz.func57 (let x1:=((-9223372036854775808:Int)≤cP p∧cP p≤(9223372036854775807:Int)); let x2:=((-9223372036854775808:Int)≤cQ p∧cQ p≤(9223372036854775807:Int)); .ite (kP p != (0:Int)) (.ret (.tup [.p (.str []),.i (kP p)]) []) (.ite (decide (cQ p<(0:Int))) (.need x1 (.need ((Lib.itoa (cP p)).length+0≤9223372036854775807) (.need x2 (.need ((Lib.itoa (cP p)++[]).length+(Lib.itoa (cQ p)).length≤9223372036854775807) (.need ((Lib.itoa (cP p)++[]++Lib.itoa (cQ p)).length+1≤9223372036854775807) (.ret (.tup [.p (.str (Lib.itoa (cP p)++[]++Lib.itoa (cQ p)++[(105:UInt8)])),.i 0]) [])))))) (.need x1 (.need ((Lib.itoa (cP p)).length+1≤9223372036854775807) (.need x2 (.need ((Lib.itoa (cP p)++[(43:UInt8)]).length+(Lib.itoa (cQ p)).length≤9223372036854775807) (.need ((Lib.itoa (cP p)++[(43:UInt8)]++Lib.itoa (cQ p)).length+1≤9223372036854775807) (.ret (.tup [.p (.str (Lib.itoa (cP p)++[(43:UInt8)]++Lib.itoa (cQ p)++[(105:UInt8)])),.i 0]) [])))))))) fun Γ=>?_
 conv=>zeta
 have hA:=tc (p:=p)
 have hB:=sX (p:=p)
 have hE:kP p=0:=by unfold kP; rw [if_pos h]
 have pa:pIn (cP p)=true:=by simp only [pIn,ab,decide_eq_true_eq]; exact hA
 have pb:pIn (cQ p)=true:=by simp only [pIn,ab,decide_eq_true_eq]; exact hB
 have lA:=(gX pa).1
 have lB:=(gX pb).1
 rw [hE]
 refine ⟨fun h=>Bool.noConfusion h,fun _=>⟨fun h=>?_,fun h=>?_⟩⟩
 · have h':=of_decide_eq_true h
   refine ⟨⟨by omega,by omega⟩,by omega,⟨by omega,by omega⟩,by simp only [ag,aj]; omega,by simp only [ag,aj]; omega,?_,rfl⟩
   unfold df; rw [if_pos h']
 · have h':=of_decide_eq_false h
   refine ⟨⟨by omega,by omega⟩,by omega,⟨by omega,by omega⟩,by simp only [ag,ah,aj]; omega,by simp only [ag,ah,aj]; omega,?_,rfl⟩
   unfold df; rw [if_neg h']
def Bx:Ent:=(57,fun
 | [.c (.pd (.cx (some p)))],[]=>some (some (eC p=true),.tup [.c (.pd (.str (df (cP p) (cQ p)))),.c (.pd (.int .i64 0))],[])
 | _,_=>none)
theorem De:EntOk Tryz.prog Bx:=entOk fun vs ck=>by
 unfold Bx; dsimp only; split
 · rename_i p; exact entS fun hp=>IL p hp
 · exact entN
def nd:Cfg:=⟨bu,[yJ,qG,vi,rh,Bx]⟩
theorem jO:ai Tryz.prog nd.tab:=(ai.cons Ku (ai.cons xf (ai.cons H6 (ai.cons xR (ai.cons De ai.nil)))))
variable {a b:Int} (s:Str)
theorem kb (ha:pIn a=true) (hb:pIn b=true):eC (bX a b)=true∧cP (bX a b)=a∧cQ (bX a b)=b∧kP (bX a b)=0:=by
 have h1:=fu ha; have h2:=fu hb
 have e:bX a b=(num a,num b):=by unfold bX; rw [ha,hb]; rfl
 have hp:=L7 (a:=a) (b:=b) (by omega) (by omega)
 have hr:eC (num a,num b)=true:=by rw [xc hp,ha,hb]; rfl
 rw [e]
 refine ⟨hr,?_,?_,?_⟩
 · unfold cP; rw [if_pos hr]; exact te hp.1
 · unfold cQ; rw [if_pos hr]; exact te hp.2
 · unfold kP; rw [if_pos hr]
theorem xH (h:(pIn a&&pIn b)=false):bX a b=(0,0)∧jK a b=5:=by
 unfold bX jK; rw [h]; exact ⟨rfl,rfl⟩
theorem Nu (ha:pIn a=true) (hb:pIn b=true):jK a b=0:=by unfold jK; rw [ha,hb]; rfl
def u6:Cfg:=⟨bu,[ou]⟩
theorem qH:ai Tryz.prog u6.tab:=(ai.cons vI ai.nil)
def uM:Cfg:=⟨bu,[oB]⟩
theorem p9:ai Tryz.prog uM.tab:=(ai.cons vm ai.nil)
theorem ET:eC (0,0)=true:=by rw [xc (p:=(0,0)) ⟨Bo,Bo⟩]; decide
theorem vo (a b:Int):eC (bX a b)=true:=by
 cases h:(pIn a&&pIn b)
 · rw [(xH h).1]; exact ET
 · rw [ab] at h; exact (kb h.1 h.2).1
def PrQ:Out:=fun v k=>(fv s→v = .tup [.c (.pd (.cx (some (bX (ptA s) (ptB s))))),.i 0])∧(¬fv s→v = .tup [.c (.pd (.cx (some (0,0)))),.i 1])∧k=[]
theorem PrQ.no {s:Str} (h:¬fv s):PrQ s (.tup [.c (.pd (.cx (some (0,0)))),.i 1]) []:=⟨fun h'=>absurd h' h,fun _=>rfl,rfl⟩
theorem PrQ.yes {s:Str} {a b:Int} (h:oW s (a,b)):PrQ s (.tup [.c (.pd (.cx (some (bX a b)))),.i 0]) []:=by
 have hr:fv s:=⟨(a,b),h⟩
 obtain ⟨g1,g2,g3⟩:=j9 hr
 obtain ⟨k1,k2,k3⟩:=h
 have:=qY g1 g2 k1 k2 (g3.trans k3.symm)
 have t1:ptA s=a:=this.1
 have t2:ptB s=b:=this.2
 exact ⟨fun _=>by rw [t1,t2],fun h'=>absurd hr h',rfl⟩
theorem GU {s:Str} {k:Int}:(aB s none (some k)).2=s.take k.toNat:=by simp [aB]
theorem th {s:Str} {k:Int}:(aB s (some k) none).2=s.drop k.toNat:=by simp [aB]
abbrev zXd1:List PI:=[.ops [1,1,1,1,0] 6,.code [1,1,1,1,1]]
theorem Dc (hs:s.length≤1000000) (ha:s.all (fun c=>decide (c.toNat<128))=true) (Γ:Ctx):zJ80Xd Γ (PrQ s) [.code []] (cL Tryz.f80.ntmps [.s s] []):=by
 refine jg jO Tryz.func80 (.need (s.length≤9223372036854775807∧(List.all s fun c=>decide (UInt8.toNat c<128))=true) (.ite (decide (aJ s<(1:Int))||decide (af s>(20:Int))) (.ret (.tup [.p (.cx (some (0,0))),.i 1]) []) (.need ((0:Int)≤aJ s∧aJ s≤(s.length:Int)) (.stop [.ops [1,1,1,0] 3,.code [1,1,1,1]] { n:=67,fr:=[(0,.p (.str s)),(2,.p (.cx (some (0,0)))),(3,.i 0),(4,.i (aJ s)),(25,.p (.str ((aB s none (some (aJ s))).2)))],ck:=[] })))) ?_
 have hL:af s=(s.length:Int):=rfl
 have hb:=pY s s.length
 have hb1 : -1≤aJ s∧aJ s<s.length:=hb
 have facts:∀ a b:Int,oW s (a,b)→aJ s=((Lib.itoa a).length:Int)∧s.length≤20∧0<(Lib.itoa a).length∧(aB s none (some (aJ s))).2=Lib.itoa a∧(Lib.trimPrefix (Lib.trimSuffix (Prod.snd (aB s (some (aJ s)) none)) [(105:UInt8)]) [(43:UInt8)])=Lib.itoa b:=fun a b h=>by
  obtain ⟨f1,f2,f3,f4,f5⟩:=nR h
  refine ⟨f1,f2,f3,?_,?_⟩
  · rw [GU,f1,bf]; exact f4
  · rw [th,f1,bf]; exact f5
 refine ⟨⟨by omega,ha⟩,fun h=>PrQ.no ?_,fun h=>⟨?_,?_⟩⟩
 · rintro ⟨⟨a,b⟩,hp⟩
   obtain ⟨f1,f2,f3,_⟩:=facts a b hp
   rw [aF] at h
   rcases h with h | h
   · have:=of_decide_eq_true h; omega
   · have:=of_decide_eq_true h; omega
 · rw [aI] at h
   have:=of_decide_eq_false h.1
   omega
 · rw [aI] at h
   have hk1:=of_decide_eq_false h.1
   have hk2:=of_decide_eq_false h.2
   have lX:(aB s none (some (aJ s))).2.length≤281474976710656:=by rw [GU,bw]; omega
   have lY:(Lib.trimPrefix (Lib.trimSuffix (Prod.snd (aB s (some (aJ s)) none)) [(105:UInt8)]) [(43:UInt8)]).length≤281474976710656:=by
    have h1:∀ (a p:Str),(Lib.trimPrefix a p).length≤a.length:=fun a p=>by unfold Lib.trimPrefix; split; rw [bF]; omega; exact aw _
    have h2:∀ (a p:Str),(Lib.trimSuffix a p).length≤a.length:=fun a p=>by unfold Lib.trimSuffix; split; rw [bw]; omega; exact aw _
    have h3:=h1 (Lib.trimSuffix (Prod.snd (aB s (some (aJ s)) none)) [(105:UInt8)]) [(43:UInt8)]
    have h4:=h2 (Prod.snd (aB s (some (aJ s)) none)) [(105:UInt8)]
    have h5:(Prod.snd (aB s (some (aJ s)) none)).length≤s.length:=by rw [th,bF]; omega
    omega
   have ld:(Prod.snd (aB s (some (aJ s)) none)).length≤9223372036854775807:=by rw [th,bF]; omega
   have pokX:du (aB s none (some (aJ s))).2=false→¬fv s:=fun hp=>by
    rintro ⟨⟨a,b⟩,q⟩
    obtain ⟨_,_,_,f4,_⟩:=facts a b q
    rw [f4,(gM (n:=a) (by have:=fu q.1; omega) (by have:=fu q.1; omega)).1] at hp; cases hp
   have pokY:du (Lib.trimPrefix (Lib.trimSuffix (Prod.snd (aB s (some (aJ s)) none)) [(105:UInt8)]) [(43:UInt8)])=false→¬fv s:=fun hp=>by
    rintro ⟨⟨a,b⟩,q⟩
    obtain ⟨_,_,_,_,f5⟩:=facts a b q
    rw [f5,(gM (n:=b) (by have:=fu q.2.1; omega) (by have:=fu q.2.1; omega)).1] at hp; cases hp
   cases hX:du (aB s none (some (aJ s))).2
   · have hno:=pokX hX
     have h0:zJ80Xd Γ (PrQ s) [.ops [1,1,1,0] 4,.code [1,1,1,1]] ({ n:=67,fr:=[(0,.p (.str s)),(2,.p (.cx (some (0,0)))),(3,.i 0),(4,.i (aJ s)),(25,.p (.str ((aB s none (some (aJ s))).2))),(26,.tup [.i (aS (aB s none (some (aJ s))).2),.c (.pd .err)])],ck:=[] }):=by
      refine jg jO Tryz.func80 (.need ((0:Int)≤aJ s∧aJ s≤(s.length:Int)) (.need (((aB s (some (aJ s)) none).2).length≤9223372036854775807) (.stop [.ops [1,1,1,1,0] 5,.code [1,1,1,1,1]] { n:=67,fr:=[(0,.p (.str s)),(2,.p (.cx (some (0,0)))),(3,.i 0),(5,.i (aS ((aB s none (some (aJ s))).2))),(6,.x (.c (.pd .err))),(34,.p (.str (Lib.trimPrefix (Lib.trimSuffix ((aB s (some (aJ s)) none).2) [(105:UInt8)]) [(43:UInt8)])))],ck:=[] }))) ?_
      refine ⟨⟨by omega,by omega⟩,ld,?_⟩
      cases hY:du (Lib.trimPrefix (Lib.trimSuffix (Prod.snd (aB s (some (aJ s)) none)) [(105:UInt8)]) [(43:UInt8)])
      · have hz:zJ80Xd Γ (PrQ s) zXd1 ({ n:=67,fr:=[(0,.p (.str s)),(2,.p (.cx (some (0,0)))),(3,.i 0),(5,.i (aS ((aB s none (some (aJ s))).2))),(6,.x (.c (.pd .err))),(34,.p (.str (Lib.trimPrefix (Lib.trimSuffix ((aB s (some (aJ s)) none).2) [(105:UInt8)]) [(43:UInt8)]))),(35,.tup [.i (aS (Lib.trimPrefix (Lib.trimSuffix ((aB s (some (aJ s)) none).2) [(105:UInt8)]) [(43:UInt8)])),.c (.pd .err)])],ck:=[] }):=by
         refine jg jO Tryz.func80 (let x3:=(aS ((aB s none (some (aJ s))).2)); let x2:=(aS (Lib.trimPrefix (Lib.trimSuffix ((aB s (some (aJ s)) none).2) [(105:UInt8)]) [(43:UInt8)])); let x1:=(bX x3 x2); let x4:Tree:=(.ret (.tup [.p (.cx (some (0,0))),.i 1]) []); .ite true x4 (.need (eC x1=true) (.ite (jK x3 x2 != (0:Int)||(0:Int) != 0 || !df (cP x1) (cQ x1)==s) x4 (.ret (.tup [.p (.cx (some x1)),.i 0]) [])))) ?_
         conv=>zeta
         exact ⟨fun _=>PrQ.no hno,fun x=>Bool.noConfusion x⟩
        exact J.step (cfg:=uM) p9 (q:=some (_∧_)) (by kernel_rfl) ⟨lY,hY⟩ hz
      · have hz:zJ80Xd Γ (PrQ s) zXd1 ({ n:=67,fr:=[(0,.p (.str s)),(2,.p (.cx (some (0,0)))),(3,.i 0),(5,.i (aS ((aB s none (some (aJ s))).2))),(6,.x (.c (.pd .err))),(34,.p (.str (Lib.trimPrefix (Lib.trimSuffix ((aB s (some (aJ s)) none).2) [(105:UInt8)]) [(43:UInt8)]))),(35,.tup [.i (aS (Lib.trimPrefix (Lib.trimSuffix ((aB s (some (aJ s)) none).2) [(105:UInt8)]) [(43:UInt8)])),.p (.v Value.nilIface)])],ck:=[] }):=by
         refine jg jO Tryz.func80 (let x3:=(aS ((aB s none (some (aJ s))).2)); let x2:=(aS (Lib.trimPrefix (Lib.trimSuffix ((aB s (some (aJ s)) none).2) [(105:UInt8)]) [(43:UInt8)])); let x1:=(bX x3 x2); let x4:Tree:=(.ret (.tup [.p (.cx (some (0,0))),.i 1]) []); .ite true x4 (.need (eC x1=true) (.ite (jK x3 x2 != (0:Int)||(0:Int) != 0 || !df (cP x1) (cQ x1)==s) x4 (.ret (.tup [.p (.cx (some x1)),.i 0]) [])))) ?_
         conv=>zeta
         exact ⟨fun _=>PrQ.no hno,fun x=>Bool.noConfusion x⟩
        exact J.step (cfg:=u6) qH (q:=some (_∧_)) (by kernel_rfl) ⟨lY,hY⟩ hz
     exact J.step (cfg:=uM) p9 (q:=some (_∧_)) (by kernel_rfl) ⟨lX,hX⟩ h0
   · have h0 : zJ80Xd Γ (PrQ s) [.ops [1,1,1,0] 4,.code [1,1,1,1]] ({ n:=67,fr:=[(0,.p (.str s)),(2,.p (.cx (some (0,0)))),(3,.i 0),(4,.i (aJ s)),(25,.p (.str ((aB s none (some (aJ s))).2))),(26,.tup [.i (aS (aB s none (some (aJ s))).2),.p (.v Value.nilIface)])],ck:=[] }):=by
      refine jg jO Tryz.func80 (.need ((0:Int)≤aJ s∧aJ s≤(s.length:Int)) (.need (((aB s (some (aJ s)) none).2).length≤9223372036854775807) (.stop [.ops [1,1,1,1,0] 5,.code [1,1,1,1,1]] { n:=67,fr:=[(0,.p (.str s)),(2,.p (.cx (some (0,0)))),(3,.i 0),(5,.i (aS ((aB s none (some (aJ s))).2))),(6,.p (.v Value.nilIface)),(34,.p (.str (Lib.trimPrefix (Lib.trimSuffix ((aB s (some (aJ s)) none).2) [(105:UInt8)]) [(43:UInt8)])))],ck:=[] }))) ?_
      refine ⟨⟨by omega,by omega⟩,ld,?_⟩
      cases hY:du (Lib.trimPrefix (Lib.trimSuffix (Prod.snd (aB s (some (aJ s)) none)) [(105:UInt8)]) [(43:UInt8)])
      · have hno:=pokY hY
        have hz:zJ80Xd Γ (PrQ s) zXd1 ({ n:=67,fr:=[(0,.p (.str s)),(2,.p (.cx (some (0,0)))),(3,.i 0),(5,.i (aS ((aB s none (some (aJ s))).2))),(6,.p (.v Value.nilIface)),(34,.p (.str (Lib.trimPrefix (Lib.trimSuffix ((aB s (some (aJ s)) none).2) [(105:UInt8)]) [(43:UInt8)]))),(35,.tup [.i (aS (Lib.trimPrefix (Lib.trimSuffix ((aB s (some (aJ s)) none).2) [(105:UInt8)]) [(43:UInt8)])),.c (.pd .err)])],ck:=[] }):=by
         refine jg jO Tryz.func80 (let x3:=(aS ((aB s none (some (aJ s))).2)); let x2:=(aS (Lib.trimPrefix (Lib.trimSuffix ((aB s (some (aJ s)) none).2) [(105:UInt8)]) [(43:UInt8)])); let x1:=(bX x3 x2); let x4:Tree:=(.ret (.tup [.p (.cx (some (0,0))),.i 1]) []); .ite true x4 (.need (eC x1=true) (.ite (jK x3 x2 != (0:Int)||(0:Int) != 0 || !df (cP x1) (cQ x1)==s) x4 (.ret (.tup [.p (.cx (some x1)),.i 0]) [])))) ?_
         conv=>zeta
         exact ⟨fun _=>PrQ.no hno,fun x=>Bool.noConfusion x⟩
        exact J.step (cfg:=uM) p9 (q:=some (_∧_)) (by kernel_rfl) ⟨lY,hY⟩ hz
      · have hz:zJ80Xd Γ (PrQ s) zXd1 ({ n:=67,fr:=[(0,.p (.str s)),(2,.p (.cx (some (0,0)))),(3,.i 0),(5,.i (aS ((aB s none (some (aJ s))).2))),(6,.p (.v Value.nilIface)),(34,.p (.str (Lib.trimPrefix (Lib.trimSuffix ((aB s (some (aJ s)) none).2) [(105:UInt8)]) [(43:UInt8)]))),(35,.tup [.i (aS (Lib.trimPrefix (Lib.trimSuffix ((aB s (some (aJ s)) none).2) [(105:UInt8)]) [(43:UInt8)])),.p (.v Value.nilIface)])],ck:=[] }):=by
         refine jg jO Tryz.func80 (let x3:=(aS ((aB s none (some (aJ s))).2)); let x2:=(aS (Lib.trimPrefix (Lib.trimSuffix ((aB s (some (aJ s)) none).2) [(105:UInt8)]) [(43:UInt8)])); let x1:=(bX x3 x2); let x4:Tree:=(.ret (.tup [.p (.cx (some (0,0))),.i 1]) []); .ite false x4 (.need (eC x1=true) (.ite (jK x3 x2 != (0:Int)||(0:Int) != 0 || !df (cP x1) (cQ x1)==s) x4 (.ret (.tup [.p (.cx (some x1)),.i 0]) [])))) ?_
         conv=>zeta
         have of_pt:∀ a b:Int,oW s (a,b)→aS (aB s none (some (aJ s))).2=a∧aS (Lib.trimPrefix (Lib.trimSuffix (Prod.snd (aB s (some (aJ s)) none)) [(105:UInt8)]) [(43:UInt8)])=b:=fun a b q=>by
          obtain ⟨_,_,_,f4,f5⟩:=facts a b q
          rw [f4,f5]
          exact ⟨(gM (n:=a) (by have:=fu q.1; omega) (by have:=fu q.1; omega)).2,(gM (n:=b) (by have:=fu q.2.1; omega) (by have:=fu q.2.1; omega)).2⟩
         generalize aS (aB s none (some (aJ s))).2=a at of_pt ⊢
         generalize aS (Lib.trimPrefix (Lib.trimSuffix (Prod.snd (aB s (some (aJ s)) none)) [(105:UInt8)]) [(43:UInt8)])=b at of_pt ⊢
         refine ⟨fun x=>Bool.noConfusion x,fun _=>⟨vo a b,fun hb=>PrQ.no ?_,fun hb=>PrQ.yes ?_⟩⟩
         · rintro ⟨⟨x,y⟩,q⟩
           obtain ⟨rfl,rfl⟩:=of_pt x y q
           obtain ⟨m1,m2,m3,m4⟩:=kb q.1 q.2.1
           rw [Nu q.1 q.2.1,m2,m3] at hb
           have e:df a b=s:=q.2.2
           rw [e] at hb
           simp at hb
         · simp only [aI,bne_eq_false_iff_eq,cG] at hb
           cases hin:(pIn a&&pIn b)
           · rw [(xH hin).2] at hb; exact absurd hb.1.1 (by decide)
           · rw [ab] at hin
             obtain ⟨m1,m2,m3,m4⟩:=kb hin.1 hin.2
             rw [m2,m3] at hb
             exact ⟨hin.1,hin.2,eq_of_beq hb.2⟩
        exact J.step (cfg:=u6) qH (q:=some (_∧_)) (by kernel_rfl) ⟨lY,hY⟩ hz
     exact J.step (cfg:=u6) qH (q:=some (_∧_)) (by kernel_rfl) ⟨lX,hX⟩ h0
theorem JI (hs:s.length≤1000000) (ha:s.all (fun c=>decide (c.toNat<128))=true) (h:fv s):ak Tryz.prog 80 [.s s] [] (.tup [.c (.pd (.cx (some (bX (ptA s) (ptB s))))),.i 0]) [] :=
 ak.of Tryz.func80 (by kernel_rfl) (by kernel_rfl) fun Γ=>J.mono (fun v k q=>⟨q.1 h,q.2.2⟩) (Dc s hs ha Γ)
theorem IM (hs:s.length≤1000000) (ha:s.all (fun c=>decide (c.toNat<128))=true) (h:¬fv s):ak Tryz.prog 80 [.s s] [] (.tup [.c (.pd (.cx (some (0,0)))),.i 1]) [] :=
 ak.of Tryz.func80 (by kernel_rfl) (by kernel_rfl) fun Γ=>J.mono (fun v k q=>⟨q.2.1 h,q.2.2⟩) (Dc s hs ha Γ)
noncomputable def yF:Ent:=(80,fun
 | [.c (.pd (.str s))],[]=>some (some (s.length≤1000000∧s.all (fun c=>decide (c.toNat<128))=true∧fv s),.tup [.c (.pd (.cx (some (bX (ptA s) (ptB s))))),.c (.pd (.int .i64 0))],[])
 | _,_=>none)
theorem II:EntOk Tryz.prog yF:=entOk fun vs ck=>by
 unfold yF; dsimp only; split
 · rename_i s; exact entS fun hp=>JI s hp.1 hp.2.1 hp.2.2
 · exact entN
noncomputable def yq:Ent:=(80,fun
 | [.c (.pd (.str s))],[]=>some (some (s.length≤1000000∧s.all (fun c=>decide (c.toNat<128))=true∧¬fv s),.tup [.c (.pd (.cx (some (0,0)))),.c (.pd (.int .i64 1))],[])
 | _,_=>none)
theorem Jq:EntOk Tryz.prog yq:=entOk fun vs ck=>by
 unfold yq; dsimp only; split
 · rename_i s; exact entS fun hp=>IM s hp.1 hp.2.1 hp.2.2
 · exact entN
end Go.Proofs.YtpfidgnkokidoaaGreatDoor
namespace Go.Proofs.YtpfidgnkokidoaaGreatDoor
open Go Go.Ev
set_option maxRecDepth 100000
noncomputable def Im:Cfg:=⟨bu,[pj,yF,oc,wQ]⟩
theorem Hr:ai Tryz.prog Im.tab:=(ai.cons pf (ai.cons II (ai.cons qM (ai.cons wE ai.nil))))
noncomputable def GZ:Cfg:=⟨bu,[pj,yq,oc,wQ]⟩
theorem GB:ai Tryz.prog GZ.tab:=(ai.cons pf (ai.cons Jq (ai.cons qM (ai.cons wE ai.nil))))
abbrev zWq1 (a:Chart) (b:Int):List Chunk:=[.cells [.pd (.str a.name),.own 1,.own 2,.own 3,.own 4,.i b] 45,.own 9 .str a.events,.own 61 .var a.vars,.own 64 .stat a.states,.own 68 .tran a.trans]
variable (c:Chart) (d:Int) (w:List Str)
theorem Lk (hf:Fit c 6001) (hw:okW w) (Γ:Ctx):J Tryz.prog 37 (aH Tryz.f37) Γ (bK (jc c d w) d) [.code []] (cL Tryz.f37.ntmps [.c (.loc 0 0),.l .str w] (rdK c d)):=by
 have he:=hf.vars
 have e3:ETy.get .str w 3=an w 3:=rfl
 by_cases hr:fv (an w 3)
 · refine jg Hr Tryz.func37 (let x2:=((aB w (some (1:Int)) none).2); let x3:=(bX (ptA (ETy.get .str w 3)) (ptB (ETy.get .str w 3))); let x1:Var:={ name:=ETy.get .str w 0,kind:=(3:Int),lo:=(bb (an x2 0)).1,hi:=(bb (an x2 1)).1,init:={ kind:=(3:Int),a:=cP x3,b:=cQ x3 } }; .need ((1:Int)≤4) (.ite (!eG c d w (4:Int)) (.ret (.p (.bool false)) (zWq1 c d)) (.need (inRg 0 w.length) (.need (inRg 3 w.length) (.need ((ETy.get .str w 3).length≤1000000∧(List.all (ETy.get .str w 3) fun c=>decide (UInt8.toNat c<128))=true∧fv (ETy.get .str w 3)) (.need ((0:Int)≤1∧(1:Int)≤(w.length:Int)) (.need (2≤x2.length∧okW x2) (.need (room (List.length (c.vars++[x1])) 64) (.ret (.p (.bool ((bb (an x2 0)).2==(0:Int)&&(bb (an x2 1)).2==(0:Int)&&(0:Int)==0))) [.cells [.pd (.str c.name),.own 1,.own 5,.own 3,.own 4,.i d] 45,.own 9 .str c.events,.dead,.own 64 .stat c.states,.own 68 .tran c.trans,.own 61 .var (c.vars++[x1])]))))))))) ?_
   conv=>zeta
   refine ⟨by omega,fun h=>?_,fun h=>?_⟩
   · refine bK.no (iv ?_)
     rintro ⟨g,_⟩
     rw [show eG c d w 4=true from g] at h; cases h
   · have g:eG c d w 4=true:=nf h
     obtain ⟨_,_,hn,_⟩:=gK (n:=4) g
     obtain ⟨l3,a3⟩:=hw.at (k:=3) (by omega)
     obtain ⟨q1,q2,q3⟩:=j9 hr
     obtain ⟨_,m2,m3,_⟩:=kb q1 q2
     have m2':cP (bX (ptA (an w 3)) (ptB (an w 3)))=ptA (an w 3):=m2
     have m3':cQ (bX (ptA (an w 3)) (ptB (an w 3)))=ptB (an w 3):=m3
     rw [js,rG,rG,e3,m2',m3']
     refine ⟨⟨by omega,by omega⟩,⟨by omega,by omega⟩,⟨by omega,a3,hr⟩,⟨by omega,by omega⟩,⟨by rw [bF]; omega,hw.drop 1⟩,qn (by simp only [ag,ah,aj]; omega),?_⟩
     rw [BS]
     by_cases hk:(bb (an w 1)).2=0∧(bb (an w 2)).2=0∧(0:Int)=0
     · rw [decide_eq_true hk]
       exact bK.yes (if_pos ⟨g,hk.1,hk.2.1,hr⟩) (IsR.of2 rfl)
     · rw [decide_eq_false hk]
       exact bK.no (iv fun x=>hk ⟨x.2.1,x.2.2.1,rfl⟩)
 · have hno:jc c d w=none:=iv fun x=>hr x.2.2.2
   refine jg GB Tryz.func37 (let x2:=((aB w (some (1:Int)) none).2); let x1:Var:={ name:=ETy.get .str w 0,kind:=(3:Int),lo:=(bb (an x2 0)).1,hi:=(bb (an x2 1)).1,init:={ kind:=(3:Int),a:=cP (0,0),b:=cQ (0,0) } }; .need ((1:Int)≤4) (.ite (!eG c d w (4:Int)) (.ret (.p (.bool false)) (zWq1 c d)) (.need (inRg 0 w.length) (.need (inRg 3 w.length) (.need ((ETy.get .str w 3).length≤1000000∧(List.all (ETy.get .str w 3) fun c=>decide (UInt8.toNat c<128))=true∧¬fv (ETy.get .str w 3)) (.need ((0:Int)≤1∧(1:Int)≤(w.length:Int)) (.need (2≤x2.length∧okW x2) (.need (room (List.length (c.vars++[x1])) 64) (.ret (.p (.bool ((bb (an x2 0)).2==(0:Int)&&(bb (an x2 1)).2==(0:Int)&&(1:Int)==0))) [.cells [.pd (.str c.name),.own 1,.own 5,.own 3,.own 4,.i d] 45,.own 9 .str c.events,.dead,.own 64 .stat c.states,.own 68 .tran c.trans,.own 61 .var (c.vars++[x1])]))))))))) ?_
   conv=>zeta
   refine ⟨by omega,fun h=>bK.no hno,fun h=>?_⟩
   have g:eG c d w 4=true:=nf h
   obtain ⟨_,_,hn,_⟩:=gK (n:=4) g
   obtain ⟨l3,a3⟩:=hw.at (k:=3) (by omega)
   refine ⟨⟨by omega,by omega⟩,⟨by omega,by omega⟩,⟨by rw [e3]; omega,a3,hr⟩,⟨by omega,by omega⟩,⟨by rw [js,bF]; omega,by rw [js]; exact hw.drop 1⟩,qn (by simp only [ag,ah,aj]; omega),?_⟩
   have e1:((1:Int)==0)=false:=by decide
   rw [e1,bA]
   exact bK.no hno
theorem NO (hf:Fit c 6001) (hw:okW w) (h:(jc c d w).isSome=true):ak Tryz.prog 37 [.c (.loc 0 0),.l .str w] (rdK c d) (.x (.b true)) (ckR (got (jc c d w)) d) :=
 step_ok Tryz.func37 (by kernel_rfl) (by kernel_rfl) rfl (Lk c d w hf hw) h
theorem OK (hf:Fit c 6001) (hw:okW w) (h:(jc c d w).isSome=false):ak Tryz.prog 37 [.c (.loc 0 0),.l .str w] (rdK c d) (.x (.b false)) [.dead,.dead,.dead,.dead,.dead] :=
 kK Tryz.func37 (by kernel_rfl) (by kernel_rfl) (Lk c d w hf hw) h
end Go.Proofs.YtpfidgnkokidoaaGreatDoor
namespace Go.Proofs.YtpfidgnkokidoaaGreatDoor
open Go Go.Ev
set_option maxRecDepth 100000
def cU:List (Str×Nat):=[([101,118,101,110,116],34),([105,110,116],35),([98,111,111,108],36),([112,111,105,110,116],37),([98,97,115,105,99],38),([98,111,116,104],39),([102,105,110,97,108],40),([111,110,101],41),([115,104,97,108,108,111,119],42),([100,101,101,112],43),([101,110,116,114,121],44),([101,120,105,116],45),([111,110],46)]
theorem Fl:ak Tryz.prog 16 [] [] (.x (.p (.tbl cU))) []:=by
 refine dg bH Tryz.func16 (.stop [.ops [1,0] 0,.code [1,1]] { n:=3,fr:=[(0,.p (.v (Value.map none)))],ck:=[] }) fun Γ=>?_
 refine J.makeTbl (d:=1) (n:=13) (l:=cU.map fun p=>(bs p.1,p.2)) (by kernel_rfl) ?_
 have e:keyed (cU.map fun p=>(bs p.1,p.2))=cU:=by decide
 rw [e]
 refine jg bH Tryz.func16 (.ret (.p (PD.tbl [([(101:UInt8),118,101,110,116],34),([(105:UInt8),110,116],35),([(98:UInt8),111,111,108],36),([(112:UInt8),111,105,110,116],37),([(98:UInt8),97,115,105,99],38),([(98:UInt8),111,116,104],39),([(102:UInt8),105,110,97,108],40),([(111:UInt8),110,101],41),([(115:UInt8),104,97,108,108,111,119],42),([(100:UInt8),101,101,112],43),([(101:UInt8),110,116,114,121],44),([(101:UInt8),120,105,116],45),([(111:UInt8),110],46)])) []) ?_
 exact ⟨rfl,rfl⟩
def ve:Ent:=(16,fun
 | [],[]=>some (none,.x (.c (.pd (.tbl cU))),[])
 | _,_=>none)
theorem HZ:EntOk Tryz.prog ve:=entOk fun vs ck=>by
 unfold ve; dsimp only; split
 · exact entS fun hp=>Fl
 · exact entN
end Go.Proofs.YtpfidgnkokidoaaGreatDoor
