/- Contracts: the document's points read. Conditions: sizes. Contracts: the document's lines of a text. Conditions: sizes. Contracts: the document's reader of charts: states. Conditions: sizes. -/
import Derived.Test.YtpfidgnkokidoaaGreatDoorXf
import Derived.Test.YtpfidgnkokidoaaGreatDoorWn
namespace Go.Proofs.YtpfidgnkokidoaaGreatDoor
open Go Go.Ev
set_option maxRecDepth 100000
theorem LX (a:Int):ak Tryz.prog 128 [.i a] [] (.x (.b (pIn a))) []:=by
 refine dg aV Tryz.func128 (.ret (.p (.bool (decide (a≥(-1048576:Int))&&decide (a≤(1048576:Int))))) []) fun Γ=>?_
 exact ⟨rfl,rfl⟩
def eIn:Ent:=(128,fun
 | [.c (.pd (.int .i64 a))],[]=>some (none,.x (.c (.pd (.bool (pIn a)))),[])
 | _,_=>none)
theorem Nb:EntOk Tryz.prog eIn:=entOk fun vs ck=>by
 unfold eIn; dsimp only; split
 · rename_i a; exact entS fun hp=>LX a
 · exact entN
def Dw:Ent:=(127,fun
 | [.c (.pd (.str s))],[]=>some (some (s.length≤1000000),.tup [.c (.pd (.int .i64 (aW s).1)),.c (.pd (.int .i64 (aW s).2))],[])
 | _,_=>none)
theorem Mt:EntOk Tryz.prog Dw:=entOk fun vs ck=>by
 unfold Dw; dsimp only; split
 · rename_i s; exact entS fun hp=>A0 s hp
 · exact entN
def KU:Cfg:=⟨a6,[eIn,Dw]⟩
theorem Jy:ah Tryz.prog KU.tab:=(ah.cons Nb (ah.cons Mt ah.nil))
/-! ### plain -/
variable {b:Int} (s:Str)
theorem nC:0≤(aW s).2∧(aW s).2≤s.length:=by
 have fin:∀ (f:Nat) (ng:Bool) (t:Str),f+t.length≤s.length→0≤(iN s f ng (wGo 0 t)).2∧(iN s f ng (wGo 0 t)).2≤s.length:=fun f ng t h=>by
  have hb:=(rM t 0).2.2
  unfold iN
  split
  · exact ⟨cc _,by show (0:Int)≤_; omega⟩
  · exact ⟨by show (0:Int)≤((_:Nat):Int); omega,by show ((_:Nat):Int)≤_; omega⟩
 unfold aW
 split
 · rename_i h
   obtain ⟨r,hr⟩:=oj h
   refine fin 1 true _ ?_
   rw [hr,aL]; simp only [aj,ai,al]; omega
 · exact fin 0 false _ (by omega)
theorem itoa_neg (h:b<0):∃ q,Lib.itoa b=45::q:=⟨Lib.decDigits b.natAbs,by unfold Lib.itoa; rw [if_pos h]⟩
theorem r3 (h:0≤b):∃ c q,Lib.itoa b=c::q∧isD c=true:=by
 have e:Lib.itoa b=Lib.decDigits b.toNat:=by unfold Lib.itoa; rw [if_neg (by omega)]
 obtain ⟨i1,i2,_⟩:=js b.toNat
 rw [e]
 cases hd:Lib.decDigits b.toNat with
 | nil=>exact absurd hd i2
 | cons c q =>
   rw [hd] at i1
   simp only [bA,af] at i1
   exact ⟨c,q,rfl,i1.1⟩
theorem o8 (b:Int):0<(Lib.itoa b).length:=by
 rcases Int.lt_or_le b 0 with h | h
 · obtain ⟨q,e⟩:=itoa_neg h; rw [e]; simp
 · obtain ⟨c,q,e,_⟩:=r3 h; rw [e]; simp
theorem qX (a b:Int):gB a b=Lib.itoa a++(if b<0 then Lib.itoa b++[105] else 43::(Lib.itoa b++[105])):=by
 unfold gB
 split
 · simp only [b7,bZ,cn]
 · simp only [b7,bt,cn]
theorem lE {s:Str} {a b:Int} (h:lv s (a,b)):aW s=(a,((Lib.itoa a).length:Int))∧0<(Lib.itoa a).length∧(Lib.itoa a).length<s.length∧s.drop (Lib.itoa a).length=(if b<0 then Lib.itoa b++[105] else 43::(Lib.itoa b++[105])):=by
 obtain ⟨h1,h2,h3⟩:=h
 have e:Lib.itoa a++(if b<0 then Lib.itoa b++[105] else 43::(Lib.itoa b++[105]))=s:=(qX a b).symm.trans h3
 refine ⟨?_,o8 a,?_,?_⟩
 · rw [← e]
   refine tQ h1 fun c q hq=>?_
   split at hq
   · rename_i hb
     obtain ⟨r,hr⟩:=itoa_neg hb
     rw [hr,bt] at hq
     rw [← (dc hq).1]; rfl
   · rw [← (dc hq).1]; rfl
 · rw [← e,aj]
   split <;> simp only [aj,ai,al] <;> omega
 · rw [← e,dF]
theorem Km (hb:pIn b=true):aW (Lib.itoa b++[105])=(b,((Lib.itoa b).length:Int)):=tQ hb fun c q hq=>by
 rw [← (dc hq).1]; rfl
theorem G0 {u:Str} (h0:(aW u).2≠0) (hd:u.drop (aW u).2.toNat=[105]) (hp:pIn (aW u).1=true):u=Lib.itoa (aW u).1++[105]:=by
 have h:=(tN h0 hp).2.2
 rw [← h,← hd,c7]
theorem BR {s:Str} {b:Int} (h0:(aW s).2≠0) (hp:pIn (aW s).1=true) (hb:pIn b=true) (hd:s.drop (aW s).2.toNat=(if b<0 then Lib.itoa b++[105] else 43::(Lib.itoa b++[105]))):lv s ((aW s).1,b):=by
 refine ⟨hp,hb,?_⟩
 have h:=(tN h0 hp).2.2
 rw [qX,← h,← hd,c7]
theorem Md {s:Str} {a b:Int} (h:lv s (a,b)):ptA s=a∧ptB s=b:=by
 obtain ⟨g1,g2,g3⟩:=nQ ⟨(a,b),h⟩
 obtain ⟨k1,k2,k3⟩:=h
 have:=vC g1 g2 k1 k2 (g3.trans k3.symm)
 exact ⟨this.1,this.2⟩
def RpQ:Out:=fun v k=>(dr s→v = .tup [.agg [.pd (.int .i64 (ptA s)),.pd (.int .i64 (ptB s))],.c (.pd (.int .i64 0))])∧(¬dr s→v = .tup [.agg [.pd (.int .i64 0),.pd (.int .i64 0)],.c (.pd (.int .i64 1))])∧k=[]
theorem RpQ.no {s:Str} (h:¬dr s):RpQ s (.tup [.agg [.pd (.int .i64 0),.pd (.int .i64 0)],.c (.pd (.int .i64 1))]) []:=⟨fun h'=>absurd h' h,fun _=>rfl,rfl⟩
theorem RpQ.yes {s:Str} {a b:Int} (h:lv s (a,b)):RpQ s (.tup [.agg [.pd (.int .i64 a),.pd (.int .i64 b)],.c (.pd (.int .i64 0))]) []:=by
 obtain ⟨t1,t2⟩:=Md h
 exact ⟨fun _=>by rw [t1,t2],fun h'=>absurd ⟨(a,b),h⟩ h',rfl⟩
/-! ### the walk -/
theorem Ax (hs:s.length≤1000000) (Γ:Ctx):J Tryz.prog 93 (az Tryz.f93) Γ (RpQ s) [.code []] (bX Tryz.f93.ntmps [.s s] []):=by
 refine jg Jy Tryz.func93 (let x1:=((aw s (some ((aW s).2)) none).2); let x2:=((aw x1 (some (1:Int)) none).2); let x3:Tree:=(.ret (.tup [.agg [.i 0,.i 0],.i 1]) []); let x4:=(↑((List.getD x1 0 (0:UInt8)).toNat):Int); let x5:=((0:Int)≤0∧(0:Int)<ab x1); .need (s.length≤1000000) (.ite ((aW s).2==(0:Int)||(aW s).2==ab s) x3 (.need ((0:Int)≤(aW s).2∧(aW s).2≤(s.length:Int)) (.need x5 (.ite (x4==43) (.need ((0:Int)≤1∧(1:Int)≤(↑(x1.length):Int)) (.need (decide (ab x2>(0:Int))=true→(0:Int)≤0∧(0:Int)<ab x2) (.ite (decide (ab x2>(0:Int))&&(↑((List.getD x2 0 (0:UInt8)).toNat):Int)==45) x3 (.need (x2.length≤1000000) (.need (((aW x2).2==(0:Int))=false→(0:Int)≤(aW x2).2∧(aW x2).2≤(↑(x2.length):Int)) (.ite ((aW x2).2==(0:Int) || !(aw x2 (some ((aW x2).2)) none).2==[105] || !pIn ((aW s).1) || !pIn ((aW x2).1)) x3 (.ret (.tup [.agg [.i ((aW s).1),.i ((aW x2).1)],.i 0]) []))))))) (.need x5 (.ite (x4 != 45) x3 (.need (x1.length≤1000000) (.need (((aW x1).2==(0:Int))=false→(0:Int)≤(aW x1).2∧(aW x1).2≤(↑(x1.length):Int)) (.ite ((aW x1).2==(0:Int) || !(aw x1 (some ((aW x1).2)) none).2==[105] || !pIn ((aW s).1) || !pIn ((aW x1).1)) x3 (.ret (.tup [.agg [.i ((aW s).1),.i ((aW x1).1)],.i 0]) []))))))))))) ?_
 conv=>zeta
 have hL:ab s=(s.length:Int):=rfl
 have hw:=nC s
 simp only [nX,Int.toNat_one]
 refine ⟨hs,fun h=>RpQ.no ?_,fun h=>?_⟩
 · rintro ⟨⟨a,b⟩,hp⟩
   obtain ⟨f1,f2,f3,f4⟩:=lE hp
   rw [f1] at h
   simp only [aA,beq_iff_eq] at h
   omega
 simp only [aq,beq_eq_false_iff_ne] at h
 obtain ⟨h0,h1⟩:=h
 have hne:(s.drop (aW s).2.toNat).length=s.length - (aW s).2.toNat:=aL ..
 obtain ⟨c,u,hcu⟩:∃ c u,s.drop (aW s).2.toNat=c::u:=by
  cases hc:s.drop (aW s).2.toNat with
  | nil=>rw [hc,al] at hne; omega
  | cons c u=>exact ⟨c,u,rfl⟩
 rw [hcu] at hne ⊢
 have hlu:u.length+1≤s.length:=by rw [← ai (a:=c),hne]; omega
 have hLt:ab (c::u)=(u.length:Int)+1:=by show (((c::u).length:Nat):Int)=_; rw [ai]; omega
 have hLu:ab u=(u.length:Int):=rfl
 have e1:List.drop 1 (c::u)=u:=rfl
 have e2:(c::u).getD 0 0=c:=rfl
 rw [e1,e2]
 refine ⟨⟨by omega,by omega⟩,⟨by omega,by omega⟩,fun h43=>?_,fun h43=>?_⟩
 · have hc:c=43:=cy.1 (by have h9:((c.toNat:Nat):Int)=43:=eq_of_beq h43; show c.toNat=43; omega)
   subst hc
   have hwu:=nC u
   refine ⟨⟨by omega,by omega⟩,fun hu=>⟨by omega,of_decide_eq_true hu⟩,fun hu=>RpQ.no ?_,fun hu=>⟨by omega,fun _=>hwu,fun hb=>RpQ.no ?_,fun hb=>?_⟩⟩
   · rintro ⟨⟨a,b⟩,hp⟩
     obtain ⟨f1,f2,f3,f4⟩:=lE hp
     have en:(aW s).2.toNat=(Lib.itoa a).length:=by rw [f1]; show (((Lib.itoa a).length:Nat):Int).toNat=_; omega
     rw [en,f4] at hcu
     split at hcu
     · rename_i hb
       obtain ⟨q,hq⟩:=itoa_neg hb
       rw [hq,bt] at hcu
       exact absurd (dc hcu).1 (by decide)
     · rename_i hb
       obtain ⟨x,q,hq,hx⟩:=r3 (b:=b) (by omega)
       have e:=(dc hcu).2
       rw [← e,hq,bt] at hu
       rw [af] at hu
       have h9:((x.toNat:Nat):Int)=45:=eq_of_beq hu.2
       have:=jo hx
       omega
   · rintro ⟨⟨a,b⟩,hp⟩
     obtain ⟨f1,f2,f3,f4⟩:=lE hp
     have en:(aW s).2.toNat=(Lib.itoa a).length:=by rw [f1]; show (((Lib.itoa a).length:Nat):Int).toNat=_; omega
     rw [en,f4] at hcu
     split at hcu
     · rename_i hb
       obtain ⟨q,hq⟩:=itoa_neg hb
       rw [hq,bt] at hcu
       exact absurd (dc hcu).1 (by decide)
     · have e:=(dc hcu).2
       have fu:=Km hp.2.1
       have h7:=o8 b
       rw [e] at fu
       have ea:pIn (aW s).1=true:=by rw [f1]; exact hp.1
       have ed:u.drop (Lib.itoa b).length=[105]:=by rw [← e,dF]
       rw [fu,ea] at hb
       have h8:(((Lib.itoa b).length:Int)==0)=false:=by rw [beq_eq_false_iff_ne]; omega
       have h6:pIn b=true:=hp.2.1
       simp only [aI,ed,h8,h6] at hb
       exact absurd hb (by decide)
   · simp only [aq,ct,beq_eq_false_iff_ne,beq_iff_eq] at hb
     obtain ⟨⟨⟨b1,b2⟩,b3⟩,b4⟩:=hb
     have hub:=G0 b1 b2 b4
     refine RpQ.yes (BR h0 b3 b4 ?_)
     rw [hcu]
     split
     · rename_i hn
       exfalso
       obtain ⟨q,hq⟩:=itoa_neg hn
       rw [hq,bt] at hub
       have hlen:0<u.length:=by rw [hub]; simp
       have:u.getD 0 0=45:=by rw [hub]; rfl
       rw [this,decide_eq_true (by omega)] at hu
       exact absurd hu (by decide)
     · exact congrArg _ hub
 · have hc:c≠43:=by rintro rfl; exact absurd h43 (by decide)
   have hwu:=nC (c::u)
   have hlc:(c::u).length=u.length+1:=ai ..
   refine ⟨⟨by omega,by omega⟩,fun hu=>RpQ.no ?_,fun hu=>⟨by omega,fun _=>hwu,fun hb=>RpQ.no ?_,fun hb=>?_⟩⟩
   · rintro ⟨⟨a,b⟩,hp⟩
     obtain ⟨f1,f2,f3,f4⟩:=lE hp
     have en:(aW s).2.toNat=(Lib.itoa a).length:=by rw [f1]; show (((Lib.itoa a).length:Nat):Int).toNat=_; omega
     rw [en,f4] at hcu
     split at hcu
     · rename_i hb
       obtain ⟨q,hq⟩:=itoa_neg hb
       rw [hq,bt] at hcu
       rw [← (dc hcu).1] at hu
       exact absurd hu (by decide)
     · exact hc (dc hcu).1.symm
   · rintro ⟨⟨a,b⟩,hp⟩
     obtain ⟨f1,f2,f3,f4⟩:=lE hp
     have en:(aW s).2.toNat=(Lib.itoa a).length:=by rw [f1]; show (((Lib.itoa a).length:Nat):Int).toNat=_; omega
     rw [en,f4] at hcu
     split at hcu
     · have fu:=Km hp.2.1
       have h7:=o8 b
       rw [hcu] at fu
       have ea:pIn (aW s).1=true:=by rw [f1]; exact hp.1
       have ed:(c::u).drop (Lib.itoa b).length=[105]:=by rw [← hcu,dF]
       rw [fu,ea] at hb
       have h8:(((Lib.itoa b).length:Int)==0)=false:=by rw [beq_eq_false_iff_ne]; omega
       have h6:pIn b=true:=hp.2.1
       simp only [aI,ed,h8,h6] at hb
       exact absurd hb (by decide)
     · exact hc (dc hcu).1.symm
   · simp only [aq,ct,beq_eq_false_iff_ne,beq_iff_eq] at hb
     obtain ⟨⟨⟨b1,b2⟩,b3⟩,b4⟩:=hb
     have hub:=G0 b1 b2 b4
     refine RpQ.yes (BR h0 b3 b4 ?_)
     rw [hcu]
     split
     · exact hub
     · rename_i hn
       exfalso
       obtain ⟨x,q,hq,hx⟩:=r3 (b:=(aW (c::u)).1) (by omega)
       rw [hq,bt] at hub
       have e:=(dc hub).1
       have h9:c=45:=cy.1 (by
        have h9:((c.toNat:Nat):Int)=45:=by simpa using hu
        show c.toNat=45; omega)
       rw [← e,h9] at hx
       exact absurd hx (by decide)
theorem Hn (hs:s.length≤1000000) (h:dr s):ak Tryz.prog 93 [.s s] [] (.tup [.agg [.pd (.int .i64 (ptA s)),.pd (.int .i64 (ptB s))],.c (.pd (.int .i64 0))]) [] :=
 ak.of Tryz.func93 (by kernel_rfl) (by kernel_rfl) fun Γ=>J.mono (fun v k q=>⟨q.1 h,q.2.2⟩) (Ax s hs Γ)
theorem Gg (hs:s.length≤1000000) (h:¬dr s):ak Tryz.prog 93 [.s s] [] (.tup [.agg [.pd (.int .i64 0),.pd (.int .i64 0)],.c (.pd (.int .i64 1))]) [] :=
 ak.of Tryz.func93 (by kernel_rfl) (by kernel_rfl) fun Γ=>J.mono (fun v k q=>⟨q.2.1 h,q.2.2⟩) (Ax s hs Γ)
noncomputable def wX:Ent:=(93,fun
 | [.c (.pd (.str s))],[]=>some (some (s.length≤1000000∧dr s),.tup [.agg [.pd (.int .i64 (ptA s)),.pd (.int .i64 (ptB s))],.c (.pd (.int .i64 0))],[])
 | _,_=>none)
theorem JJ:EntOk Tryz.prog wX:=entOk fun vs ck=>by
 unfold wX; dsimp only; split
 · rename_i s; exact entS fun hp=>Hn s hp.1 hp.2
 · exact entN
noncomputable def xv:Ent:=(93,fun
 | [.c (.pd (.str s))],[]=>some (some (s.length≤1000000∧¬dr s),.tup [.agg [.pd (.int .i64 0),.pd (.int .i64 0)],.c (.pd (.int .i64 1))],[])
 | _,_=>none)
theorem JC:EntOk Tryz.prog xv:=entOk fun vs ck=>by
 unfold xv; dsimp only; split
 · rename_i s; exact entS fun hp=>Gg s hp.1 hp.2
 · exact entN
end Go.Proofs.YtpfidgnkokidoaaGreatDoor
namespace Go.Proofs.YtpfidgnkokidoaaGreatDoor
open Go Go.Ev
set_option maxRecDepth 100000
/-! ### plain -/
def mA:Str→Str→List Str
 | cur,[]=>bif cur==[] then [] else [cur]
 | cur,c::r=>bif c==10 then cur::mA [] r else mA (cur++[c]) r
theorem GN (c d:UInt8) (r:Str):il (c::d::r)=c::il (d::r):=by
 unfold il uc
 have:(c::d::r).getLast?=(d::r).getLast?:=by rw [List.getLast?_cons_cons]
 rw [this]
 split <;> rfl
theorem rE:∀ (r:Str) (c:UInt8) (cur:Str),mA cur (c::r)=dT cur (il (c::r))
 | [],c,cur=>by
   by_cases h:c=10
   · subst h; rfl
   · have h1:(c==10)=false:=by rw [beq_eq_false_iff_ne]; exact h
     have h2:il [c]=[c]:=by unfold il uc; rw [if_neg]; simpa using h
     rw [h2]
     simp only [mA,dT,h1,cond_false]
     have:((cur++[c])==[])=false:=by rw [beq_eq_false_iff_ne]; simp
     rw [this]; rfl
 | d::r,c,cur=>by
   rw [GN,mA,dT,rE r d [],rE r d (cur++[c])]
theorem D1 {s:Str} (h:s≠[]):mA [] s=dj s:=by
 cases s with
 | nil=>exact absurd rfl h
 | cons c r=>exact rE r c []
/-! ### the walk -/
abbrev zXh1:List PI:=[.code [1,1,1,0,1,0,0],.inLoop [1,1,1,0,1,0,0],.inBlock 0,.code [1,1,1,1]]
theorem MH (s:Str) (Γ:Ctx) (hs:s.length≤1000000):∀ (n k f:Nat) (out:List Str),s.length - k≤n→k≤s.length→f≤k→out.length≤f→(s=[]∧out=[]∧dj s=[[]]∨s≠[]∧dj s=out++mA (seg s f k) (s.drop k)) →
 J Tryz.prog 21 (az Tryz.f21) Γ (Eq2 (.x (.c (.own 0))) [.own 9 .str (dj s)]) zXh1 ({ n:=41,fr:=[(0,.p (.str s)),(2,.p (.v (Value.slice none 0 0))),(3,.x (.c (.own 0))),(4,.i ((f:Int))),(5,.i ((k:Int)))],ck:=[.own 9 .str out] }):=by
 have hL:ab s=(s.length:Int):=rfl
 intro n
 induction n with
 | zero=>?_
 | succ n ih=>?_
 all_goals
  intro k f out hn hk hf ho hall
  refine jg aV Tryz.func21 (let x1:List PI:=zXh1; let x2:=(IntKind.wrap .i64 ((k:Int)+1)); let x3:=(out++[(aw s (some (f:Int)) (some (k:Int))).2]); let x4:=(out++[(aw s (some (f:Int)) none).2]); .ite (decide ((k:Int)<ab s)) (.need ((0:Int)≤(k:Int)∧(k:Int)<ab s) (.ite ((↑((List.getD s k (0:UInt8)).toNat):Int)==10) (.need ((0:Int)≤(f:Int)∧(f:Int)≤(k:Int)∧(k:Int)≤(s.length:Int)) (.need (room (x3.length) 16) (.stop x1 { n:=41,fr:=[(0,.p (.str s)),(2,.p (.v (Value.slice none 0 0))),(3,.x (.c (.own 0))),(4,.i x2),(5,.i x2)],ck:=[.own 9 .str x3] }))) (.stop x1 { n:=41,fr:=[(0,.p (.str s)),(2,.p (.v (Value.slice none 0 0))),(3,.x (.c (.own 0))),(4,.i f),(5,.i x2)],ck:=[.own 9 .str out] }))) (.ite (decide ((f:Int)<ab s)||ab s==(0:Int)) (.need ((0:Int)≤(f:Int)∧(f:Int)≤(s.length:Int)) (.need (room (x4.length) 16) (.ret (.x (.c (.own 0))) [.own 9 .str x4]))) (.ret (.x (.c (.own 0))) [.own 9 .str out]))) ?_
  conv=>zeta
  have hcut:(aw s (some (f:Int)) (some (k:Int))).2=seg s f k:=rfl
  have hfrom:(aw s (some (f:Int)) none).2=s.drop f:=by simp [aw]
  rw [hcut,hfrom]
  refine ⟨fun h=>?_,fun h=>⟨fun h2=>?_,fun h2=>?_⟩⟩
  · have hk':k<s.length:=by have:=of_decide_eq_true h; omega
    have hne:s≠[]:=by rintro rfl; exact absurd hk' (by simp)
    rcases hall with hall | hall
    · exact absurd hall.1 hne
    rw [cH hk',mA] at hall
    refine ⟨⟨by omega,by omega⟩,fun h2=>⟨by omega,nR (by rw [aj]; simp only [ai,al]; omega),?_⟩,fun h2=>?_⟩
    · have h10:(s.getD k 0==10)=true:=by
       have h1:=eq_of_beq h2
       rw [beq_iff_eq]; apply cy.1
       show (s.getD k 0).toNat=10
       omega
      rw [h10,cond_true] at hall
      rw [cU (by omega)]
      first
      | (exfalso; omega)
      | exact ih (k+1) (k+1) _ (by omega) (by omega) (by omega) (by simp; omega) (.inr ⟨hne,by rw [hall.2,eV]; simp⟩)
    · have h10:(s.getD k 0==10)=false:=by
       have h1:((((s.getD k 0).toNat:Nat):Int))≠10:=by simpa using h2
       rw [beq_eq_false_iff_ne]; intro e; rw [e] at h1; exact h1 rfl
      rw [h10,cond_false,← gK hk' hf] at hall
      rw [cU (by omega)]
      first
      | (exfalso; omega)
      | exact ih (k+1) f _ (by omega) (by omega) (by omega) ho (.inr hall)
  · have hkl:k=s.length:=by have:=of_decide_eq_false h; omega
    refine ⟨⟨by omega,by omega⟩,nR (by rw [aj]; simp only [ai,al]; omega),?_⟩
    have e:out++[s.drop f]=dj s:=by
     rcases hall with hall | hall
     · rw [hall.2.2,hall.2.1,hall.1]; simp
     · have hlt:f<s.length:=by
        simp only [aA,decide_eq_true_eq,beq_iff_eq] at h2
        rcases h2 with h2 | h2
        · omega
        · exact absurd (bj.1 (by omega)) hall.1
       have e1:seg s f k=s.drop f:=by rw [hkl]; unfold seg; rw [eM]
       have e2:(s.drop f==([]:Str))=false:=by
        rw [beq_eq_false_iff_ne]; intro x
        have:=congrArg List.length x
        rw [aL,al] at this; omega
       rw [hall.2,e1,hkl,fJ,mA,e2]; rfl
    rw [e]; exact ⟨rfl,rfl⟩
  · have hkl:k=s.length:=by have:=of_decide_eq_false h; omega
    simp only [aq,decide_eq_false_iff_not,beq_eq_false_iff_ne] at h2
    have e:out=dj s:=by
     rcases hall with hall | hall
     · exact absurd (by rw [hall.1]; rfl) h2.2
     · have e1:seg s f k=[]:=by rw [hkl]; unfold seg; rw [eM,cG]; omega
       rw [hall.2,e1,hkl,fJ,mA]; simp
    rw [e]; exact ⟨rfl,rfl⟩
theorem AS (s:Str) (hs:s.length≤1000000):ak Tryz.prog 21 [.s s] [] (.x (.c (.own 0))) [.own 9 .str (dj s)]:=by
 refine dg aV Tryz.func21 (.stop zXh1 { n:=41,fr:=[(0,.p (.str s)),(2,.p (.v (Value.slice none 0 0))),(3,.p (.v (Value.slice none 0 0))),(4,.i 0),(5,.i 0)],ck:=[] }) fun Γ=>?_
 refine J.nilOwn 3 9 .str rfl (by kernel_rfl) ?_
 refine MH s Γ hs s.length 0 0 [] (by omega) (by omega) (by omega) (by simp) ?_
 by_cases h:s=[]
 · subst h; exact .inl ⟨rfl,rfl,rfl⟩
 · exact .inr ⟨h,by rw [eV,List.drop_zero,cn,D1 h]⟩
noncomputable def uI:Ent:=(21,fun
 | [.c (.pd (.str s))],[]=>some (some (s.length≤1000000),.x (.c (.own 0)),[.own 9 .str (dj s)])
 | _,_=>none)
theorem uX:EntOk Tryz.prog uI:=entOk fun vs ck=>by
 unfold uI; dsimp only; split
 · rename_i s; exact entS fun hp=>AS s hp
 · exact entN
end Go.Proofs.YtpfidgnkokidoaaGreatDoor
namespace Go.Proofs.YtpfidgnkokidoaaGreatDoor
open Go Go.Ev
set_option maxRecDepth 100000
theorem Cq:ak Tryz.prog 73 [] [] (.x (.agg [.pd (.str []),.pd (.str gu),.pd (.str jf),.pd (.str hO),.pd (.str gx),.pd (.str eY),.pd (.str hP)])) []:=by
 refine dg aV Tryz.func73 (.ret (.x (.agg [.pd (.str []),.pd (.str [98,97,115,105,99]),.pd (.str [111,110,101]),.pd (.str [98,111,116,104]),.pd (.str [102,105,110,97,108]),.pd (.str [115,104,97,108,108,111,119]),.pd (.str [100,101,101,112])])) []) fun Γ=>⟨rfl,rfl⟩
def yM:Ent:=(73,fun
 | [],[]=>some (none,.x (.agg [.pd (.str []),.pd (.str gu),.pd (.str jf),.pd (.str hO),.pd (.str gx),.pd (.str eY),.pd (.str hP)]),[])
 | _,_=>none)
theorem Bw:EntOk Tryz.prog yM:=entOk fun vs ck=>by
 unfold yM; dsimp only; split
 · exact entS fun hp=>Cq
 · exact entN
def Cj:Cfg:=⟨a6,[jb,yM]⟩
theorem ys:ah Tryz.prog Cj.tab:=(ah.cons gD (ah.cons Bw ah.nil))
def kindOf (k:Str):Int:=if k=hP then 6 else if k=eY then 5 else if k=gx then 4 else if k=hO then 3 else if k=jf then 2 else if k=gu then 1 else 0
variable (c:Chart) (d q r:Int) (w:List Str)
def cj:Nat:=if q=2∨4<q then 2 else 1
def SdQ (q:Int):Out:=fun v k=>(q=0→v = .x (.i 0)∧k=fW c)∧(q≠0→(∀ c',aH q (cj q) c d (w.drop 1)=some c'→v = .x (.i 1)∧Rn 5 k (ckD c'))∧(aH q (cj q) c d (w.drop 1)=none→v = .x (.i 2)))
theorem SdQ.none {c:Chart} {d:Int} {w:List Str}:SdQ c d w 0 (.x (.i 0)) (fW c):=⟨fun _=>⟨rfl,rfl⟩,fun h=>absurd rfl h⟩
theorem SdQ.no {c:Chart} {d q:Int} {w:List Str} {k:List Chunk} (hq:q≠0) (h:aH q (cj q) c d (w.drop 1)=Option.none):SdQ c d w q (.x (.i 2)) k:=⟨fun h2=>absurd h2 hq,fun _=>⟨fun c' h2=>(by rw [h] at h2; cases h2),fun _=>rfl⟩⟩
theorem SdQ.yes {c c':Chart} {d q:Int} {w:List Str} {k:List Chunk} (hq:q≠0) (h:aH q (cj q) c d (w.drop 1)=some c') (hk:k=H6 c'):SdQ c d w q (.x (.i 1)) k:=⟨fun h2=>absurd h2 hq,fun _=>⟨fun c2 h2=>⟨rfl,by rw [h] at h2; cases h2; exact (IsD.of3 hk).2⟩,fun h2=>(by rw [h] at h2; cases h2)⟩⟩
theorem yb (h0:0<w.length) (hn:cj q=2) (hr:cW c=r):(((w.length:Int) != 3)||decide (d>r) || !aC (ETy.get .str w 1) || !aC (ETy.get .str w 2))=decide ¬(d≤cW c∧(w.drop 1).length=cj q∧aC (ag (w.drop 1) 0)=true∧aC (ag (w.drop 1) (cj q - 1))=true):=by
 rw [hr,hn,bV,cF,cF,aL]
 have e1:ETy.get .str w 1=ag w 1:=rfl
 have e2:ETy.get .str w 2=ag w 2:=rfl
 rw [e1,e2]
 simp only [aA,decide_eq_true_eq,bne_iff_ne,ne_eq,aE]
 show _↔¬(_∧_∧aC (ag w 1)=true∧aC (ag w 2)=true)
 cases aC (ag w 1) <;> cases aC (ag w 2) <;> simp <;> omega
theorem xV (h0:0<w.length) (hn:cj q=1) (hr:cW c=r):(((w.length:Int) != 2)||decide (d>r) || !aC (ETy.get .str w 1) || !aC (ETy.get .str w 1))=decide ¬(d≤cW c∧(w.drop 1).length=cj q∧aC (ag (w.drop 1) 0)=true∧aC (ag (w.drop 1) (cj q - 1))=true):=by
 rw [hr,hn,bV,cF,aL]
 have e1:ETy.get .str w 1=ag w 1:=rfl
 rw [e1]
 simp only [aA,decide_eq_true_eq,bne_iff_ne,ne_eq,aE]
 show _↔¬(_∧_∧aC (ag w 1)=true∧aC (ag w 1)=true)
 cases aC (ag w 1) <;> simp <;> omega
abbrev zXi1 (a:Chart):List Chunk:=[.cells [.pd (.str a.name),.own 1,.own 2,.own 3,.own 4] 27,.own 9 .str a.events,.own 61 .var a.vars,.own 64 .stat a.states,.own 68 .tran a.trans]
theorem xM (hf:Fit c 6001) (h0:0<w.length) (Γ:Ctx):J Tryz.prog 51 (az Tryz.f51) Γ (SdQ c d w q) [.code [1,1,0,1,0,0],.inLoop [1,1,0,1,0,0],.inBlock 0,.code [1,1,1]] ({ n:=99,fr:=[(0,.x (.c (.loc 0 0))),(1,.i d),(2,.p (.lst .str w)),(6,.i 0),(7,.i q),(8,.i (7))],ck:=(zXi1 c),m:=5 }):=by
 refine jg ys Tryz.func51 (let x6:=(c.states++[{ name:=ETy.get .str w 1,kind:=q,depth:=d,initial:=ETy.get .str w 2,entry:=[],leave:=[] }]); let x1:Tree:=(.need (inRg 2 w.length) (.need (room (List.length x6) 96) (.ret (.i 1) [.cells [.pd (.str c.name),.own 1,.own 2,.own 5,.own 4] 27,.own 9 .str c.events,.own 61 .var c.vars,.dead,.own 68 .tran c.trans,.own 64 .stat x6]))); let x7:=(c.states++[{ name:=ETy.get .str w 1,kind:=q,depth:=d,initial:=[],entry:=[],leave:=[] }]); let x2:Tree:=(.need (room (List.length x7) 96) (.ret (.i 1) [.cells [.pd (.str c.name),.own 1,.own 2,.own 5,.own 4] 27,.own 9 .str c.events,.own 61 .var c.vars,.dead,.own 68 .tran c.trans,.own 64 .stat x7])); let x3:List Chunk:=(zXi1 c); let x5:=(c.states.length:Int); let x4:=(d>IntKind.wrap .i64 (Stat.depth (ETy.get .stat c.states ((IntKind.wrap .i64 (x5 - 1)).toNat))+(1:Int))); let x8:=((0:Int)≤IntKind.wrap .i64 (x5 - 1)∧IntKind.wrap .i64 (x5 - 1)<x5); let x9:=((IntKind.wrap .i64 (x5 - 1)).toNat<c.states.length); let x10:Tree:=(.need (inRg 1 w.length) (.ite false x1 x2)); let x11:Tree:=(.need (inRg 1 w.length) (.ite true x1 x2)); .ite false (.stop [.code [1,1,0,1,0,0,1,0,0,0],.code [1,1,0,1,0,0,1,0,0,1],.inBlock 1,.code [1,1,0,1,0,0,1,1],.inLoop [1,1,0,1,0,0],.inBlock 0,.code [1,1,1]] { n:=99,fr:=[(0,.x (.c (.loc 0 0))),(1,.i d),(2,.p (.lst .str w)),(6,.i 0),(7,.i q),(8,.i 7)],ck:=x3,m:=5 }) (.ite (q==(0:Int)) (.ret (.i 0) x3) (.ite (q==(2:Int)||decide (q>(4:Int))) (.ite (decide (x5>0)) (.need x8 (.need x9 (.need (((w.length:Int) != 3||decide x4)=false→(0:Int)≤1∧(1:Int)<(w.length:Int)) (.need (((w.length:Int) != 3||decide x4 || !aC (ETy.get .str w 1))=false→(0:Int)≤IntKind.wrap .i64 ((3:Int) - 1)∧IntKind.wrap .i64 ((3:Int) - 1)<(w.length:Int)) (.ite ((w.length:Int) != 3||decide x4 || !aC (ETy.get .str w 1) || !aC (ETy.get .str w 2)) (.ret (.i 2) x3) x11))))) (.need (((w.length:Int) != 3||decide (d>(0:Int)))=false→(0:Int)≤1∧(1:Int)<(w.length:Int)) (.need (((w.length:Int) != 3||decide (d>(0:Int)) || !aC (ETy.get .str w 1))=false→(0:Int)≤IntKind.wrap .i64 ((3:Int) - 1)∧IntKind.wrap .i64 ((3:Int) - 1)<(w.length:Int)) (.ite ((w.length:Int) != 3||decide (d>(0:Int)) || !aC (ETy.get .str w 1) || !aC (ETy.get .str w 2)) (.ret (.i 2) x3) x11)))) (.ite (decide (x5>0)) (.need x8 (.need x9 (.need (((w.length:Int) != 2||decide x4)=false→(0:Int)≤1∧(1:Int)<(w.length:Int)) (.need (((w.length:Int) != 2||decide x4 || !aC (ETy.get .str w 1))=false→(0:Int)≤IntKind.wrap .i64 ((2:Int) - 1)∧IntKind.wrap .i64 ((2:Int) - 1)<(w.length:Int)) (.ite ((w.length:Int) != 2||decide x4 || !aC (ETy.get .str w 1) || !aC (ETy.get .str w 1)) (.ret (.i 2) x3) x10))))) (.need (((w.length:Int) != 2||decide (d>(0:Int)))=false→(0:Int)≤1∧(1:Int)<(w.length:Int)) (.need (((w.length:Int) != 2||decide (d>(0:Int)) || !aC (ETy.get .str w 1))=false→(0:Int)≤IntKind.wrap .i64 ((2:Int) - 1)∧IntKind.wrap .i64 ((2:Int) - 1)<(w.length:Int)) (.ite ((w.length:Int) != 2||decide (d>(0:Int)) || !aC (ETy.get .str w 1) || !aC (ETy.get .str w 1)) (.ret (.i 2) x3) x10))))))) ?_
 conv=>zeta
 have hs:=hf.states
 have hw1:IntKind.wrap .i64 ((3:Int) - 1)=(2:Int):=by rw [bG (by omega) (by omega)]; rfl
 have hw0:IntKind.wrap .i64 ((2:Int) - 1)=(1:Int):=by rw [bG (by omega) (by omega)]; rfl
 have len:∀ (n r:Int),(((w.length:Int) != n)||decide (d>r))=false→(w.length:Int)=n:=fun n r h=>by
  rw [aq] at h
  simpa using h.1
 refine ⟨fun h=>Bool.noConfusion h,fun _=>⟨fun hq=>?_,fun hq=>⟨fun hk=>?_,fun hk=>?_⟩⟩⟩
 · have e:q=0:=eq_of_beq hq
   subst e; exact SdQ.none
 all_goals
  have hq0:q≠0:=by simpa using hq
  refine ⟨fun h=>?_,fun h=>?_⟩
 · have hn:cj q=2:=by
    simp only [aA,beq_iff_eq,decide_eq_true_eq] at hk; exact if_pos (by omega)
   have h1:c.states.length≠0:=by have:=of_decide_eq_true h; omega
   have hr:=kp h1
   have hd:=jV hf h1
   rw [iH h1 (by omega),aI,bG (n:=(ETy.get .stat c.states (c.states.length - 1)).depth+1) (by omega) (by omega),hw1,yb c d q _ w h0 hn hr]
   refine ⟨⟨by omega,by omega⟩,by omega,fun h=>?_,fun h=>?_,fun hb=>SdQ.no hq0 (if_neg (of_decide_eq_true hb)),fun hb=>?_⟩
   · have:=len _ _ h; omega
   · rw [aq] at h
     have:=len _ _ h.1; omega
   · have hok:=Classical.not_not.1 (of_decide_eq_false hb)
     have hl:w.length=3:=by have:=hok.2.1; rw [aL,hn] at this; omega
     exact ⟨⟨by omega,by omega⟩,fun _=>⟨⟨by omega,by omega⟩,ku (by simp only [aj,ai,al]; omega),SdQ.yes hq0 (if_pos hok) (by rw [cF,cF,if_pos hn]; rfl)⟩,fun x=>Bool.noConfusion x⟩
 · have hn:cj q=2:=by
    simp only [aA,beq_iff_eq,decide_eq_true_eq] at hk; exact if_pos (by omega)
   have h1:c.states.length=0:=by have:=of_decide_eq_false h; omega
   have hr:=mo h1
   rw [hw1,yb c d q _ w h0 hn hr]
   refine ⟨fun h=>?_,fun h=>?_,fun hb=>SdQ.no hq0 (if_neg (of_decide_eq_true hb)),fun hb=>?_⟩
   · have:=len _ _ h; omega
   · rw [aq] at h
     have:=len _ _ h.1; omega
   · have hok:=Classical.not_not.1 (of_decide_eq_false hb)
     have hl:w.length=3:=by have:=hok.2.1; rw [aL,hn] at this; omega
     exact ⟨⟨by omega,by omega⟩,fun _=>⟨⟨by omega,by omega⟩,ku (by simp only [aj,ai,al]; omega),SdQ.yes hq0 (if_pos hok) (by rw [cF,cF,if_pos hn]; rfl)⟩,fun x=>Bool.noConfusion x⟩
 · have hn:cj q=1:=by
    simp only [aq,beq_eq_false_iff_ne,decide_eq_false_iff_not] at hk; exact if_neg (by omega)
   have h1:c.states.length≠0:=by have:=of_decide_eq_true h; omega
   have hr:=kp h1
   have hd:=jV hf h1
   rw [iH h1 (by omega),aI,bG (n:=(ETy.get .stat c.states (c.states.length - 1)).depth+1) (by omega) (by omega),hw0,xV c d q _ w h0 hn hr]
   refine ⟨⟨by omega,by omega⟩,by omega,fun h=>?_,fun h=>?_,fun hb=>SdQ.no hq0 (if_neg (of_decide_eq_true hb)),fun hb=>?_⟩
   · have:=len _ _ h; omega
   · rw [aq] at h
     have:=len _ _ h.1; omega
   · have hok:=Classical.not_not.1 (of_decide_eq_false hb)
     have hl:w.length=2:=by have:=hok.2.1; rw [aL,hn] at this; omega
     exact ⟨⟨by omega,by omega⟩,fun x=>Bool.noConfusion x,fun _=>⟨ku (by simp only [aj,ai,al]; omega),SdQ.yes hq0 (if_pos hok) (by rw [cF,if_neg (by omega)]; rfl)⟩⟩
 · have hn:cj q=1:=by
    simp only [aq,beq_eq_false_iff_ne,decide_eq_false_iff_not] at hk; exact if_neg (by omega)
   have h1:c.states.length=0:=by have:=of_decide_eq_false h; omega
   have hr:=mo h1
   rw [hw0,xV c d q _ w h0 hn hr]
   refine ⟨fun h=>?_,fun h=>?_,fun hb=>SdQ.no hq0 (if_neg (of_decide_eq_true hb)),fun hb=>?_⟩
   · have:=len _ _ h; omega
   · rw [aq] at h
     have:=len _ _ h.1; omega
   · have hok:=Classical.not_not.1 (of_decide_eq_false hb)
     have hl:w.length=2:=by have:=hok.2.1; rw [aL,hn] at this; omega
     exact ⟨⟨by omega,by omega⟩,fun x=>Bool.noConfusion x,fun _=>⟨ku (by simp only [aj,ai,al]; omega),SdQ.yes hq0 (if_pos hok) (by rw [cF,if_neg (by omega)]; rfl)⟩⟩
end Go.Proofs.YtpfidgnkokidoaaGreatDoor
