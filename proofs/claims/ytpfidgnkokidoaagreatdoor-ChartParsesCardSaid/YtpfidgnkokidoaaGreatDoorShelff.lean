/- The library's contracts of strconv.FormatInt at base 10, laid at this dump by the kit's tools. Conditions: its table. Contracts: numbers told. Conditions: int64; the library's table. Contracts: names, events' names. Conditions: none. Contracts: actions that may be. Conditions: none. Contracts: lists of cells alike; two rules of the executor. Conditions: none. Contracts: the document's blocks that may be, blocks alike. Conditions: sizes. The library's contracts of the shelf, laid at this dump by the kit's tools. Conditions: each one's own. The library's contracts of the shelf, laid at this dump by the kit's tools. Conditions: each one's own. The library's contracts of the shelf, laid at this dump by the kit's tools. Conditions: each one's own. -/
import Derived.Shelf.LaysM
import Derived.Shelf.Strconv.Itoa4
import Derived.Test.YtpfidgnkokidoaaGreatDoorProg
import Derived.Test.YtpfidgnkokidoaaGreatDoorDa
import Derived.Lib.AppendIntMem
import Derived.Test.YtpfidgnkokidoaaGreatDoorNr
import Derived.Test.YtpfidgnkokidoaaGreatDoorVc
import Derived.Shelf.Strings.Split
import Derived.Shelf.Strings.Cut
import Derived.Shelf.Lays
import Derived.Shelf.Strings.OnBuilder
namespace Go.Proofs
open Go.Shelf
def Tryz.laysM173_ren:Go.Shelf.Ren:=⟨fun | 173=>97 | 246=>132 | 283=>172 | 284=>173 | 285=>174 | 286=>175 | 129=>198 | 317=>197 | 318=>199 | 319=>200 | 320=>201 | 337=>213 | 338=>214 | n=>n,fun | 2=>2 | 3=>3 | 9=>9 | 4=>4 | 171=>213 | 0=>0 | 53=>182 | 37=>71 | 5=>5 | 173=>216 | 212=>240 | 51=>179 | 20=>20 | 213=>241 | 46=>145 | 232=>253 | 233=>254 | n=>n,fun | 17=>3 | 18=>6 | 19=>7 | n=>n⟩
theorem Tryz.laysM173:Go.Proofs.LaysM.n173 Tryz.prog Tryz.laysM173_ren:={
 mixed:=by kernel_rfl
 f129:=Tryz.func198.trans (congrArg some (by kernel_rfl))
 f173:=Tryz.func97.trans (congrArg some (by kernel_rfl))
 f246:=Tryz.func132.trans (congrArg some (by kernel_rfl))
 f283:=Tryz.func172.trans (congrArg some (by kernel_rfl))
 f284:=Tryz.func173.trans (congrArg some (by kernel_rfl))
 f285:=Tryz.func174.trans (congrArg some (by kernel_rfl))
 f286:=Tryz.func175.trans (congrArg some (by kernel_rfl))
 f317:=Tryz.func197.trans (congrArg some (by kernel_rfl))
 f318:=Tryz.func199.trans (congrArg some (by kernel_rfl))
 f319:=Tryz.func200.trans (congrArg some (by kernel_rfl))
 f320:=Tryz.func201.trans (congrArg some (by kernel_rfl))
 f337:=Tryz.func213.trans (congrArg some (by kernel_rfl))
 f338:=Tryz.func214.trans (congrArg some (by kernel_rfl))
 t0:=Tryz.underlying0
 a0:=Tryz.isAgg0
 z0:=Tryz.sizeOf0
 v0:=Tryz.zeroValue0
 t2:=Tryz.underlying2
 a2:=Tryz.isAgg2
 z2:=Tryz.sizeOf2
 v2:=Tryz.zeroValue2
 t3:=Tryz.underlying3
 a3:=Tryz.isAgg3
 z3:=Tryz.sizeOf3
 v3:=Tryz.zeroValue3
 t4:=Tryz.underlying4
 a4:=Tryz.isAgg4
 z4:=Tryz.sizeOf4
 v4:=Tryz.zeroValue4
 t5:=Tryz.underlying5
 a5:=Tryz.isAgg5
 z5:=Tryz.sizeOf5
 v5:=Tryz.zeroValue5
 t9:=Tryz.underlying9
 a9:=Tryz.isAgg9
 z9:=Tryz.sizeOf9
 v9:=Tryz.zeroValue9
 t20:=Tryz.underlying20
 a20:=Tryz.isAgg20
 z20:=Tryz.sizeOf20
 v20:=Tryz.zeroValue20
 t37:=Tryz.underlying71
 a37:=Tryz.isAgg71
 z37:=Tryz.sizeOf71
 v37:=Tryz.zeroValue71
 t46:=Tryz.underlying145
 a46:=Tryz.isAgg145
 z46:=Tryz.sizeOf145
 v46:=Tryz.zeroValue145
 t51:=Tryz.underlying179
 a51:=Tryz.isAgg179
 z51:=Tryz.sizeOf179
 v51:=Tryz.zeroValue179
 t53:=Tryz.underlying182
 a53:=Tryz.isAgg182
 z53:=Tryz.sizeOf182
 v53:=Tryz.zeroValue182
 t171:=Tryz.underlying213
 a171:=Tryz.isAgg213
 z171:=Tryz.sizeOf213
 v171:=Tryz.zeroValue213
 t173:=Tryz.underlying216
 a173:=Tryz.isAgg216
 z173:=Tryz.sizeOf216
 v173:=Tryz.zeroValue216
 t212:=Tryz.underlying240
 a212:=Tryz.isAgg240
 z212:=Tryz.sizeOf240
 v212:=Tryz.zeroValue240
 t213:=Tryz.underlying241
 a213:=Tryz.isAgg241
 z213:=Tryz.sizeOf241
 t232:=Tryz.underlying253
 a232:=Tryz.isAgg253
 z232:=Tryz.sizeOf253
 v232:=Tryz.zeroValue253
 t233:=Tryz.underlying254
 a233:=Tryz.isAgg254
 z233:=Tryz.sizeOf254
 v233:=Tryz.zeroValue254
 g17:=by kernel_rfl
 g18:=by kernel_rfl
 g19:=by kernel_rfl
 i0:=by kernel_rfl
 i2:=by kernel_rfl
 i3:=by kernel_rfl
 i4:=by kernel_rfl
 i5:=by kernel_rfl
 i9:=by kernel_rfl
 i20:=by kernel_rfl
 i37:=by kernel_rfl
 i46:=by kernel_rfl
 i51:=by kernel_rfl
 i53:=by kernel_rfl
 i171:=by kernel_rfl
 i173:=by kernel_rfl
 i212:=by kernel_rfl
 i232:=by kernel_rfl
 i233:=by kernel_rfl
 m17:=by kernel_rfl
 m18:=by kernel_rfl
 m19:=by kernel_rfl }
open Go.RowKit Go.Sort Go.Lib in
theorem Tryz.strconv_FormatInt_10 (n:Int) (h0 : -9223372036854775808≤n) (h1:n≤9223372036854775807) (w:World) (htab:Lib.TabIs Tryz.prog w "internal/strconv.uint64pow10" .u64 Lib.pow10Tab) :
 Calls Tryz.prog 97 #[.int .i64 n,.int .i64 10] w fun e w'=>e = .returned (.string ⟨(Lib.itoa n).toArray⟩)∧∃ k os,w'=grow (w.drewN k) os:=Any.strconv_FormatInt_10 Tryz.laysM173 n h0 h1 w htab
end Go.Proofs
namespace Go.Proofs.YtpfidgnkokidoaaGreatDoor
open Go Go.Ev Go.RowKit
set_option maxRecDepth 100000
theorem jU {w w':World} (h:Below w.heap.size w w'):Fr (fun _=>False) w w':=⟨h.os,h.tape,h.output,h.size,fun k hk _=>h.block k hk⟩
theorem uN (n:Int) (h0 : -9223372036854775808≤n) (h1:n≤9223372036854775807):ak Tryz.prog 97 [.i n,.i 10] [] (.x (.s (Lib.itoa n))) []:=by
 intro w V vs hw hT hv
 cases hv with
 | cons a1 hv=>cases hv with
   | cons a2 hv =>
     cases hv
     have a1':PR V.H (.int .i64 n) _:=a1
     have a2':PR V.H (.int .i64 10) _:=a2
     cases a1'
     cases a2'
     have ht:Lib.TabIs Tryz.prog w "internal/strconv.uint64pow10" .u64 Lib.pow10Tab:=(hT.1 (by kernel_rfl)).world hw.imm
     refine (Tryz.strconv_FormatInt_10 n h0 h1 w ht).mono fun e w' ⟨he,k,os,hw'⟩=>?_
     subst he; subst hw'
     exact ⟨_,V,rfl,.str (Lib.itoa n),hw.kept (jU (Lib.below_grow w.heap.size w (aD _) k os))⟩
def eFi:Ent:=(97,fun
 | [.c (.pd (.int .i64 n)),.c (.pd (.int .i64 10))],[]=>some (some (-9223372036854775808≤n∧n≤9223372036854775807),.x (.c (.pd (.str (Lib.itoa n)))),[])
 | _,_=>none)
theorem Ng:EntOk Tryz.prog eFi:=entOk fun vs ck=>by
 unfold eFi; dsimp only; split
 · rename_i n; exact entS fun hp=>uN n hp.1 hp.2
 · exact entN
end Go.Proofs.YtpfidgnkokidoaaGreatDoor
namespace Go.Proofs.YtpfidgnkokidoaaGreatDoor
open Go Go.Ev
set_option maxRecDepth 100000
def F1:Cfg:=⟨a6,[p5,gG]⟩
theorem E9:ah Tryz.prog F1.tab:=(ah.cons mV (ah.cons fw ah.nil))
variable (s:Str)
theorem Dc:ak Tryz.prog 85 [.s s] [] (.x (.b (cg s))) []:=by
 refine dg E9 Tryz.func85 (.ret (.p (.bool (aC (bf s [(100:UInt8),111,110,101,46])))) []) fun Γ=>?_
 exact ⟨rfl,rfl⟩
def iV:Ent:=(85,fun
 | [.c (.pd (.str s))],[]=>some (none,.x (.c (.pd (.bool (cg s)))),[])
 | _,_=>none)
theorem ix:EntOk Tryz.prog iV:=entOk fun vs ck=>by
 unfold iV; dsimp only; split
 · rename_i s; exact entS fun hp=>Dc s
 · exact entN
theorem JB:bf ([100,111,110,101,46]++s) [100,111,110,101,46]=s:=by
 have h:aS ([100,111,110,101,46]++s) [100,111,110,101,46]=true:=by
  simp [aS,ab]; omega
 rw [bf,h]; rfl
theorem Is:aC ([100,111,110,101,46]++s)=false:=by
 have:([100,111,110,101,46]++s:Str).any kH=true:=by
  rw [List.any_append]
  have:([100,111,110,101,46]:Str).any kH=true:=by decide
  rw [this]; rfl
 rw [aC,this]; simp
theorem oj {s p:Str} (h:aS s p=true):∃ r,s=p++r:=by
 simp only [aS,af,beq_iff_eq,decide_eq_true_eq] at h
 refine ⟨s.drop (ab p).toNat,?_⟩
 have:=c7 (ab p).toNat s
 rw [h.2] at this; exact this.symm
theorem Gf:cg ([100,111,110,101,46]++s)=aC s:=by rw [cg,JB]
theorem Je {s:Str} (h:aS s [100,111,110,101,46]=false):cg s=aC s:=by simp [cg,bf,h]
def Hf:Cfg:=⟨a6,[jb]⟩
theorem GW:ah Tryz.prog Hf.tab:=(ah.cons gD ah.nil)
theorem uW:ak Tryz.prog 129 [.s s] [] (.x (.b (cg s))) []:=by
 refine dg GW Tryz.func129 (.need (aC s=false∧decide (ab s>(5:Int))=true→(0:Int)≤5∧(5:Int)≤(s.length:Int)) (.need (aC s=false∧(decide (ab s>(5:Int))&&(aw s none (some (5:Int))).2==[100,111,110,101,46])=true→(0:Int)≤5∧(5:Int)≤(s.length:Int)) (.ret (.p (.bool (aC s||decide (ab s>(5:Int))&&(aw s none (some (5:Int))).2==[100,111,110,101,46]&&aC ((aw s (some (5:Int)) none).2)))) []))) fun Γ=>?_
 have hL:ab s=(s.length:Int):=rfl
 refine ⟨fun h=>by have:=of_decide_eq_true h.2; omega,fun h=>by simp only [af,decide_eq_true_eq] at h; omega,?_,rfl⟩
 cases hp:aS s [100,111,110,101,46]
 · rw [Je hp]
   have h5:(decide (ab s>5)&&(aw s none (some 5)).2==[100,111,110,101,46])=false:=by
    cases hb:(decide (ab s>5)&&(aw s none (some 5)).2==[100,111,110,101,46])
    · rfl
    · exfalso
      simp only [af,decide_eq_true_eq] at hb
      have:aS s [100,111,110,101,46]=true:=by
       simp only [aS,af,decide_eq_true_eq]
       refine ⟨?_,hb.2⟩
       have h2:ab [100,111,110,101,46]=5:=rfl
       omega
      rw [this] at hp; cases hp
   rw [h5,cJ,eu]
 · obtain ⟨r,rfl⟩:=oj hp
   rw [Gf,Is,cl]
   have hc:(aw ([100,111,110,101,46]++r) (some 5) none).2=r:=rfl
   have hc2:(aw ([100,111,110,101,46]++r) none (some 5)).2=[100,111,110,101,46]:=rfl
   rw [hc,hc2]
   cases r with
   | nil=>rfl
   | cons c r =>
     have:decide (ab ([100,111,110,101,46]++c::r)>5)=true:=decide_eq_true (by
      have:ab ([100,111,110,101,46]++c::r)=((([100,111,110,101,46]++c::r):Str).length:Int):=rfl
      rw [this]; simp only [aj,ai,al]; omega)
     rw [this]; rfl
def gZ:Ent:=(129,fun
 | [.c (.pd (.str s))],[]=>some (none,.x (.c (.pd (.bool (cg s)))),[])
 | _,_=>none)
theorem iz:EntOk Tryz.prog gZ:=entOk fun vs ck=>by
 unfold gZ; dsimp only; split
 · rename_i s; exact entS fun hp=>uW s
 · exact entN
end Go.Proofs.YtpfidgnkokidoaaGreatDoor
namespace Go.Proofs.YtpfidgnkokidoaaGreatDoor
open Go Go.Ev
set_option maxRecDepth 100000
theorem rj {α:Type} (p:α→Bool):∀ (l:List α) (i:Int),0≤i→(gQ p l i≥0↔l.any p=true)
 | [],i,_=>by simp [gQ]
 | x::r,i,h=>by
   have ih:=rj p r (i+1) (by omega)
   unfold gQ
   rw [List.any_cons]
   cases hp:p x
   · simpa using ih
   · simpa using h
theorem AG {α:Type} (p:α→Bool) (l:List α) (i:Int) (h:0≤i):decide (gQ p l i≥0)=l.any p:=by
 have:=rj p l i h
 cases hl:l.any p
 · rw [hl] at this; exact decide_eq_false (fun h2=>by simp at this; omega)
 · rw [hl] at this; exact decide_eq_true (this.2 rfl)
variable (l:List Cell) {b:Bool} (d:Deed) (Γ:Ctx)
theorem nt (h:(!b)=true):b=false:=by cases b <;> simp_all
theorem nf (h:(!b)=false):b=true:=by cases b <;> simp_all
/-! ### plain -/
def jX:Bool:=l.any fun c=>c.op==6
def iv:Bool:=ir l && !jX l
def bB:Str:=[114,97,105,115,101,58]
def cv:Str:=[115,101,110,100,58]
def bW:Bool:=bif d.kind==1 then aC d.name&&iv d.expr else bif d.kind==2||d.kind==3 then cg d.name&&((d.expr.length:Int)==0) else false
def qM (l:List Deed):Bool:=l.all bW&&(decide ((l.length:Int)>0)&&decide ((l.length:Int)≤8))
/-! ### the program's -/
theorem F4 (c:Cell):ak Tryz.prog 190 [.e .cell c] [] (.x (.b (c.op==6))) []:=by
 refine dg aV Tryz.func190 (.ret (.p (.bool (c.op==(6:Int)))) []) fun Γ=>⟨rfl,rfl⟩
def xn:Ent:=(190,fun
 | [.agg [.pd (.int .i64 a),.pd (.int .i64 b),.pd (.str d)]],[]=>some (none,.x (.c (.pd (.bool (a==6)))),[])
 | _,_=>none)
theorem H8:EntOk Tryz.prog xn:=entOk fun vs ck=>by
 unfold xn; dsimp only; split
 · rename_i a b d; exact entS fun hp=>F4 ⟨a,b,d⟩
 · exact entN
def uD:Cfg:=⟨a6,[xn]⟩
theorem tY:ah Tryz.prog uD.tab:=(ah.cons H8 ah.nil)
abbrev zUp1:List PI:=[.code [1,0,1,0,0],.inLoop [1,0,1,0,0],.inBlock 0,.code [1,1]]
theorem J8 (hl:l.length≤maxLen)  : ∀ (n k:Nat),l.length - k≤n→k≤l.length →
 J Tryz.prog 211 (az Tryz.f211) Γ (Eq2 (.x (.i (gQ (fun c:Cell=>c.op==6) (l.drop k) k))) []) zUp1 ({ n:=19,fr:=[(0,.p (.lst .cell l)),(1,.x (.c (.fn (.func 190) [] []))),(4,.i 0),(7,.i l.length),(8,.i k)],ck:=[] }):=by
 intro n
 induction n with
 | zero=>?_
 | succ n ih=>?_
 all_goals
  intro k hn hk
  refine jg tY Tryz.func211 (.ite (decide ((k:Int)<(l.length:Int))) (.need (inRg k l.length) (.ite (Cell.op (ETy.get .cell l k)==(6:Int)) (.ret (.i k) []) (.stop zUp1 { n:=19,fr:=[(0,.p (.lst .cell l)),(1,.x (.c (.fn (.func 190) [] []))),(4,.i 0),(7,.i l.length),(8,.i (IntKind.wrap .i64 ((k:Int)+1)))],ck:=[] }))) (.ret (.i (-1:Int)) [])) ?_
  refine ⟨fun hlt=>?_,fun hge=>?_⟩
  · have hk':k<l.length:=by have:=of_decide_eq_true hlt; omega
    rw [dw (t:=.cell) (l:=l) hk']
    refine ⟨by omega,?_⟩
    generalize ETy.get .cell l k=v
    refine ⟨fun hb=>⟨?_,rfl⟩,fun hb=>?_⟩
    · simp only [gQ,hb,cond_true]
    · simp only [gQ,hb,cond_false]; (rw [cU (ju hk' hl)]; first | (exfalso; omega) | exact ih (k+1) (by omega) (by omega))
  · rw [dy (l:=l) (by have:=of_decide_eq_false hge; omega)]
    exact ⟨rfl,rfl⟩
theorem JM:ak Tryz.prog 211 [.l .cell (l),SX.c (SC.fn (Fn.func 190) [] [])] [] (.x (.i (gQ (fun c:Cell=>c.op==6) l 0))) []:=by
 refine dg tY Tryz.func211 (.stop zUp1 { n:=19,fr:=[(0,.p (.lst .cell l)),(1,.x (.c (.fn (.func 190) [] []))),(4,.i 0),(7,.i l.length),(8,.i 0)],ck:=[] }) fun Γ=>?_
 exact J.len 0 rfl fun hl=>J8 l Γ hl l.length 0 (by omega) (by omega)
def Ci:Ent:=(211,fun
 | [.c (.pd (.lst .cell l)),.c (.fn (.func 190) [] [])],[]=>some (none,.x (.c (.pd (.int .i64 (gQ (fun c:Cell=>c.op==6) l 0)))),[])
 | _,_=>none)
theorem Ls:EntOk Tryz.prog Ci:=entOk fun vs ck=>by
 unfold Ci; dsimp only; split
 · rename_i l; exact entS fun hp=>JM l
 · exact entN
def GO:Cfg:=⟨a6,[Ci]⟩
theorem G4:ah Tryz.prog GO.tab:=(ah.cons Ls ah.nil)
theorem J2:ak Tryz.prog 189 [.l .cell l,.c (.fn (.func 190) [] [])] [] (.x (.b (jX l))) []:=by
 refine dg G4 Tryz.func189 (.ret (.p (.bool (decide (gQ (fun c=>c.op==(6:Int)) l (0:Int)≥0)))) []) fun Γ=>⟨?_,rfl⟩
 rw [AG _ _ _ (by omega)]; rfl
def Cl:Ent:=(189,fun
 | [.c (.pd (.lst .cell l)),.c (.fn (.func 190) [] [])],[]=>some (none,.x (.c (.pd (.bool (jX l)))),[])
 | _,_=>none)
theorem Lm:EntOk Tryz.prog Cl:=entOk fun vs ck=>by
 unfold Cl; dsimp only; split
 · rename_i l; exact entS fun hp=>J2 l
 · exact entN
def xQ:Cfg:=⟨a6,[pZ,Cl]⟩
theorem A8:ah Tryz.prog xQ.tab:=(ah.cons vm (ah.cons Lm ah.nil))
theorem AA:ak Tryz.prog 163 [.l .cell l] [] (.x (.b (iv l))) []:=by
 refine dg A8 Tryz.func163 (.ret (.p (.bool (ir l && !jX l))) []) fun Γ=>?_
 exact ⟨rfl,rfl⟩
def kV:Ent:=(163,fun
 | [.c (.pd (.lst .cell l))],[]=>some (none,.x (.c (.pd (.bool (iv l)))),[])
 | _,_=>none)
theorem nB:EntOk Tryz.prog kV:=entOk fun vs ck=>by
 unfold kV; dsimp only; split
 · rename_i l; exact entS fun hp=>AA l
 · exact entN
def BV:Cfg:=⟨a6,[gG,kV,iV]⟩
theorem CS:ah Tryz.prog BV.tab:=(ah.cons fw (ah.cons nB (ah.cons ix ah.nil)))
theorem Fa:ak Tryz.prog 137 [.e .deed d] [] (.x (.b (bW d))) []:=by
 refine dg CS Tryz.func137 (.ite (d.kind==(1:Int)) (.ret (.p (.bool (aC d.name&&iv d.expr))) []) (.ite (d.kind==(2:Int)) (.ret (.p (.bool (cg d.name&&(d.expr.length:Int)==0))) []) (.ite (d.kind==(3:Int)) (.ret (.p (.bool (cg d.name&&(d.expr.length:Int)==0))) []) (.ret (.p (.bool false)) [])))) fun Γ=>?_
 unfold bW
 refine ⟨fun h=>?_,fun h1=>⟨fun h=>?_,fun h2=>⟨fun h=>?_,fun h3=>?_⟩⟩⟩
 · rw [h]; exact ⟨rfl,rfl⟩
 · rw [h1,h]; exact ⟨rfl,rfl⟩
 · rw [h1,h2,h]; exact ⟨rfl,rfl⟩
 · rw [h1,h2,h3]; exact ⟨rfl,rfl⟩
def wV:Ent:=(137,fun
 | [.agg [.pd (.int .i64 a),.pd (.str b),.pd (.lst .cell d)]],[]=>some (none,.x (.c (.pd (.bool (bW ⟨a,b,d⟩)))),[])
 | _,_=>none)
theorem JD:EntOk Tryz.prog wV:=entOk fun vs ck=>by
 unfold wV; dsimp only; split
 · rename_i a b d; exact entS fun hp=>Fa ⟨a,b,d⟩
 · exact entN
def r6:Cfg:=⟨a6,[wV]⟩
theorem qS:ah Tryz.prog r6.tab:=(ah.cons JD ah.nil)
theorem Ml (l:List Deed) (Γ:Ctx) (hl:l.length≤maxLen)  : ∀ (n k:Nat),l.length - k≤n→k≤l.length →
 J Tryz.prog 101 (az Tryz.f101) Γ (Eq2 (.x (.b ((l.drop k).all bW&&(decide ((l.length:Int)>0)&&decide ((l.length:Int)≤8))))) []) zUp1 ({ n:=23,fr:=[(0,.p (.lst .deed l)),(2,.p (.bool false)),(5,.p (.lst .deed l)),(6,.i l.length),(7,.i k)],ck:=[],kn:=[2] }):=by
 intro n
 induction n with
 | zero=>?_
 | succ n ih=>?_
 all_goals
  intro k hn hk
  refine jg qS Tryz.func101 (.ite (decide ((k:Int)<(l.length:Int))) (.need (inRg k l.length) (.ite (!bW (ETy.get .deed l k)) (.ret (.p (.bool false)) []) (.stop zUp1 { n:=23,fr:=[(0,.p (.lst .deed l)),(2,.p (.bool false)),(5,.p (.lst .deed l)),(6,.i l.length),(7,.i (IntKind.wrap .i64 ((k:Int)+1)))],ck:=[],kn:=[2] }))) (.ret (.p (.bool (decide ((l.length:Int)>0)&&decide ((l.length:Int)≤8)))) [])) ?_
  refine ⟨fun hlt=>?_,fun hge=>?_⟩
  · have hk':k<l.length:=by have:=of_decide_eq_true hlt; omega
    rw [dw (t:=.deed) (l:=l) hk']
    refine ⟨by omega,?_⟩
    generalize ETy.get .deed l k=v
    rw [bA]
    refine ⟨fun hb=>⟨?_,rfl⟩,fun hb=>?_⟩
    · have hb':bW v=false:=nt hb
      rw [hb']; rfl
    · have hb':bW v=true:=nf hb
      rw [hb',cf]; (rw [cU (ju hk' hl)]; first | (exfalso; omega) | exact ih (k+1) (by omega) (by omega))
  · rw [dy (l:=l) (by have:=of_decide_eq_false hge; omega)]
    exact ⟨rfl,rfl⟩
theorem K7 (l:List Deed):ak Tryz.prog 101 [.l .deed (l)] [] (.x (.b (qM l))) []:=by
 refine dg qS Tryz.func101 (.stop zUp1 { n:=23,fr:=[(0,.p (.lst .deed l)),(2,.p (.bool false)),(5,.p (.lst .deed l)),(6,.i l.length),(7,.i 0)],ck:=[],kn:=[2] }) fun Γ=>?_
 exact J.len 0 rfl fun hl=>Ml l Γ hl l.length 0 (by omega) (by omega)
def tH:Ent:=(101,fun
 | [.c (.pd (.lst .deed l))],[]=>some (none,.x (.c (.pd (.bool (qM l)))),[])
 | _,_=>none)
theorem FA:EntOk Tryz.prog tH:=entOk fun vs ck=>by
 unfold tH; dsimp only; split
 · rename_i l; exact entS fun hp=>K7 l
 · exact entN
end Go.Proofs.YtpfidgnkokidoaaGreatDoor
namespace Go.Proofs.YtpfidgnkokidoaaGreatDoor
open Go Go.Ev
set_option maxRecDepth 100000
variable {P:Program} {f:FuncId} {root:Code} {Γ:Ctx} {Q:Out} (a b:List Cell)
theorem J.settle {todo:List PI} {st:ST} {t s:Nat} {want:Bool} {v:SX} (hm:(t,SV.grd s want v)∈st.fr) (hb:lookup st.fr s=some (.x (.c (.pd (.bool want))))) {fr':List (Nat×SV)} (hf:∀ p∈fr',p∈st.fr∨p=(t,.x v))
 (hk:J P f root Γ Q todo { st with fr:=fr' }):J P f root Γ Q todo st:=by
 intro hT V a w r
 have hon:a.tmps.getD s undef = .bool want:=by
  have:=r.slots s _ (dp hb)
  have h2:SX.R V (.c (.pd (.bool want))) (a.tmps.getD s undef):=this
  generalize a.tmps.getD s undef=u at h2 ⊢
  cases h2; rfl
 have hv:dH V a t (.x v):=(r.slots t _ hm).1 hon
 refine hk hT V a w ⟨r.1,r.2,fun t' sv h'=>?_,r.4,r.5⟩
 rcases hf _ h' with h | h
 · exact r.slots _ _ h
 · simp only [ae] at h
   obtain ⟨rfl,rfl⟩:=h; exact hv
def Bx (P:Program) (cfg:Cfg) (root:Code) (p:List Nat) (i:Nat) (st:ST):Option (Option Prop×ST) :=
 match (opsOf (sub root p))[i]? with
 | some o=>match o.guard with
   | none=>oZ P cfg o st
   | some _=>none
 | none=>none
theorem J.step {cfg:Cfg} {f:FuncId} {root:Code} {Γ:Ctx} {Q:Out} {st st':ST} (ht:ah P cfg.tab) {p:List Nat} {i:Nat} {k:List PI} {q:Option Prop} (h:Bx P cfg root p i st=some (q,st')) (hq:Holds q) (hk:J P f root Γ Q (.ops p (i+1)::k) st'):J P f root Γ Q (.ops p i::k) st:=by
 unfold Bx at h
 split at h
 · rename_i o ho
   split at h
   · rename_i hg
     intro hT V a w r
     have hi:i<(opsOf (sub root p)).size:=(Array.getElem?_eq_some_iff.1 ho).1
     have hsz:(opsOf (sub root p)).size - i=((opsOf (sub root p)).size - (i+1))+1:=by omega
     simp only [aJ,PI.den]
     rw [hsz,cD]
     exact jG ⟨ht,hT⟩ r ho (by simp only [Region.wanted,hg]) h hq fun V' a' w' r'=>hk hT V' a' w' r'
   · cases h
 · cases h
/-! ### lists, alike -/
def eS:List Cell→List Cell→Bool
 | [],[]=>true
 | x::r,y::q=>(x.op==y.op&&(x.a==y.a&&x.name==y.name))&&eS r q
 | _,_=>false
theorem sA:∀ a b:List Cell,a.length≠b.length→eS a b=false
 | [],[],h=>absurd rfl h
 | [],_::_,_=>rfl
 | _::_,[],_=>rfl
 | x::r,y::q,h=>by
   rw [eS,sA r q (fun e=>h (by simp [e])),bu]
abbrev zOs1:List PI:=[.code [1,1,0,1,0,0],.inLoop [1,1,0,1,0,0],.inBlock 0,.code [1,1,1]]
theorem Fs (Γ:Ctx) (hab:a.length=b.length) (ha:a.length≤1000000):∀ (n k:Nat),a.length - k≤n→k≤a.length →
 J Tryz.prog 25 (az Tryz.f25) Γ (Eq2 (.x (.b (eS (a.drop k) (b.drop k)))) []) zOs1 ({ n:=26,fr:=[(0,.p (.lst .cell a)),(1,.p (.lst .cell b)),(4,.p (.bool false)),(5,.i ((k:Int)))],ck:=[],kn:=[4] }):=by
 intro n
 induction n with
 | zero=>?_
 | succ n ih=>?_
 all_goals
  intro k hn hk
  refine jg aV Tryz.func25 (.ite (decide ((k:Int)<(a.length:Int))) (.need (inRg k a.length) (.need (inRg k b.length) (.ite (!(Cell.op (ETy.get .cell a k)==Cell.op (ETy.get .cell b k)&&(Cell.a (ETy.get .cell a k)==Cell.a (ETy.get .cell b k)&&Cell.name (ETy.get .cell a k)==Cell.name (ETy.get .cell b k)))) (.ret (.p (.bool false)) []) (.stop zOs1 { n:=26,fr:=[(0,.p (.lst .cell a)),(1,.p (.lst .cell b)),(4,.p (.bool false)),(5,.i (IntKind.wrap .i64 ((k:Int)+1)))],ck:=[] })))) (.ret (.p (.bool true)) [])) ?_
  refine ⟨fun hlt=>?_,fun hge=>?_⟩
  · have hk':k<a.length:=by have:=of_decide_eq_true hlt; omega
    have hkb:k<b.length:=by omega
    rw [dw (t:=.cell) (l:=a) hk',dw (t:=.cell) (l:=b) hkb]
    refine ⟨by omega,by omega,?_⟩
    generalize ETy.get .cell a k=x
    generalize ETy.get .cell b k=y
    refine ⟨fun h=>?_,fun h=>?_⟩
    · have h':(x.op==y.op&&(x.a==y.a&&x.name==y.name))=false:=by rw [aE] at h; exact h
      rw [eS,h',cJ]; exact ⟨rfl,rfl⟩
    · have h':(x.op==y.op&&(x.a==y.a&&x.name==y.name))=true:=by rw [ct] at h; exact h
      rw [eS,h',cf,cU (by omega)]
      first
      | (exfalso; omega)
      | exact J.kn [4] (ih (k+1) (by omega) (by omega))
  · have hk2:k=a.length:=by have:=of_decide_eq_false hge; omega
    have e:a.drop k=[]:=dy (by omega)
    have e2:b.drop k=[]:=dy (by omega)
    rw [e,e2]; exact ⟨rfl,rfl⟩
theorem HH (ha:a.length≤1000000):ak Tryz.prog 25 [.l .cell a,.l .cell b] [] (.x (.b (eS a b))) []:=by
 refine dg aV Tryz.func25 (.ite ((a.length:Int) != (b.length:Int)) (.ret (.p (.bool false)) []) (.stop zOs1 { n:=26,fr:=[(0,.p (.lst .cell a)),(1,.p (.lst .cell b)),(4,.p (.bool false)),(5,.i 0)],ck:=[],kn:=[4] })) fun Γ=>?_
 refine ⟨fun h=>?_,fun h=>?_⟩
 · rw [sA a b (by
    have:(a.length:Int)≠b.length:=by simpa using h
    omega)]; exact ⟨rfl,rfl⟩
 · have hab:a.length=b.length:=by
    have:(a.length:Int)=b.length:=by simpa using h
    omega
   exact Fs a b Γ hab ha a.length 0 (by omega) (bJ _)
def sY:Ent:=(25,fun
 | [.c (.pd (.lst .cell a)),.c (.pd (.lst .cell b))],[]=>some (some (a.length≤1000000),.x (.c (.pd (.bool (eS a b)))),[])
 | _,_=>none)
theorem xI:EntOk Tryz.prog sY:=entOk fun vs ck=>by
 unfold sY; dsimp only; split
 · rename_i a b; exact entS fun hp=>HH a b hp
 · exact entN
end Go.Proofs.YtpfidgnkokidoaaGreatDoor
namespace Go.Proofs.YtpfidgnkokidoaaGreatDoor
open Go Go.Ev
set_option maxRecDepth 100000
abbrev zUq2:List PI:=[.code [1,0,1,0,0],.inLoop [1,0,1,0,0],.inBlock 0,.code [1,1]]
variable (a b:List Deed) (l:List Cell) (Γ:Ctx)
theorem Mf (hl:l.length≤maxLen)  : ∀ (n k:Nat),l.length - k≤n→k≤l.length →
 J Tryz.prog 177 (az Tryz.f177) Γ (Eq2 (.x (.b (jX (l.drop k)))) []) zUq2 ({ n:=16,fr:=[(0,.p (.lst .cell l)),(2,.p (.bool false)),(3,.i k)],ck:=[],kn:=[2] }):=by
 intro n
 induction n with
 | zero=>?_
 | succ n ih=>?_
 all_goals
  intro k hn hk
  refine jg aV Tryz.func177 (.ite (decide ((k:Int)<(l.length:Int))) (.need (inRg k l.length) (.ite (Cell.op (ETy.get .cell l k)==(6:Int)) (.ret (.p (.bool true)) []) (.stop zUq2 { n:=16,fr:=[(0,.p (.lst .cell l)),(2,.p (.bool false)),(3,.i (IntKind.wrap .i64 ((k:Int)+1)))],ck:=[],kn:=[2] }))) (.ret (.p (.bool false)) [])) ?_
  refine ⟨fun hlt=>?_,fun hge=>?_⟩
  · have hk':k<l.length:=by have:=of_decide_eq_true hlt; omega
    rw [dw (t:=.cell) (l:=l) hk']
    refine ⟨by omega,?_⟩
    generalize ETy.get .cell l k=v
    have e:jX (v::l.drop (k+1))=(v.op==6||jX (l.drop (k+1))):=List.any_cons
    rw [e]
    refine ⟨fun hb=>⟨?_,rfl⟩,fun hb=>?_⟩
    · have hb':(v.op==6)=true:=hb
      rw [hb']; rfl
    · have hb':(v.op==6)=false:=hb
      rw [hb',cl]; (rw [cU (ju hk' hl)]; first | (exfalso; omega) | exact J.kn [2] (ih (k+1) (by omega) (by omega)))
  · rw [dy (l:=l) (by have:=of_decide_eq_false hge; omega)]
    exact ⟨rfl,rfl⟩
theorem L0:ak Tryz.prog 177 [.l .cell (l)] [] (.x (.b (jX l))) []:=by
 refine dg aV Tryz.func177 (.stop zUq2 { n:=16,fr:=[(0,.p (.lst .cell l)),(2,.p (.bool false)),(3,.i 0)],ck:=[],kn:=[2] }) fun Γ=>?_
 exact J.len 0 rfl fun hl=>Mf l Γ hl l.length 0 (by omega) (by omega)
def sS:Ent:=(177,fun
 | [.c (.pd (.lst .cell l))],[]=>some (none,.x (.c (.pd (.bool (jX l)))),[])
 | _,_=>none)
theorem G2:EntOk Tryz.prog sS:=entOk fun vs ck=>by
 unfold sS; dsimp only; split
 · rename_i l; exact entS fun hp=>L0 l
 · exact entN
def BK:Cfg:=⟨a6,[jb,qE,sS,gZ]⟩
theorem B9:ah Tryz.prog BK.tab:=(ah.cons gD (ah.cons DQ (ah.cons G2 (ah.cons iz ah.nil))))
theorem vK (d:Deed):ak Tryz.prog 139 [.e .deed d] [] (.x (.b (bW d))) []:=by
 refine dg B9 Tryz.func139 (.ite (d.kind==(1:Int)) (.ret (.p (.bool (aC d.name&&ir d.expr && !jX d.expr))) []) (.ret (.p (.bool ((d.kind==(2:Int)||d.kind==(3:Int))&&cg d.name&&(d.expr.length:Int)==0))) [])) fun Γ=>?_
 unfold bW iv
 refine ⟨fun h=>?_,fun h=>?_⟩
 · rw [h,cond_true,← eH]; exact ⟨rfl,rfl⟩
 · rw [h,cond_false]
   cases h2:(d.kind==2||d.kind==3)
   · rw [cJ,cJ]; exact ⟨rfl,rfl⟩
   · rw [cf]; exact ⟨rfl,rfl⟩
def sM:Ent:=(139,fun
 | [.agg [.pd (.int .i64 a),.pd (.str b),.pd (.lst .cell d)]],[]=>some (none,.x (.c (.pd (.bool (bW ⟨a,b,d⟩)))),[])
 | _,_=>none)
theorem xB:EntOk Tryz.prog sM:=entOk fun vs ck=>by
 unfold sM; dsimp only; split
 · rename_i a b d; exact entS fun hp=>vK ⟨a,b,d⟩
 · exact entN
/-! ### alike -/
def oh (x y:Deed):Bool:=x.kind==y.kind&&(x.name==y.name&&eS x.expr y.expr)
def cO:List Deed→List Deed→Bool
 | [],[]=>true
 | x::r,y::q=>oh x y&&cO r q
 | _,_=>false
theorem oD:∀ a b:List Deed,a.length≠b.length→cO a b=false
 | [],[],h=>absurd rfl h
 | [],_::_,_=>rfl
 | _::_,[],_=>rfl
 | x::r,y::q,h=>by rw [cO,oD r q (fun e=>h (by simp [e])),bu]
def C7:Cfg:=⟨a6,[sY]⟩
theorem xX:ah Tryz.prog C7.tab:=(ah.cons xI ah.nil)
abbrev zUq1:List PI:=[.code [1,1,0,1,0,0],.inLoop [1,1,0,1,0,0],.inBlock 0,.code [1,1,1]]
theorem Lz (hl:a.length≤maxLen) (hab:a.length=b.length) (ha:∀ d∈a,d.expr.length≤1000000):∀ (n k:Nat),a.length - k≤n→k≤a.length →
 J Tryz.prog 24 (az Tryz.f24) Γ (Eq2 (.x (.b (cO (a.drop k) (b.drop k)))) []) zUq1 ({ n:=55,fr:=[(0,.p (.lst .deed a)),(1,.p (.lst .deed b)),(4,.p (.bool false)),(5,.i k)],ck:=[],kn:=[4] }):=by
 intro n
 induction n with
 | zero=>?_
 | succ n ih=>?_
 all_goals
  intro k hn hk
  refine jg xX Tryz.func24 (let x1:=(((24,41,false,eU false (Deed.kind (ETy.get .deed a k) != Deed.kind (ETy.get .deed b k) || !Deed.name (ETy.get .deed a k)==Deed.name (ETy.get .deed b k)) none).2).2); let x2:=(((11,28,false,eU false (Deed.kind (ETy.get .deed a k) != Deed.kind (ETy.get .deed b k)) none).2).2); .ite (decide ((k:Int)<(a.length:Int))) (.need (inRg k a.length) (.need (inRg k b.length) (.need (x2.2→(0:Int)≤(k:Int)∧(k:Int)<(a.length:Int)) (.need (x2.2→(0:Int)≤(k:Int)∧(k:Int)<(b.length:Int)) (.need (x1.2→(0:Int)≤(k:Int)∧(k:Int)<(a.length:Int)) (.need (x1.2→(0:Int)≤(k:Int)∧(k:Int)<(b.length:Int)) (.need (x1.2→(Deed.expr (ETy.get .deed a k)).length≤1000000) (.ite (Deed.kind (ETy.get .deed a k) != Deed.kind (ETy.get .deed b k) || !Deed.name (ETy.get .deed a k)==Deed.name (ETy.get .deed b k) || !eS (Deed.expr (ETy.get .deed a k)) (Deed.expr (ETy.get .deed b k))) (.ret (.p (.bool false)) []) (.stop zUq1 { n:=55,fr:=[(0,.p (.lst .deed a)),(1,.p (.lst .deed b)),(4,.p (.bool false)),(5,.i (IntKind.wrap .i64 ((k:Int)+1)))],ck:=[] }))))))))) (.ret (.p (.bool true)) [])) ?_
  conv=>zeta
  refine ⟨fun hlt=>?_,fun hge=>?_⟩
  · have hk':k<a.length:=by have:=of_decide_eq_true hlt; omega
    have hx:(ETy.get .deed a k).expr.length≤1000000:=ha _ (List.mem_of_getElem? (ETy.getElem?_get (t:=.deed) hk'))
    rw [dw (t:=.deed) (l:=a) hk',dw (t:=.deed) (l:=b) (by omega)]
    refine ⟨by omega,by omega,fun _=>by omega,fun _=>by omega,fun _=>by omega,fun _=>by omega,fun _=>hx,?_⟩
    generalize ETy.get .deed a k=x
    generalize ETy.get .deed b k=y
    have e:oh x y = !(x.kind != y.kind || !(x.name==y.name) || !eS x.expr y.expr):=by
     simp only [oh,bne,Bool.not_or,Bool.not_not,eH]
    refine ⟨fun hb=>⟨?_,rfl⟩,fun hb=>?_⟩
    · rw [cO,e,hb]; rfl
    · rw [cO,e,hb,Bool.not_false,cf,cU (ju hk' hl)]
      first
      | (exfalso; omega)
      | exact J.kn [4] (ih (k+1) (by omega) (by omega))
  · rw [dy (l:=a) (by have:=of_decide_eq_false hge; omega),dy (l:=b) (by have:=of_decide_eq_false hge; omega)]
    exact ⟨rfl,rfl⟩
theorem LR (ha:∀ d∈a,d.expr.length≤1000000):ak Tryz.prog 24 [.l .deed a,.l .deed b] [] (.x (.b (cO a b))) []:=by
 refine dg xX Tryz.func24 (.ite ((a.length:Int) != (b.length:Int)) (.ret (.p (.bool false)) []) (.stop zUq1 { n:=55,fr:=[(0,.p (.lst .deed a)),(1,.p (.lst .deed b)),(4,.p (.bool false)),(5,.i 0)],ck:=[],kn:=[4] })) fun Γ=>?_
 refine ⟨fun h=>?_,fun h=>?_⟩
 · rw [oD a b (by
    have:(a.length:Int)≠b.length:=by simpa using h
    omega)]; exact ⟨rfl,rfl⟩
 · have hab:a.length=b.length:=by
    have:(a.length:Int)=b.length:=by simpa using h
    omega
   exact J.len 0 rfl fun hl=>Lz a b Γ hl hab ha a.length 0 (by omega) (by omega)
def sQ:Ent:=(24,fun
 | [.c (.pd (.lst .deed a)),.c (.pd (.lst .deed b))],[]=>some (some (∀ d∈a,d.expr.length≤1000000),.x (.c (.pd (.bool (cO a b)))),[])
 | _,_=>none)
theorem HE:EntOk Tryz.prog sQ:=entOk fun vs ck=>by
 unfold sQ; dsimp only; split
 · rename_i a b; exact entS fun hp=>LR a b hp
 · exact entN
end Go.Proofs.YtpfidgnkokidoaaGreatDoor
namespace Go.Proofs
open Go.Shelf
def Tryz.lays146_ren:Go.Shelf.Ren:=⟨fun | 146=>17 | 221=>47 | 268=>88 | 138=>89 | 143=>90 | 195=>123 | 197=>124 | 218=>125 | 219=>126 | 260=>164 | 217=>165 | 225=>166 | 224=>167 | 267=>168 | 266=>191 | 314=>192 | n=>n,fun | 9=>9 | 31=>22 | 3=>3 | 4=>4 | 0=>0 | 105=>173 | 21=>21 | 5=>5 | 46=>145 | 119=>232 | 139=>235 | 138=>234 | 146=>180 | 51=>179 | n=>n,fun | 1=>0 | 3=>1 | 4=>2 | n=>n⟩
theorem Tryz.lays146:Go.Proofs.Lays.n146 Tryz.prog Tryz.lays146_ren:={
 mixed:=by kernel_rfl
 f138:=Tryz.func89.trans (congrArg some (by kernel_rfl))
 f143:=Tryz.func90.trans (congrArg some (by kernel_rfl))
 f146:=Tryz.func17.trans (congrArg some (by kernel_rfl))
 f195:=Tryz.func123.trans (congrArg some (by kernel_rfl))
 f197:=Tryz.func124.trans (congrArg some (by kernel_rfl))
 f217:=Tryz.func165.trans (congrArg some (by kernel_rfl))
 f218:=Tryz.func125.trans (congrArg some (by kernel_rfl))
 f219:=Tryz.func126.trans (congrArg some (by kernel_rfl))
 f221:=Tryz.func47.trans (congrArg some (by kernel_rfl))
 f224:=Tryz.func167.trans (congrArg some (by kernel_rfl))
 f225:=Tryz.func166.trans (congrArg some (by kernel_rfl))
 f260:=Tryz.func164.trans (congrArg some (by kernel_rfl))
 f266:=Tryz.func191.trans (congrArg some (by kernel_rfl))
 f267:=Tryz.func168.trans (congrArg some (by kernel_rfl))
 f268:=Tryz.func88.trans (congrArg some (by kernel_rfl))
 f314:=Tryz.func192.trans (congrArg some (by kernel_rfl))
 t0:=Tryz.underlying0
 a0:=Tryz.isAgg0
 z0:=Tryz.sizeOf0
 v0:=Tryz.zeroValue0
 t3:=Tryz.underlying3
 a3:=Tryz.isAgg3
 z3:=Tryz.sizeOf3
 v3:=Tryz.zeroValue3
 t4:=Tryz.underlying4
 a4:=Tryz.isAgg4
 z4:=Tryz.sizeOf4
 v4:=Tryz.zeroValue4
 t5:=Tryz.underlying5
 a5:=Tryz.isAgg5
 z5:=Tryz.sizeOf5
 v5:=Tryz.zeroValue5
 t9:=Tryz.underlying9
 a9:=Tryz.isAgg9
 z9:=Tryz.sizeOf9
 v9:=Tryz.zeroValue9
 t21:=Tryz.underlying21
 a21:=Tryz.isAgg21
 z21:=Tryz.sizeOf21
 v21:=Tryz.zeroValue21
 t31:=Tryz.underlying22
 a31:=Tryz.isAgg22
 z31:=Tryz.sizeOf22
 v31:=Tryz.zeroValue22
 t46:=Tryz.underlying145
 a46:=Tryz.isAgg145
 z46:=Tryz.sizeOf145
 v46:=Tryz.zeroValue145
 t51:=Tryz.underlying179
 a51:=Tryz.isAgg179
 z51:=Tryz.sizeOf179
 v51:=Tryz.zeroValue179
 t105:=Tryz.underlying173
 a105:=Tryz.isAgg173
 z105:=Tryz.sizeOf173
 v105:=Tryz.zeroValue173
 t119:=Tryz.underlying232
 a119:=Tryz.isAgg232
 z119:=Tryz.sizeOf232
 t138:=Tryz.underlying234
 a138:=Tryz.isAgg234
 z138:=Tryz.sizeOf234
 v138:=Tryz.zeroValue234
 t139:=Tryz.underlying235
 a139:=Tryz.isAgg235
 z139:=Tryz.sizeOf235
 v139:=Tryz.zeroValue235
 t146:=Tryz.underlying180
 a146:=Tryz.isAgg180
 z146:=Tryz.sizeOf180
 v146:=Tryz.zeroValue180
 g1:=by kernel_rfl
 g3:=by kernel_rfl
 g4:=by kernel_rfl }
open Go.RowKit Go.Lib in
theorem Tryz.strings_Split (s sep:ByteArray) (m:Int) (w:World) (hs:s.size<4294967281) (hm:w.cell? ⟨0,0,none⟩=some (.int .i64 m)) (h1:1≤sep.size) :
 Calls Tryz.prog 17 #[.string s,.string sep] w fun e w' =>
  e = .returned (.slice (some ⟨w.heap.size,0,none⟩) (Lib.countB s sep+1) (Lib.countB s sep+1))∧w'=w.alloc (.cells ((Lib.splitB sep 0 (Lib.countB s sep) s).map Value.string).toArray 9):=Any.strings_Split Tryz.lays146 (by kernel_rfl) s sep m w hs hm h1
end Go.Proofs
namespace Go.Proofs
open Go.Shelf
def Tryz.lays145_ren:Go.Shelf.Ren:=⟨fun | 145=>162 | 220=>188 | 219=>126 | 217=>165 | 225=>166 | 224=>167 | 267=>168 | 266=>191 | 314=>192 | n=>n,fun | 9=>9 | 4=>4 | 59=>203 | 3=>3 | 5=>5 | 46=>145 | 146=>180 | 51=>179 | n=>n,fun | 1=>0 | n=>n⟩
theorem Tryz.lays145:Go.Proofs.Lays.n145 Tryz.prog Tryz.lays145_ren:={
 mixed:=by kernel_rfl
 f145:=Tryz.func162.trans (congrArg some (by kernel_rfl))
 f217:=Tryz.func165.trans (congrArg some (by kernel_rfl))
 f219:=Tryz.func126.trans (congrArg some (by kernel_rfl))
 f220:=Tryz.func188.trans (congrArg some (by kernel_rfl))
 f224:=Tryz.func167.trans (congrArg some (by kernel_rfl))
 f225:=Tryz.func166.trans (congrArg some (by kernel_rfl))
 f266:=Tryz.func191.trans (congrArg some (by kernel_rfl))
 f267:=Tryz.func168.trans (congrArg some (by kernel_rfl))
 f314:=Tryz.func192.trans (congrArg some (by kernel_rfl))
 t3:=Tryz.underlying3
 a3:=Tryz.isAgg3
 z3:=Tryz.sizeOf3
 v3:=Tryz.zeroValue3
 t4:=Tryz.underlying4
 a4:=Tryz.isAgg4
 z4:=Tryz.sizeOf4
 v4:=Tryz.zeroValue4
 t5:=Tryz.underlying5
 a5:=Tryz.isAgg5
 z5:=Tryz.sizeOf5
 v5:=Tryz.zeroValue5
 t9:=Tryz.underlying9
 a9:=Tryz.isAgg9
 z9:=Tryz.sizeOf9
 v9:=Tryz.zeroValue9
 t46:=Tryz.underlying145
 a46:=Tryz.isAgg145
 z46:=Tryz.sizeOf145
 v46:=Tryz.zeroValue145
 t51:=Tryz.underlying179
 a51:=Tryz.isAgg179
 z51:=Tryz.sizeOf179
 v51:=Tryz.zeroValue179
 t59:=Tryz.underlying203
 a59:=Tryz.isAgg203
 z59:=Tryz.sizeOf203
 v59:=Tryz.zeroValue203
 t146:=Tryz.underlying180
 a146:=Tryz.isAgg180
 z146:=Tryz.sizeOf180
 v146:=Tryz.zeroValue180
 g1:=by kernel_rfl }
open Go.RowKit Go.Lib in
theorem Tryz.strings_Cut (s sep:ByteArray) (m:Int) (w:World) (hs:s.size<4294967281) (hm:w.cell? ⟨0,0,none⟩=some (.int .i64 m)) :
 Calls Tryz.prog 162 #[.string s,.string sep] w fun e w'=>e = .returned (.tuple #[.string ⟨(Lib.cut s.data.toList sep.data.toList).1.toArray⟩,.string ⟨(Lib.cut s.data.toList sep.data.toList).2.1.toArray⟩,.bool (Lib.cut s.data.toList sep.data.toList).2.2])∧∃ n,w'=w.drewN n:=Any.strings_Cut Tryz.lays145 s sep m w hs hm
end Go.Proofs
namespace Go.Proofs
open Go.Shelf
def Tryz.lays156_ren:Go.Shelf.Ren:=⟨fun | 156=>102 | 165=>100 | 166=>26 | 169=>30 | 240=>54 | 241=>136 | 276=>96 | 277=>176 | n=>n,fun | 31=>22 | 9=>9 | 3=>3 | 4=>4 | 0=>0 | 20=>20 | 72=>73 | 76=>76 | 70=>70 | 37=>71 | 75=>75 | 127=>103 | 164=>141 | 5=>5 | 80=>81 | n=>n,fun | n=>n⟩
theorem Tryz.lays156:Go.Proofs.Lays.n156 Tryz.prog Tryz.lays156_ren:={
 mixed:=by kernel_rfl
 f156:=Tryz.func102.trans (congrArg some (by kernel_rfl))
 f165:=Tryz.func100.trans (congrArg some (by kernel_rfl))
 f166:=Tryz.func26.trans (congrArg some (by kernel_rfl))
 f169:=Tryz.func30.trans (congrArg some (by kernel_rfl))
 f240:=Tryz.func54.trans (congrArg some (by kernel_rfl))
 f241:=Tryz.func136.trans (congrArg some (by kernel_rfl))
 f276:=Tryz.func96.trans (congrArg some (by kernel_rfl))
 f277:=Tryz.func176.trans (congrArg some (by kernel_rfl))
 t0:=Tryz.underlying0
 a0:=Tryz.isAgg0
 z0:=Tryz.sizeOf0
 v0:=Tryz.zeroValue0
 t3:=Tryz.underlying3
 a3:=Tryz.isAgg3
 z3:=Tryz.sizeOf3
 v3:=Tryz.zeroValue3
 t4:=Tryz.underlying4
 a4:=Tryz.isAgg4
 z4:=Tryz.sizeOf4
 v4:=Tryz.zeroValue4
 t9:=Tryz.underlying9
 a9:=Tryz.isAgg9
 z9:=Tryz.sizeOf9
 v9:=Tryz.zeroValue9
 t20:=Tryz.underlying20
 a20:=Tryz.isAgg20
 z20:=Tryz.sizeOf20
 v20:=Tryz.zeroValue20
 t31:=Tryz.underlying22
 a31:=Tryz.isAgg22
 z31:=Tryz.sizeOf22
 v31:=Tryz.zeroValue22
 t37:=Tryz.underlying71
 a37:=Tryz.isAgg71
 z37:=Tryz.sizeOf71
 v37:=Tryz.zeroValue71
 t70:=Tryz.underlying70
 a70:=Tryz.isAgg70
 z70:=Tryz.sizeOf70
 v70:=Tryz.zeroValue70
 t72:=Tryz.underlying73
 a72:=Tryz.isAgg73
 z72:=Tryz.sizeOf73
 v72:=Tryz.zeroValue73
 t75:=Tryz.underlying75
 a75:=Tryz.isAgg75
 z75:=Tryz.sizeOf75
 v75:=Tryz.zeroValue75
 t76:=Tryz.underlying76
 a76:=Tryz.isAgg76
 z76:=Tryz.sizeOf76
 v76:=Tryz.zeroValue76
 t127:=Tryz.underlying103
 a127:=Tryz.isAgg103
 z127:=Tryz.sizeOf103
 v127:=Tryz.zeroValue103
 t164:=Tryz.underlying141
 a164:=Tryz.isAgg141
 z164:=Tryz.sizeOf141
 v164:=Tryz.zeroValue141 }
theorem Tryz.Builder_Extra_156:Builder.Extra Tryz.prog Tryz.lays156_ren:={
 sizeBuilder:=by kernel_rfl
 liesBuilder:=by kernel_rfl
 t5:=Tryz.underlying5
 a5:=Tryz.isAgg5
 z5:=Tryz.sizeOf5
 v5:=Tryz.zeroValue5
 infoByte:=by kernel_rfl
 cellsByte:=by kernel_rfl
 sizeByte:=by kernel_rfl
 neB5:=by decide }
end Go.Proofs
