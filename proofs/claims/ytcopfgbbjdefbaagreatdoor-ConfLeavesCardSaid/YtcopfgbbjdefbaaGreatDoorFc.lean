/- Contracts: tree.Kids. Conditions: sizes. Contracts of the program's functions on names and cells. Conditions: none. Contracts of the program's functions on kinds. Conditions: none. The contract of the program's kinds.Of. Conditions: none. -/
import Derived.Test.YtcopfgbbjdefbaaGreatDoorVk
import Derived.Test.YtcopfgbbjdefbaaGreatDoorTe
import Derived.Test.YtcopfgbbjdefbaaGreatDoorTa
namespace Go.Proofs.YtcopfgbbjdefbaaGreatDoor
open Go Go.Ev
set_option maxRecDepth 100000
def rL:Cfg:=⟨aX,[sd,se]⟩
theorem oC:ag Tryz.prog rL.tab:=(ag.cons xq (ag.cons xd ag.nil))
abbrev zCg2 (a:List Int):List Chunk:=[.cells [.own 3] 29,.dead,.dead,.own 3 .int a]
variable (l:List Ev.Stat) (i:Nat)
theorem Gs (lp:Nat) (pre:List Int) (y:Int) (Γ:Ctx) (hds:Γ.ds=[]) (hlen:pre.length<100) :
 J Tryz.prog ⟨50,some lp⟩ (aw Tryz.f50) Γ (fun v ck=>(v = .x (.b true)∧True∧ck=(fun pre=>(zCg2 pre)) (pre++[y]))∨(v = .x (.b false)∧False∧ck=(fun pre=>(zCg2 pre)) (pre++[y]))) [.code ([1,1,1,0,1,0]++[1])]
  { n:=20,fr:=bK 6 (.x (.i y)) (bK 14 (.x (.i y)) [(4,.x (.c (.pd (.v (.slice none 0 0))))),(5,.x (.c (.loc 0 0))),(13,.x (.c (.fn (.func 149) [] [.pd (.ref .int (i:Int) 0),.pd (.ref .stats l 0)])))]),ck:=(zCg2 pre),m:=3 }:=by
 show J Tryz.prog ⟨50,some lp⟩ (aw Tryz.f50) Γ _ [.code [1,1,1,0,1,0,1]] { n:=20,fr:=[(4,.x (.c (.pd (.v (.slice none 0 0))))),(5,.x (.c (.loc 0 0))),(13,.x (.c (.fn (.func 149) [] [.pd (.ref .int (i:Int) 0),.pd (.ref .stats l 0)]))),(14,.x (.i (y:Int))),(6,.x (.i (y:Int)))],ck:=(zCg2 pre),m:=3 }
 refine J.goR (cfg:=rL) oC (fn:=L1 Tryz.f50) (by kernel_rfl) 1000 (t:=(.need (room ((pre++[y]).length) 8) (.stop [] { n:=20,fr:=[(4,.p (.v (Value.slice none 0 0)))],ck:=[.cells [.own 3] 29,.dead,.dead,.own 3 .int (pre++[y])],m:=3 }))) (by kernel_rfl) ?_
 refine ⟨⟨by rw [aq]; show (_+1) * 8≤_; omega,by rw [aq]; show _+1≤_; unfold maxLen; omega⟩,?_⟩
 exact J.roundEnd hds (.inl ⟨rfl,trivial,rfl⟩)
theorem wY {l:List Ev.Stat} {i:Int} (h:cj l i=true):bZ l=true∧0≤i∧i<(l.length:Int):=by
 unfold cj at h
 simp only [af,decide_eq_true_eq] at h
 obtain ⟨⟨a,b⟩,c⟩:=h
 exact ⟨by assumption,by assumption,by assumption⟩
abbrev zCg1 (a:Nat) (b:List Ev.Stat):List (Nat×SV):=[(4,.x (.c (.pd (.v (.slice none 0 0))))),(5,.x (.c (.loc 0 0))),(13,.x (.c (.fn (.func 149) [] [.pd (.ref .int (a:Int) 0),.pd (.ref .stats b 0)])))]
abbrev zCg3:List PI:=[.code [1,1,1,0,1,0],.inBlock 0,.code [1,1,1,1]]
theorem Dz (hh:cj l (i:Int)=true):ah Tryz.prog 50 [.l .stat l,.i (i:Int)] [] (.x (.c (.own 0))) [.own 3 .int (bg l i)]:=by
 have h1:=wY hh
 have S:=ix h1.1
 have hf:=S.few
 have hl:l.length≤maxLen:=by unfold maxLen; omega
 have hi:i<l.length:=by omega
 have hkm:=lH l i
 refine dg oC Tryz.func50 (.need (l.length≤maxLen) (.ite (!cj l (i:Int)) (.ret (.p (.v (Value.slice none 0 0))) []) (.stop zCg3 { n:=20,fr:=[(4,.p (.v (Value.slice none 0 0))),(5,.x (.c (.loc 0 0))),(13,.x (.c (.fn (.func 149) [] [.loc 2 0,.loc 1 0])))],ck:=[.cells [.pd (.v (Value.slice none 0 0))] 29,.cells [.pd (.lst .stat l)] 24,.cells [.i i] 3] }))) fun Γ=>?_
 refine ⟨hl,fun h=>?_,fun _=>?_⟩
 · rw [hh] at h; cases h
 have rest:J Tryz.prog 50 (aw Tryz.f50) Γ (Eq2 (.x (.c (.own 0))) [.own 3 .int (bg l i)]) zCg3 { n:=20,fr:=(zCg1 i l),ck:=[.cells [.own 3] 29,.dead,.dead,.own 3 .int []] }:=by
  refine J.rangeQ 3 (ok:=fun x=>0≤x∧x<(l.length:Int)) (xs:=bg l i) (g:=13) (s:=14) (d:=6) Tryz.func50 (by kernel_rfl) (by kernel_rfl) (by kernel_rfl) (by kernel_rfl) rfl (Go.Proofs.enters_of Tryz.func149 (by kernel_rfl) rfl) (by kernel_rfl) (by kernel_rfl) (by kernel_rfl) (by kernel_rfl) (tX l i hi hl)
   (fun _=>True) (fun _=>False) trivial (fun pre=>[.cells [.own 3] 29,.dead,.dead,.own 3 .int pre]) (fun pre=>[.cells [.own 3] 29,.dead,.dead,.own 3 .int pre]) rfl (fun _=>rfl) (fun _=>rfl) (fun _=>rfl) (fun _=>rfl)
   (fun lp pre x Γ hds _ _ _ hlen=>Gs l i lp pre x Γ hds (by omega)) (fun _ Γ'=>?_) (fun _ _ hb=>hb.elim)
  generalize bg l i=pre
  show J Tryz.prog 50 (aw Tryz.f50) Γ' _ _ { n:=20,fr:=(zCg1 i l),ck:=[.cells [.own 3] 29,.dead,.dead,.own 3 .int pre] }
  refine jg oC Tryz.func50 (.ret (.x (.c (.own 0))) [.own 3 .int pre]) ?_
  exact ⟨rfl,rfl⟩
 have rest2:J Tryz.prog 50 (aw Tryz.f50) Γ (Eq2 (.x (.c (.own 0))) [.own 3 .int (bg l i)]) zCg3 { n:=20,fr:=(zCg1 i l),ck:=[.cells [.pd (.v (.slice none 0 0))] 29,.dead,.dead] }:=J.nilCk 0 0 3 .int rfl rfl (by kernel_rfl) rest
 exact J.freeze aX [1,2] (by kernel_rfl) rest2
theorem Ch (i:Int) (h:cj l i=true):ah Tryz.prog 50 [.l .stat l,.i i] [] (.x (.c (.own 0))) [.own 3 .int (bg l i.toNat)]:=by
 obtain ⟨k,rfl⟩:=aD (wY h).2.1
 rw [ai]
 exact Dz l k h
def mo:Ent:=(50,fun
 | [.c (.pd (.lst .stat l)),.c (.pd (.int .i64 i))],[]=>some (some (cj l i=true),.x (.c (.own 0)),[.own 3 .int (bg l i.toNat)])
 | _,_=>none)
theorem oN:EntOk Tryz.prog mo:=entOk fun vs ck=>by
 unfold mo; dsimp only; split
 · rename_i l i; exact entS fun hp=>Ch l i hp
 · exact entN
end Go.Proofs.YtcopfgbbjdefbaaGreatDoor
namespace Go.Proofs.YtcopfgbbjdefbaaGreatDoor
open Go Go.Ev
set_option maxRecDepth 100000
abbrev zFa2:List PI:=[.code [1,1,0,1,0,0],.inLoop [1,1,0,1,0,0],.inBlock 0,.code [1,1,1]]
variable (l:List Cell) (s:Str) (Γ:Ctx)
theorem Fe (h0:jx s=false):∀ (n k:Nat),s.length - k≤n→k≤s.length→(∀ j,j<k→jS (s.getD j 0)=false) →
 J Tryz.prog 46 (aw Tryz.f46) Γ (Eq2 (.x (.b (ba s))) []) zFa2 ({ n:=56,fr:=[(0,.p (.str s)),(2,.p (.bool false)),(23,.i (aA s)),(24,.i k)],ck:=[],kn:=[2] }):=by
 have hlen:s.length≤12:=by simp [jx,aA] at h0; omega
 intro n
 induction n with
 | zero=>?_
 | succ n ih=>?_
 all_goals
  intro k hn hk hb
  refine jg aV Tryz.func46 (let x1:=(↑((List.getD s k (0:UInt8)).toNat):Int); let x2:Tree:=(.ret (.p (.bool false)) []); .ite (decide ((k:Int)<aA s)) (.need ((0:Int)≤(k:Int)∧(k:Int)<aA s) (.ite ((decide (x1<97)||decide (x1>122))&&(decide (x1<48)||decide (x1>57))&&x1 != 95) x2 (.stop zFa2 { n:=56,fr:=[(0,.p (.str s)),(2,.p (.bool false)),(23,.i (aA s)),(24,.i (IntKind.wrap .i64 ((k:Int)+1)))],ck:=[],kn:=[2] }))) (.ite (s==[116,114,117,101]) x2 (.ite (s==[102,97,108,115,101]) x2 (.ite (s==[105,110]) x2 (.ite (s==[114,101]) x2 (.ite (s==[105,109]) x2 (.ret (.p (.bool true)) []))))))) ?_
  conv=>zeta
  have hend:¬k<s.length→s.any jS=false:=fun h=>oc fun j hj=>hb j (by omega)
  refine ⟨fun hlt=>⟨?_,fun hbad=>⟨?_,rfl⟩,fun hok=>?_⟩,fun hge=>?_⟩
  · have:=of_decide_eq_true hlt; simp only [aA] at this ⊢; omega
  · have:=of_decide_eq_true hlt; simp only [aA] at this
    have hbad':jS (s.getD k 0)=true:=hbad
    simp only [ba,vO (by omega) hbad']; simp
  · have:=of_decide_eq_true hlt; simp only [aA] at this
    first
    | (exfalso; omega)
    | (rw [aZ (by omega)]
       exact ih (k+1) (by omega) (by omega) fun j hj=>if e:j=k then by rw [e]; exact hok else hb j (by omega))
  · have:=of_decide_eq_false hge; simp only [aA] at this
    have hany:=hend (by omega)
    refine ⟨fun h1=>⟨?_,rfl⟩,fun h1=>⟨fun h2=>⟨?_,rfl⟩,fun h2=>⟨fun h3=>⟨?_,rfl⟩,fun h3=>⟨fun h4=>⟨?_,rfl⟩,fun h4=>⟨fun h5=>⟨?_,rfl⟩,fun h5=>⟨?_,rfl⟩⟩⟩⟩⟩⟩ <;>
     simp [ba,h0,hany,nA, *]
theorem Dy:ah Tryz.prog 46 [.s s] [] (.x (.b (ba s))) []:=by
 refine dg aV Tryz.func46 (let x1:=(↑((List.getD s 0 (0:UInt8)).toNat):Int); let x2:=(aA s>(12:Int)); .need ((s==[]||decide x2)=false→(0:Int)≤0∧(0:Int)<aA s) (.need ((s==[]||decide x2||decide (x1<97))=false→(0:Int)≤0∧(0:Int)<aA s) (.ite (s==[]||decide x2||decide (x1<97)||decide (x1>122)) (.ret (.p (.bool false)) []) (.stop zFa2 { n:=56,fr:=[(0,.p (.str s)),(2,.p (.bool false)),(23,.i (aA s)),(24,.i 0)],ck:=[],kn:=[2] })))) fun Γ=>?_
 conv=>zeta
 have hpos:(s==[]||decide (aA s>12))=false→0≤(0:Int)∧0<aA s:=by
  intro h
  cases s with
  | nil=>simp at h
  | cons c r=>simp [aA]
 refine ⟨hpos,fun h=>hpos ?_,fun h=>⟨?_,rfl⟩,fun h=>?_⟩
 · simp only [ay] at h ⊢; exact h.1
 · have h':jx s=true:=h
   simp [ba,h']
 · exact Fe s _ h s.length 0 (by omega) (by omega) (fun j hj=>by omega)
def jv:Ent:=(46,fun
 | [.c (.pd (.str s))],[]=>some (none,.x (.c (.pd (.bool (ba s)))),[])
 | _,_=>none)
theorem ij:EntOk Tryz.prog jv:=entOk fun vs ck=>by
 unfold jv; dsimp only; split
 · rename_i s; exact entS fun hp=>Dy s
 · exact entN
def AD:Cfg:=⟨aX,[jv]⟩
theorem CH:ag Tryz.prog AD.tab:=(ag.cons ij ag.nil)
theorem Bq (op a:Int) (s:Str):ah Tryz.prog 239 [.agg [.i op,.i a,.pd (.str s)]] [] (.x (.i (cH op a s))) []:=by
 refine dg CH Tryz.func239 (let x1:Tree:=(.ret (.i (-1:Int)) []); let x2:Tree:=(.ite (a != (0:Int) || !ba s) x1 (.ret (.i 0) [])); .ite (op==(1:Int)) (.ite (decide (a<(0:Int))||decide (a>(1099511627776:Int)) || !s==[]) x1 (.ret (.i 0) [])) (.ite (op==(2:Int)) (.ite (decide (a<(0:Int))||decide (a>(1048576:Int)) || !s==[]) x1 (.ret (.i 0) [])) (.ite (op==(5:Int)) x2 (.ite (op==(6:Int)) x2 (.ite (decide (op<(3:Int))||decide (op>(23:Int))||a != (0:Int) || !s==[]) x1 (.ite (decide (op≤(4:Int))) (.ret (.i 0) []) (.ite (decide (op≤(10:Int))) (.ret (.i 1) []) (.ret (.i 2) [])))))))) fun Γ=>?_
 conv=>zeta
 (repeat' (first | intro h | constructor)) <;> simp only [cH, *,cond_true,cond_false]
def qF:Ent:=(239,fun
 | [.agg [.pd (.int .i64 op),.pd (.int .i64 a),.pd (.str s)]],[]=>some (none,.x (.c (.pd (.int .i64 (cH op a s)))),[])
 | _,_=>none)
theorem D2:EntOk Tryz.prog qF:=entOk fun vs ck=>by
 unfold qF; dsimp only; split
 · rename_i op a s; exact entS fun hp=>Bq op a s
 · exact entN
def qx:Cfg:=⟨aX,[qF]⟩
theorem pJ:ag Tryz.prog qx.tab:=(ag.cons D2 ag.nil)
abbrev zFa1:List PI:=[.code [1,1,1,0,1,0,0],.inLoop [1,1,1,0,1,0,0],.inBlock 0,.code [1,1,1,1]]
theorem Ba (hl:l.length≤32):∀ (n k:Nat) (m:Int),l.length - k≤n→k≤l.length→0≤m→m≤k →
 J Tryz.prog 186 (aw Tryz.f186) Γ (Eq2 (.x (.b (cn (l.drop k) m))) []) zFa1 ({ n:=32,fr:=[(2,.p (.bool false)),(3,.i m),(10,.p (.lst .cell l)),(11,.i l.length),(12,.i k)],ck:=[],kn:=[2] }):=by
 intro n
 induction n with
 | zero=>?_
 | succ n ih=>?_
 all_goals
  intro k m hn hk h0 hm
  refine jg pJ Tryz.func186 (let x1:=(Cell.name (ETy.get .cell l k)); let x2:=(Cell.op (ETy.get .cell l k)); let x3:=(Cell.a (ETy.get .cell l k)); .ite (decide ((k:Int)<(l.length:Int))) (.need (inRg k l.length) (.ite (decide (cH x2 x3 x1<(0:Int))||decide (cH x2 x3 x1>m)) (.ret (.p (.bool false)) []) (.stop zFa1 { n:=32,fr:=[(2,.p (.bool false)),(3,.i (IntKind.wrap .i64 (m+IntKind.wrap .i64 ((1:Int) - cH x2 x3 x1)))),(10,.p (.lst .cell l)),(11,.i l.length),(12,.i (IntKind.wrap .i64 ((k:Int)+1)))],ck:=[],kn:=[2] }))) (.ret (.p (.bool (m==(1:Int)))) [])) ?_
  conv=>zeta
  refine ⟨fun hlt=>⟨?_,?_⟩,fun hge=>⟨?_,rfl⟩⟩
  · have:=of_decide_eq_true hlt; omega
  · have hk':k<l.length:=by have:=of_decide_eq_true hlt; omega
    rw [bI (t:=.cell) hk']
    generalize ETy.get .cell l k=c
    refine ⟨fun hb=>⟨?_,rfl⟩,fun hb=>?_⟩
    · have hb':(decide (bk c<0)||decide (bk c>m))=true:=hb
      simp only [cn,hb',cond_true]
    · have hb':(decide (bk c<0)||decide (bk c>m))=false:=hb
      have hw:0≤bk c∧bk c≤m:=by
       simp only [ay,decide_eq_false_iff_not] at hb'
       omega
      simp only [cn,hb',cond_false]
      show J Tryz.prog 186 (aw Tryz.f186) Γ _ zFa1 ({ n:=32,fr:=[(2,.p (.bool false)),(3,.i (IntKind.wrap .i64 (m+IntKind.wrap .i64 (1 - bk c)))),(10,.p (.lst .cell l)),(11,.i l.length),(12,.i (IntKind.wrap .i64 ((k:Int)+1)))],ck:=[],kn:=[2] })
      rw [cv (n:=1 - bk c) (by omega) (by omega),cv (by omega) (by omega),aZ (by omega)]
      first
      | (exfalso; omega)
      | exact ih (k+1) (m+(1 - bk c)) (by omega) (by omega) (by omega) (by omega)
  · rw [bT (by have:=of_decide_eq_false hge; omega)]; rfl
theorem B1:ah Tryz.prog 186 [.l .cell l] [] (.x (.b (dM l))) []:=by
 refine dg pJ Tryz.func186 (.ite (decide ((l.length:Int)>32)) (.ret (.p (.bool false)) []) (.stop zFa1 { n:=32,fr:=[(2,.p (.bool false)),(3,.i 0),(10,.p (.lst .cell l)),(11,.i l.length),(12,.i 0)],ck:=[],kn:=[2] })) fun Γ=>?_
 refine ⟨fun h=>⟨by simp only [dM,h]; rfl,rfl⟩,fun h=>?_⟩
 have hl:l.length≤32:=by have:=of_decide_eq_false h; omega
 simp only [dM,h]
 exact Ba l Γ hl l.length 0 0 (by omega) (by omega) (by omega) (by omega)
def oe:Ent:=(186,fun
 | [.c (.pd (.lst .cell l))],[]=>some (none,.x (.c (.pd (.bool (dM l)))),[])
 | _,_=>none)
theorem uw:EntOk Tryz.prog oe:=entOk fun vs ck=>by
 unfold oe; dsimp only; split
 · rename_i l; exact entS fun hp=>B1 l
 · exact entN
end Go.Proofs.YtcopfgbbjdefbaaGreatDoor
namespace Go.Proofs.YtcopfgbbjdefbaaGreatDoor
open Go Go.Ev
set_option maxRecDepth 100000
abbrev zFb1:List Chunk:=[.own 238 .krow [{ low:=(7:Int),high:=(7:Int),left:=(1:Int),right:=(0:Int),out:=(1:Int) },{ low:=(7:Int),high:=(7:Int),left:=(3:Int),right:=(0:Int),out:=(3:Int) },{ low:=(8:Int),high:=(8:Int),left:=(2:Int),right:=(0:Int),out:=(2:Int) },{ low:=(9:Int),high:=(10:Int),left:=(3:Int),right:=(0:Int),out:=(1:Int) },{ low:=(11:Int),high:=(15:Int),left:=(1:Int),right:=(1:Int),out:=(1:Int) },{ low:=(11:Int),high:=(13:Int),left:=(3:Int),right:=(3:Int),out:=(3:Int) },{ low:=(16:Int),high:=(21:Int),left:=(1:Int),right:=(1:Int),out:=(2:Int) },{ low:=(16:Int),high:=(17:Int),left:=(2:Int),right:=(2:Int),out:=(2:Int) },{ low:=(16:Int),high:=(17:Int),left:=(3:Int),right:=(3:Int),out:=(2:Int) },{ low:=(22:Int),high:=(23:Int),left:=(2:Int),right:=(2:Int),out:=(2:Int) }]]
theorem DS:ah Tryz.prog 241 [] [] (.x (.c (.own 0))) [.own 238 .krow pb]:=by
 refine dg aV Tryz.func241 (.ret (.x (.c (.own 0))) zFb1) fun Γ=>?_
 exact ⟨rfl,rfl⟩
def uU:Ent:=(241,fun
 | [],[]=>some (none,.x (.c (.own 0)),[.own 238 .krow pb])
 | _,_=>none)
theorem Hj:EntOk Tryz.prog uU:=entOk fun vs ck=>by
 unfold uU; dsimp only; split
 · exact entS fun hp=>DS
 · exact entN
def Av:Cfg:=⟨aX,[uU]⟩
theorem B0:ag Tryz.prog Av.tab:=(ag.cons Hj ag.nil)
abbrev zFb2:List PI:=[.code [1,0,1,0,0],.inLoop [1,0,1,0,0],.inBlock 0,.code [1,1]]
variable (l:List Str) (op:Int) (vs:List Var) (c:Cell) (s:Str) (Γ:Ctx)
theorem FQ (l r:Int) (ks:List KRow) (Γ:Ctx) (hl:ks.length≤100):∀ (n k:Nat),ks.length - k≤n→k≤ks.length →
 J Tryz.prog 188 (aw Tryz.f188) Γ (Eq2 (.x (.i (gT op l r (ks.drop k)))) []) zFb2 ({ n:=40,fr:=[(0,.i op),(1,.i l),(2,.i r),(6,.i 0),(9,.x (.c (.own 0))),(10,.i ks.length),(11,.i k)],ck:=[.own 238 .krow ks] }):=by
 intro n
 induction n with
 | zero=>?_
 | succ n ih=>?_
 all_goals
  intro k hn hk
  refine jg aV Tryz.func188 (.ite (decide ((k:Int)<(ks.length:Int))) (.need (inRg k ks.length) (.need (k<ks.length) (.ite (decide (op≥KRow.low (ETy.get .krow ks k))&&decide (op≤KRow.high (ETy.get .krow ks k))&&l==KRow.left (ETy.get .krow ks k)&&r==KRow.right (ETy.get .krow ks k)) (.ret (.i (KRow.out (ETy.get .krow ks k))) []) (.stop zFb2 { n:=40,fr:=[(0,.i op),(1,.i l),(2,.i r),(6,.i 0),(9,.x (.c (.own 0))),(10,.i ks.length),(11,.i (IntKind.wrap .i64 ((k:Int)+1)))],ck:=[.own 238 .krow ks] })))) (.ret (.i 0) [])) ?_
  refine ⟨fun hlt=>?_,fun hge=>⟨?_,rfl⟩⟩
  · have hk':k<ks.length:=by have:=of_decide_eq_true hlt; omega
    rw [bI (t:=.krow) hk']
    refine ⟨by omega,hk',?_⟩
    generalize ETy.get .krow ks k=c
    refine ⟨fun hb=>⟨?_,rfl⟩,fun hb=>?_⟩
    · have hb':vh op l r c=true:=hb
      simp only [gT,hb',cond_true]
    · have hb':vh op l r c=false:=hb
      simp only [gT,hb',cond_false]
      rw [aZ (by omega)]
      first
      | (exfalso; omega)
      | exact ih (k+1) (by omega) (by omega)
  · rw [bT (by have:=of_decide_eq_false hge; omega)]; rfl
theorem Fp (l r:Int):ah Tryz.prog 188 [.i op,.i l,.i r] [] (.x (.i (cP op l r))) []:=by
 refine dg B0 Tryz.func188 (.stop zFb2 { n:=40,fr:=[(0,.i op),(1,.i l),(2,.i r),(6,.i 0),(9,.x (.c (.own 0))),(10,.i (↑(10:Nat):Int)),(11,.i 0)],ck:=zFb1 }) fun Γ=>?_
 exact FQ op l r pb Γ (by decide) pb.length 0 (by omega) (by omega)
def vz:Ent:=(188,fun
 | [.c (.pd (.int .i64 op)),.c (.pd (.int .i64 l)),.c (.pd (.int .i64 r))],[]=>some (none,.x (.c (.pd (.int .i64 (cP op l r)))),[])
 | _,_=>none)
theorem G4:EntOk Tryz.prog vz:=entOk fun vs ck=>by
 unfold vz; dsimp only; split
 · rename_i op l r; exact entS fun hp=>Fp op l r
 · exact entN
theorem pM {α:Type} (p:α→Bool):∀ (l:List α) (i:Int),0≤i→(aG p l i≥0↔l.any p=true)
 | [],i,_=>by simp [aG]
 | x::r,i,h=>by
   have ih:=pM p r (i+1) (by omega)
   unfold aG
   rw [b7]
   cases hp:p x
   · simpa using ih
   · simpa using h
theorem gg {α:Type} (p:α→Bool) (l:List α) (i:Int) (h:0≤i):decide (aG p l i≥0)=l.any p:=by
 have:=pM p l i h
 cases hl:l.any p
 · rw [hl] at this; exact decide_eq_false (fun h2=>by simp at this; omega)
 · rw [hl] at this; exact decide_eq_true (this.2 rfl)
theorem K2 (v:Var) (c:Cell):ah Tryz.prog 240 [.e .var v,.p (.ref .cell c 0)] [] (.x (.b (v.name==c.name))) []:=by
 refine dg aV Tryz.func240 (.ret (.p (.bool (v.name==c.name))) []) fun Γ=>⟨rfl,rfl⟩
def eCl:Ent:=(240,fun
 | [.agg [.pd (.str a),.pd (.int .i64 b),.pd (.int .i64 d),.pd (.int .i64 e),.pd (.int .i64 f),.pd (.int .i64 g),.pd (.int .i64 h)],.c (.pd (.ref .cell c 0))],[]=>some (none,.x (.c (.pd (.bool (a==c.name)))),[])
 | _,_=>none)
theorem LL:EntOk Tryz.prog eCl:=entOk fun vs ck=>by
 unfold eCl; dsimp only; split
 · rename_i a b d e f g h c; exact entS fun hp=>K2 ⟨a,b,d,e,⟨f,g,h⟩⟩ c
 · exact entN
def CF:Cfg:=⟨aX,[eCl]⟩
theorem vY:ag Tryz.prog CF.tab:=(ag.cons LL ag.nil)
theorem JM (hl:vs.length≤maxLen):∀ (n k:Nat),vs.length - k≤n→k≤vs.length →
 J Tryz.prog 184 (aw Tryz.f184) Γ (Eq2 (.x (.i (aG (fun v:Var=>v.name==c.name) (vs.drop k) k))) []) zFb2 ({ n:=19,fr:=[(0,.p (.lst .var vs)),(1,.x (.c (.fn (.func 240) [] [.pd (.ref .cell c 0)]))),(4,.i 0),(7,.i vs.length),(8,.i k)],ck:=[] }):=by
 intro n
 induction n with
 | zero=>?_
 | succ n ih=>?_
 all_goals
  intro k hn hk
  refine jg vY Tryz.func184 (.ite (decide ((k:Int)<(vs.length:Int))) (.need (inRg k vs.length) (.ite (Var.name (ETy.get .var vs k)==c.name) (.ret (.i k) []) (.stop zFb2 { n:=19,fr:=[(0,.p (.lst .var vs)),(1,.x (.c (.fn (.func 240) [] [.pd (.ref .cell c 0)]))),(4,.i 0),(7,.i vs.length),(8,.i (IntKind.wrap .i64 ((k:Int)+1)))],ck:=[] }))) (.ret (.i (-1:Int)) [])) ?_
  refine ⟨fun hlt=>?_,fun hge=>⟨?_,rfl⟩⟩
  · have hk':k<vs.length:=by have:=of_decide_eq_true hlt; omega
    rw [bI (t:=.var) hk']
    refine ⟨by omega,?_⟩
    generalize ETy.get .var vs k=v
    refine ⟨fun hb=>⟨?_,rfl⟩,fun hb=>?_⟩
    · simp only [aG,hb,cond_true]
    · simp only [aG,hb,cond_false]
      rw [aZ (aC hk' hl)]
      first
      | (exfalso; omega)
      | exact ih (k+1) (by omega) (by omega)
  · rw [bT (by have:=of_decide_eq_false hge; omega)]; rfl
theorem Ke:ah Tryz.prog 184 [.l .var vs,.c (.fn (.func 240) [] [.pd (.ref .cell c 0)])] [] (.x (.i (aG (fun v:Var=>v.name==c.name) vs 0))) []:=by
 refine dg vY Tryz.func184 (.stop zFb2 { n:=19,fr:=[(0,.p (.lst .var vs)),(1,.x (.c (.fn (.func 240) [] [.pd (.ref .cell c 0)]))),(4,.i 0),(7,.i vs.length),(8,.i 0)],ck:=[] }) fun Γ=>?_
 exact J.len 0 rfl fun hl=>JM vs c Γ hl vs.length 0 (by omega) (by omega)
def eIx:Ent:=(184,fun
 | [.c (.pd (.lst .var vs)),.c (.fn (.func 240) [] [.pd (.ref .cell c 0)])],[]=>some (none,.x (.c (.pd (.int .i64 (aG (fun v:Var=>v.name==c.name) vs 0)))),[])
 | _,_=>none)
theorem LW:EntOk Tryz.prog eIx:=entOk fun vs ck=>by
 unfold eIx; dsimp only; split
 · rename_i vs c; exact entS fun hp=>Ke vs c
 · exact entN
theorem K0 (hl:l.length≤maxLen):∀ (n k:Nat),l.length - k≤n→k≤l.length →
 J Tryz.prog 238 (aw Tryz.f238) Γ (Eq2 (.x (.i (aG (fun x=>s==x) (l.drop k) k))) []) zFb2 ({ n:=19,fr:=[(0,.p (.lst .str l)),(1,.p (.str s)),(4,.i 0),(7,.i l.length),(8,.i k)],ck:=[] }):=by
 intro n
 induction n with
 | zero=>?_
 | succ n ih=>?_
 all_goals
  intro k hn hk
  refine jg aV Tryz.func238 (.ite (decide ((k:Int)<(l.length:Int))) (.need (inRg k l.length) (.ite (s==ETy.get .str l k) (.ret (.i k) []) (.stop zFb2 { n:=19,fr:=[(0,.p (.lst .str l)),(1,.p (.str s)),(4,.i 0),(7,.i l.length),(8,.i (IntKind.wrap .i64 ((k:Int)+1)))],ck:=[] }))) (.ret (.i (-1:Int)) [])) ?_
  refine ⟨fun hlt=>?_,fun hge=>⟨?_,rfl⟩⟩
  · have hk':k<l.length:=by have:=of_decide_eq_true hlt; omega
    rw [bI (t:=.str) hk']
    refine ⟨by omega,?_⟩
    generalize ETy.get .str l k=v
    refine ⟨fun hb=>⟨?_,rfl⟩,fun hb=>?_⟩
    · simp only [aG,hb,cond_true]
    · simp only [aG,hb,cond_false]
      rw [aZ (aC hk' hl)]
      first
      | (exfalso; omega)
      | exact ih (k+1) (by omega) (by omega)
  · rw [bT (by have:=of_decide_eq_false hge; omega)]; rfl
theorem JQ:ah Tryz.prog 238 [.l .str l,.s s] [] (.x (.i (aG (fun x=>s==x) l 0))) []:=by
 refine dg aV Tryz.func238 (.stop zFb2 { n:=19,fr:=[(0,.p (.lst .str l)),(1,.p (.str s)),(4,.i 0),(7,.i l.length),(8,.i 0)],ck:=[] }) fun Γ=>?_
 exact J.len 0 rfl fun hl=>K0 l s Γ hl l.length 0 (by omega) (by omega)
def eSi:Ent:=(238,fun
 | [.c (.pd (.lst .str l)),.c (.pd (.str s))],[]=>some (none,.x (.c (.pd (.int .i64 (aG (fun x=>s==x) l 0)))),[])
 | _,_=>none)
theorem L3:EntOk Tryz.prog eSi:=entOk fun vs ck=>by
 unfold eSi; dsimp only; split
 · rename_i l s; exact entS fun hp=>JQ l s
 · exact entN
def JB:Cfg:=⟨aX,[eSi]⟩
theorem HK:ag Tryz.prog JB.tab:=(ag.cons L3 ag.nil)
theorem J8:ah Tryz.prog 183 [.l .str l,.s s] [] (.x (.b (l.any fun x=>s==x))) []:=by
 refine dg HK Tryz.func183 (.ret (.p (.bool (decide (aG (fun x=>s==x) l (0:Int)≥0)))) []) fun Γ=>⟨?_,rfl⟩
 rw [gg _ _ _ (by omega)]
def eSc:Ent:=(183,fun
 | [.c (.pd (.lst .str l)),.c (.pd (.str s))],[]=>some (none,.x (.c (.pd (.bool (l.any fun x=>s==x)))),[])
 | _,_=>none)
theorem xB:EntOk Tryz.prog eSc:=entOk fun vs ck=>by
 unfold eSc; dsimp only; split
 · rename_i l s; exact entS fun hp=>J8 l s
 · exact entN
def Jd:Cfg:=⟨aX,[eIx,eSc]⟩
theorem GV:ag Tryz.prog Jd.tab:=(ag.cons LW (ag.cons xB ag.nil))
theorem iL {α:Type} (p:α→Bool):∀ (l:List α) (i:Nat),(aG p l i = -1∧l.find? p=none)∨∃ k x,aG p l i=((i+k:Nat):Int)∧l[k]?=some x∧l.find? p=some x
 | [],i=>.inl ⟨rfl,rfl⟩
 | x :: r,i=>by
   simp only [aG,List.find?_cons]
   cases hp:p x
   · rcases iL p r (i+1) with ⟨h1,h2⟩ | ⟨k,y,h1,h2,h3⟩
     · exact .inl ⟨h1,h2⟩
     · exact .inr ⟨k+1,y,by simp only [cond_false]; rw [show (i:Int)+1=((i+1:Nat):Int) from rfl,h1]; omega,by simpa using h2,h3⟩
   · exact .inr ⟨0,x,by simp,by simp,rfl⟩
theorem Ga (vs:List Var) (ss:List Str):ah Tryz.prog 187 [.e .cell c,.l .var vs,.l .str ss] [] (cl (bV c vs ss)) []:=by
 refine dg GV Tryz.func187 (.ite (c.op==(1:Int)) (.ret (.tup [.i 1,.i 0]) []) (.ite (c.op==(2:Int)) (.ret (.tup [.i 3,.i 0]) []) (.ite (c.op==(5:Int)) (.ite (decide (aG (fun v=>v.name==c.name) vs (0:Int)<0)) (.ret (.tup [.i 0,.i 2]) []) (.need ((0:Int)≤aG (fun v=>v.name==c.name) vs (0:Int)∧aG (fun v=>v.name==c.name) vs (0:Int)<(vs.length:Int)) (.ite (decide (Var.kind (ETy.get .var vs ((aG (fun v=>v.name==c.name) vs (0:Int)).toNat))≥(1:Int))&&decide (Var.kind (ETy.get .var vs ((aG (fun v=>v.name==c.name) vs (0:Int)).toNat))≤(3:Int))) (.ret (.tup [.i (Var.kind (ETy.get .var vs ((aG (fun v=>v.name==c.name) vs (0:Int)).toNat))),.i 0]) []) (.ret (.tup [.i 0,.i 8]) [])))) (.ite (c.op==(6:Int)) (.ite (!List.any ss fun x=>c.name==x) (.ret (.tup [.i 0,.i 2]) []) (.ret (.tup [.i 2,.i 0]) [])) (.ret (.tup [.i 2,.i 0]) []))))) fun Γ=>?_
 have hsw:(ss.any fun x=>c.name==x)=ss.any fun s=>s==c.name:=by congr 1; funext x; exact BEq.comm
 refine ⟨fun h1=>⟨by simp only [bV,h1,cond_true,cl],rfl⟩,fun h1=>⟨fun h2=>⟨by simp only [bV,h1,h2,cond_true,cond_false,cl],rfl⟩,fun h2=>⟨fun h5=>?_,fun h5=>⟨fun h6=>⟨fun h=>⟨?_,rfl⟩,fun h=>⟨?_,rfl⟩⟩,fun h6=>⟨by simp only [bV,h1,h2,h5,h6,cond_false,cl],rfl⟩⟩⟩⟩⟩
 · show _∧_
   rcases iL (fun v:Var=>v.name==c.name) vs 0 with ⟨g1,g2⟩ | ⟨k,x,g1,g2,g3⟩
   · simp only [Int.natCast_zero] at g1
     rw [g1]
     exact ⟨fun _=>⟨by simp only [bV,h1,h2,h5,gH,g2,cond_true,cond_false,cl],rfl⟩,fun h=>by simp at h⟩
   · simp only [Int.natCast_zero,a7] at g1
     have hk:=(List.getElem?_eq_some_iff.1 g2).1
     rw [g1]
     refine ⟨fun h=>by have:=of_decide_eq_true h; omega,fun _=>⟨by omega,?_⟩⟩
     rw [ai,ETy.get_eq (t:=.var) g2]
     exact ⟨fun h=>⟨by simp only [bV,h1,h2,h5,gH,g3,h,cond_true,cond_false,cl],rfl⟩,fun h=>⟨by simp only [bV,h1,h2,h5,gH,g3,h,cond_true,cond_false,cl],rfl⟩⟩
 · rw [hsw] at h; simp only [bV,h1,h2,h5,h6,h,cond_true,cond_false,cl]
 · rw [hsw] at h; simp only [bV,h1,h2,h5,h6,h,cond_true,cond_false,cl]
def vw:Ent:=(187,fun
 | [.agg [.pd (.int .i64 a),.pd (.int .i64 b),.pd (.str d)],.c (.pd (.lst .var vs)),.c (.pd (.lst .str ss))],[]=>some (none,cl (bV ⟨a,b,d⟩ vs ss),[])
 | _,_=>none)
theorem HY:EntOk Tryz.prog vw:=entOk fun vs ck=>by
 unfold vw; dsimp only; split
 · rename_i a b d vs ss; exact entS fun hp=>Ga ⟨a,b,d⟩ vs ss
 · exact entN
end Go.Proofs.YtcopfgbbjdefbaaGreatDoor
namespace Go.Proofs.YtcopfgbbjdefbaaGreatDoor
open Go Go.Ev
set_option maxRecDepth 100000
theorem mN (c:Cell) (h:bk c≥0):(bk c=0∧c.op<7)∨(bk c=1∧7≤c.op∧c.op<11)∨(bk c=2∧11≤c.op):=by
 revert h
 unfold bk cH
 simp only [cond_eq_ite,beq_iff_eq,aM,decide_eq_true_eq,bne_iff_ne]
 intro h
 (repeat' split at h) <;> (repeat' split) <;> omega
variable (t:Int) (l:List Cell) (t2:Int) (vs:List Var) (ss:List Str) (st:List Int)
theorem wG:ETy.get .int ((t::st).reverse) st.length=t:=by
 refine ETy.get_eq (t:=.int) ?_
 rw [dm,List.getElem?_append_right (by simp)]; simp
theorem Dq:ETy.get .int ((t::t2::st).reverse) st.length=t2:=by
 refine ETy.get_eq (t:=.int) ?_
 rw [dm,List.getElem?_append_left (by simp),dm,List.getElem?_append_right (by simp)]; simp
theorem tO:((t::st).reverse).take st.length=st.reverse:=by
 rw [dm,← ez,List.take_left]
theorem Bf:((t::t2::st).reverse).take st.length=st.reverse:=by
 rw [dm,List.take_append_of_le_length (by simp),tO]
theorem qj {n:Nat} (h:n≤100):room n 8:=by unfold room maxLen; omega
def BE:Cfg:=⟨aX,[oe,vw,vz]⟩
theorem xe:ag Tryz.prog BE.tab:=(ag.cons uw (ag.cons HY (ag.cons G4 ag.nil)))
abbrev zFc1:List PI:=[.code [1,1,1,0,1,0,0],.inLoop [1,1,1,0,1,0,0],.inBlock 0,.code [1,1,1,1]]
theorem Kr (Γ:Ctx) (hl:l.length≤32):∀ (n k:Nat) (st:List Int),l.length - k≤n→k≤l.length→st.length≤k→cn (l.drop k) st.length=true →
 J Tryz.prog 147 (aw Tryz.f147) Γ (Eq2 (cl (fu vs ss (l.drop k) st)) []) zFc1 ({ n:=86,fr:=[(1,.p (.lst .var vs)),(2,.p (.lst .str ss)),(6,.i 0),(7,.i 0),(8,.x (.c (.own 0))),(17,.p (.lst .cell l)),(18,.i l.length),(19,.i k)],ck:=[.own 3 .int st.reverse] }):=by
 intro n
 induction n with
 | zero=>?_
 | succ n ih=>?_
 all_goals
  intro k st hn hk hst hright
  refine jg xe Tryz.func147 (let x1:=(↑((List.reverse st).length):Int); let x2:List (Nat×SV):=[(1,.p (.lst .var vs)),(2,.p (.lst .str ss)),(6,.i 0),(7,.i 0),(8,.x (.c (.own 0))),(17,.p (.lst .cell l)),(18,.i l.length),(19,.i (IntKind.wrap .i64 ((k:Int)+1)))]; let x12:=(IntKind.wrap .i64 (x1 - 2)); let x9:=(Cell.op (ETy.get .cell l k)); let x16:=(ETy.get .int (List.reverse st) (x12.toNat)); let x10:=(IntKind.wrap .i64 (x1 - 1)); let x7:=(ETy.get .int (List.reverse st) (x10.toNat)); let x3:=(List.take (x12.toNat) (List.reverse st)++[cP x9 x16 x7]); let x4:=(List.take (x10.toNat) (List.reverse st)++[cP x9 x7 (0:Int)]); let x5:List PI:=zFc1; let x6:=(bV (ETy.get .cell l k) vs ss); let x8:Tree:=(.need (room ((List.reverse st++[x6.1]).length) 8) (.stop x5 { n:=86,fr:=x2,ck:=[.own 3 .int (List.reverse st++[x6.1])] })); let x11:Tree:=(.need (room (x4.length) 8) (.stop x5 { n:=86,fr:=x2,ck:=[.own 3 .int x4] })); let x13:Tree:=(.need (room (x3.length) 8) (.stop x5 { n:=86,fr:=x2,ck:=[.own 3 .int x3] })); let x14:=((0:Int)≤IntKind.wrap .i64 (x1 - 1)∧IntKind.wrap .i64 (x1 - 1)<x1); let x15:Tree:=(.ret (.tup [.i 0,.i 8]) []); let x17:=(x10.toNat<(List.reverse st).length); .ite (decide ((k:Int)<(l.length:Int))) (.need (inRg k l.length) (.ite (decide (Cell.op (ETy.get .cell l k)<(7:Int))) (.ite (x6.2==(0:Int)&&x6.1==(0:Int)) (.ite true x15 x8) (.ite (x6.2 != (0:Int)) (.ret (.tup [.i 0,.i (x6.2)]) []) x8)) (.ite (decide (Cell.op (ETy.get .cell l k)<(11:Int))) (.need x14 (.need x17 (.need ((0:Int)≤IntKind.wrap .i64 (x1 - 1)∧IntKind.wrap .i64 (x1 - 1)≤x1) (.ite (true&&cP x9 x7 (0:Int)==0) (.ite true x15 x11) (.ite false (.ret (.tup [.i 0,.i 0]) []) x11))))) (.need ((0:Int)≤IntKind.wrap .i64 (x1 - 2)∧IntKind.wrap .i64 (x1 - 2)<x1) (.need (x12.toNat<(List.reverse st).length) (.need x14 (.need x17 (.need ((0:Int)≤IntKind.wrap .i64 (x1 - 2)∧IntKind.wrap .i64 (x1 - 2)≤x1) (.ite (true&&cP x9 x16 x7==(0:Int)) (.ite true x15 x13) (.ite false (.ret (.tup [.i 0,.i 0]) []) x13)))))))))) (.need ((0:Int)≤0∧(0:Int)<x1) (.need (0<(List.reverse st).length) (.ret (.tup [.i (ETy.get .int (List.reverse st) 0),.i 0]) [])))) ?_
  conv=>zeta
  have next:∀ (kd:Int) (st':List Int) (c:Cell),st'.length≤k→((st'.length:Int)+1=st.length+(1 - bk c))→k<l.length→cn (l.drop (k+1)) (st.length+(1 - bk c))=true →
   J Tryz.prog 147 (aw Tryz.f147) Γ (Eq2 (cl (fu vs ss (l.drop (k+1)) (kd::st'))) []) zFc1 ({ n:=86,fr:=[(1,.p (.lst .var vs)),(2,.p (.lst .str ss)),(6,.i 0),(7,.i 0),(8,.x (.c (.own 0))),(17,.p (.lst .cell l)),(18,.i l.length),(19,.i (IntKind.wrap .i64 ((k:Int)+1)))],ck:=[.own 3 .int (st'.reverse++[kd])] }):=by
   intro kd st' c h1 h2 h3 h4
   rw [aZ (by omega),← dm]
   first
   | (exfalso; omega)
   | exact ih (k+1) (kd::st') (by omega) (by omega) (by simp only [aE]; omega) (by rw [← h2] at h4; simpa using h4)
  refine ⟨fun hlt=>?_,fun hge=>?_⟩
  · have hk':k<l.length:=by have:=of_decide_eq_true hlt; omega
    rw [bI (t:=.cell) hk'] at hright ⊢
    refine ⟨by omega,?_⟩
    generalize ETy.get .cell l k=c at hright ⊢
    have hw:(decide (bk c<0)||decide (bk c>(st.length:Int)))=false:=by
     simp only [cn] at hright
     cases hb:(decide (bk c<0)||decide (bk c>(st.length:Int)))
     · rfl
     · rw [hb] at hright; simp at hright
    have hrest:cn (l.drop (k+1)) (st.length+(1 - bk c))=true:=by
     simp only [cn,hw,cond_false] at hright; exact hright
    have hw2:0≤bk c∧bk c≤st.length:=by
     simp only [ay,decide_eq_false_iff_not] at hw; omega
    refine ⟨fun h7=>?_,fun h7=>⟨fun h11=>?_,fun h11=>?_⟩⟩
    · -- a leaf
      have hw0:bk c=0:=by rcases mN c hw2.1 with ⟨h,_⟩ | ⟨_,h,_⟩ | ⟨_,h⟩ <;> first | exact h | (have:=of_decide_eq_true h7; omega)
      have hstep:fA vs ss c st=((bV c vs ss).1,(bV c vs ss).2,st):=by simp only [fA,h7,cond_true]
      simp only [fu,hstep]
      show Tree.J _ _ _ _ _ (Tree.ite ((bV c vs ss).2==0&&(bV c vs ss).1==0) _ _)
      generalize (bV c vs ss).1=kd
      generalize (bV c vs ss).2=e
      refine ⟨fun h=>⟨fun _=>⟨by simp only [h]; rfl,rfl⟩,fun h2=>Bool.noConfusion h2⟩,fun h=>⟨fun h2=>⟨by simp only [h,cond_false,h2]; rfl,rfl⟩,fun h2=>⟨qj (by simp; omega),?_⟩⟩⟩
      simp only [h,h2,cond_false]
      exact next kd st c (by omega) (by omega) hk' hrest
    · -- one operand
      have hw1:bk c=1:=by
       have g1:=of_decide_eq_false h7
       have g2:=of_decide_eq_true h11
       rcases mN c hw2.1 with ⟨_,h⟩ | ⟨h,_⟩ | ⟨_,h⟩ <;> first | exact h | omega
      obtain ⟨t,st',rfl⟩:∃ t st',st=t::st':=by
       cases st with
       | nil=>simp at hw2; omega
       | cons t st'=>exact ⟨t,st',rfl⟩
      have hlen:(t::st').reverse.length=st'.length+1:=by simp
      have hl2:(t::st').length=st'.length+1:=rfl
      have e1:IntKind.wrap .i64 (((t::st').reverse.length:Int) - 1)=(st'.length:Int):=by
       simp only [ez,aE]; rw [cv (by omega) (by omega)]; omega
      have hstep:fA vs ss c (t::st')=(cP c.op t 0,0,st'):=by simp [fA,h7,h11]
      simp only [fu,hstep]
      rw [e1]
      simp only [ai]
      rw [wG,tO]
      refine ⟨⟨by omega,by omega⟩,by omega,⟨by omega,by omega⟩,fun h=>⟨fun _=>⟨?_,rfl⟩,fun h2=>Bool.noConfusion h2⟩,fun h=>⟨fun h2=>Bool.noConfusion h2,fun _=>⟨qj (by simp; omega),?_⟩⟩⟩
      · have h':((0:Int)==0&&cP c.op t 0==0)=true:=h
        simp only [h']; rfl
      · have h':((0:Int)==0&&cP c.op t 0==0)=false:=h
        simp only [h',cond_false]
        exact next (cP c.op t 0) st' c (by omega) (by omega) hk' hrest
    · -- two operands
      have hw1:bk c=2:=by
       have g1:=of_decide_eq_false h7
       have g2:=of_decide_eq_false h11
       rcases mN c hw2.1 with ⟨_,h⟩ | ⟨_,h,_⟩ | ⟨h,_⟩ <;> first | exact h | omega
      obtain ⟨t,t2,st',rfl⟩:∃ t t2 st',st=t::t2::st':=by
       cases st with
       | nil=>simp at hw2; omega
       | cons t st'=>cases st' with
         | nil=>simp at hw2; omega
         | cons t2 st'=>exact ⟨t,t2,st',rfl⟩
      have hlen:(t::t2::st').reverse.length=st'.length+2:=by simp
      have hl2:(t::t2::st').length=st'.length+2:=rfl
      have hl3:(t2::st').length=st'.length+1:=rfl
      have e1:IntKind.wrap .i64 (((t::t2::st').reverse.length:Int) - 1)=((t2::st').length:Int):=by
       simp only [ez,aE]; rw [cv (by omega) (by omega)]; omega
      have e2:IntKind.wrap .i64 (((t::t2::st').reverse.length:Int) - 2)=(st'.length:Int):=by
       simp only [ez,aE]; rw [cv (by omega) (by omega)]; omega
      have hstep:fA vs ss c (t::t2::st')=(cP c.op t2 t,0,st'):=by simp [fA,h7,h11]
      simp only [fu,hstep]
      rw [e1,e2]
      simp only [ai]
      rw [wG,Dq,Bf]
      refine ⟨⟨by omega,by omega⟩,by omega,⟨by omega,by omega⟩,by omega,⟨by omega,by omega⟩,fun h=>⟨fun _=>⟨?_,rfl⟩,fun h2=>Bool.noConfusion h2⟩,fun h=>⟨fun h2=>Bool.noConfusion h2,fun _=>⟨qj (by simp; omega),?_⟩⟩⟩
      · have h':((0:Int)==0&&cP c.op t2 t==0)=true:=h
        simp only [h']; rfl
      · have h':((0:Int)==0&&cP c.op t2 t==0)=false:=h
        simp only [h',cond_false]
        exact next (cP c.op t2 t) st' c (by omega) (by omega) hk' hrest
  · have hk':k=l.length:=by have:=of_decide_eq_false hge; omega
    rw [hk',List.drop_length] at hright ⊢
    simp only [cn] at hright
    have hone:st.length=1:=by have h1:(st.length:Int)=1:=(by simpa using hright); omega
    obtain ⟨t,rfl⟩:∃ t,st=[t]:=List.length_eq_one_iff.1 hone
    exact ⟨by simp,by simp,rfl,rfl⟩
theorem Bv:ah Tryz.prog 147 [.l .cell l,.l .var vs,.l .str ss] [] (cl (b8 l vs ss)) []:=by
 refine dg xe Tryz.func147 (.ite (!dM l) (.ret (.tup [.i 0,.i 1]) []) (.stop zFc1 { n:=86,fr:=[(1,.p (.lst .var vs)),(2,.p (.lst .str ss)),(6,.i 0),(7,.i 0),(8,.p (.v (Value.slice none 0 0))),(17,.p (.lst .cell l)),(18,.i l.length),(19,.i 0)],ck:=[] })) fun Γ=>?_
 refine ⟨fun h=>⟨by simp only [b8,h,cond_true]; rfl,rfl⟩,fun h=>?_⟩
 have h':dM l=true:=by simpa using h
 have e:b8 l vs ss=fu vs ss (l.drop 0) []:=by simp [b8,h']
 simp only [dM,af] at h'
 have h32:l.length≤32:=by have h1:=h'.1; simp at h1; omega
 rw [e]
 refine J.nilOwn 8 3 .int rfl rfl ?_
 exact Kr l vs ss Γ h32 l.length 0 [] (by omega) (by omega) (by simp) (by simpa using h'.2)
def eOf:Ent:=(147,fun
 | [.c (.pd (.lst .cell l)),.c (.pd (.lst .var vs)),.c (.pd (.lst .str ss))],[]=>some (none,cl (b8 l vs ss),[])
 | _,_=>none)
theorem Eu:EntOk Tryz.prog eOf:=entOk fun vs ck=>by
 unfold eOf; dsimp only; split
 · rename_i l vs ss; exact entS fun hp=>Bv l vs ss
 · exact entN
end Go.Proofs.YtcopfgbbjdefbaaGreatDoor
