/- Contracts: tree.Kids. Conditions: sizes. Contracts of the program's functions on names and cells. Conditions: none. -/
import Derived.Test.YtcopfgbbjdefbaaGreatDoorVk
import Derived.Test.YtcopfgbbjdefbaaGreatDoorTe
import Derived.Test.YtcopfgbbjdefbaaGreatDoorTa
namespace Go.Proofs.YtcopfgbbjdefbaaGreatDoor
open Go Go.Ev
set_option maxRecDepth 100000
def qx:Cfg:=⟨bk,[pr,qz]⟩
theorem nx:ah Tryz.prog qx.tab:=(ah.cons tY (ah.cons vg ah.nil))
abbrev zCg2 (a:List Int):List Chunk:=[.cells [.own 3] 29,.dead,.dead,.own 3 .int a]
variable (l:List Ev.Stat) (i:Nat)
theorem EJ (lp:Nat) (pre:List Int) (y:Int) (Γ:Ctx) (hds:Γ.ds=[]) (hlen:pre.length<100) :
 J Tryz.prog ⟨50,some lp⟩ (aw Tryz.f50) Γ (fun v ck=>(v = .x (.b true)∧True∧ck=(fun pre=>(zCg2 pre)) (pre++[y]))∨(v = .x (.b false)∧False∧ck=(fun pre=>(zCg2 pre)) (pre++[y]))) [.code ([1,1,1,0,1,0]++[1])]
  { n:=20,fr:=bD 6 (.x (.i y)) (bD 14 (.x (.i y)) [(4,.x (.c (.pd (.v (.slice none 0 0))))),(5,.x (.c (.loc 0 0))),(13,.x (.c (.fn (.func 149) [] [.pd (.ref .int (i:Int) 0),.pd (.ref .stats l 0)])))]),ck:=(zCg2 pre),m:=3 }:=by
 show J Tryz.prog ⟨50,some lp⟩ (aw Tryz.f50) Γ _ [.code [1,1,1,0,1,0,1]] { n:=20,fr:=[(4,.x (.c (.pd (.v (.slice none 0 0))))),(5,.x (.c (.loc 0 0))),(13,.x (.c (.fn (.func 149) [] [.pd (.ref .int (i:Int) 0),.pd (.ref .stats l 0)]))),(14,.x (.i (y:Int))),(6,.x (.i (y:Int)))],ck:=(zCg2 pre),m:=3 }
 refine J.goR (cfg:=qx) nx (fn:=IR Tryz.f50) (by kernel_rfl) 1000 (t:=(.need (room ((pre++[y]).length) 8) (.stop [] { n:=20,fr:=[(4,.p (.v (Value.slice none 0 0)))],ck:=[.cells [.own 3] 29,.dead,.dead,.own 3 .int (pre++[y])],m:=3 }))) (by kernel_rfl) ?_
 refine ⟨⟨by rw [an]; show (_+1) * 8≤_; omega,by rw [an]; show _+1≤_; unfold maxLen; omega⟩,?_⟩
 exact J.roundEnd hds (.inl ⟨rfl,trivial,rfl⟩)
theorem tG {l:List Ev.Stat} {i:Int} (h:b9 l i=true):bT l=true∧0≤i∧i<(l.length:Int):=by
 unfold b9 at h
 simp only [af,decide_eq_true_eq] at h
 obtain ⟨⟨a,b⟩,c⟩:=h
 exact ⟨by assumption,by assumption,by assumption⟩
abbrev zCg1 (a:Nat) (b:List Ev.Stat):List (Nat×SV):=[(4,.x (.c (.pd (.v (.slice none 0 0))))),(5,.x (.c (.loc 0 0))),(13,.x (.c (.fn (.func 149) [] [.pd (.ref .int (a:Int) 0),.pd (.ref .stats b 0)])))]
abbrev zCg3:List PI:=[.code [1,1,1,0,1,0],.inBlock 0,.code [1,1,1,1]]
theorem CW (hh:b9 l (i:Int)=true):ag Tryz.prog 50 [.l .stat l,.i (i:Int)] [] (.x (.c (.own 0))) [.own 3 .int (br l i)]:=by
 have h1:=tG hh
 have S:=hZ h1.1
 have hf:=S.few
 have hl:l.length≤maxLen:=by unfold maxLen; omega
 have hi:i<l.length:=by omega
 have hkm:=kG l i
 refine dg nx Tryz.func50 (.need (l.length≤maxLen) (.ite (!b9 l (i:Int)) (.ret (.p (.v (Value.slice none 0 0))) []) (.stop zCg3 { n:=20,fr:=[(4,.p (.v (Value.slice none 0 0))),(5,.x (.c (.loc 0 0))),(13,.x (.c (.fn (.func 149) [] [.loc 2 0,.loc 1 0])))],ck:=[.cells [.pd (.v (Value.slice none 0 0))] 29,.cells [.pd (.lst .stat l)] 24,.cells [.i i] 3] }))) fun Γ=>?_
 refine ⟨hl,fun h=>?_,fun _=>?_⟩
 · rw [hh] at h; cases h
 have rest:J Tryz.prog 50 (aw Tryz.f50) Γ (Eq2 (.x (.c (.own 0))) [.own 3 .int (br l i)]) zCg3 { n:=20,fr:=(zCg1 i l),ck:=[.cells [.own 3] 29,.dead,.dead,.own 3 .int []] }:=by
  refine J.rangeQ 3 (ok:=fun x=>0≤x∧x<(l.length:Int)) (xs:=br l i) (g:=13) (s:=14) (d:=6) Tryz.func50 (by kernel_rfl) (by kernel_rfl) (by kernel_rfl) (by kernel_rfl) rfl (Go.Proofs.enters_of Tryz.func149 (by kernel_rfl) rfl) (by kernel_rfl) (by kernel_rfl) (by kernel_rfl) (by kernel_rfl) (r8 l i hi hl)
   (fun _=>True) (fun _=>False) trivial (fun pre=>[.cells [.own 3] 29,.dead,.dead,.own 3 .int pre]) (fun pre=>[.cells [.own 3] 29,.dead,.dead,.own 3 .int pre]) rfl (fun _=>rfl) (fun _=>rfl) (fun _=>rfl) (fun _=>rfl)
   (fun lp pre x Γ hds _ _ _ hlen=>EJ l i lp pre x Γ hds (by omega)) (fun _ Γ'=>?_) (fun _ _ hb=>hb.elim)
  generalize br l i=pre
  show J Tryz.prog 50 (aw Tryz.f50) Γ' _ _ { n:=20,fr:=(zCg1 i l),ck:=[.cells [.own 3] 29,.dead,.dead,.own 3 .int pre] }
  refine jg nx Tryz.func50 (.ret (.x (.c (.own 0))) [.own 3 .int pre]) ?_
  exact ⟨rfl,rfl⟩
 have rest2:J Tryz.prog 50 (aw Tryz.f50) Γ (Eq2 (.x (.c (.own 0))) [.own 3 .int (br l i)]) zCg3 { n:=20,fr:=(zCg1 i l),ck:=[.cells [.pd (.v (.slice none 0 0))] 29,.dead,.dead] }:=J.nilCk 0 0 3 .int rfl rfl (by kernel_rfl) rest
 exact J.freeze bk [1,2] (by kernel_rfl) rest2
theorem Aq (i:Int) (h:b9 l i=true):ag Tryz.prog 50 [.l .stat l,.i i] [] (.x (.c (.own 0))) [.own 3 .int (br l i.toNat)]:=by
 obtain ⟨k,rfl⟩:=aF (tG h).2.1
 rw [aj]
 exact CW l k h
def my:Ent:=(50,fun
 | [.c (.pd (.lst .stat l)),.c (.pd (.int .i64 i))],[]=>some (some (b9 l i=true),.x (.c (.own 0)),[.own 3 .int (br l i.toNat)])
 | _,_=>none)
theorem su:EntOk Tryz.prog my:=entOk fun vs ck=>by
 unfold my; dsimp only; split
 · rename_i l i; exact entS fun hp=>Aq l i hp
 · exact entN
end Go.Proofs.YtcopfgbbjdefbaaGreatDoor
namespace Go.Proofs.YtcopfgbbjdefbaaGreatDoor
open Go Go.Ev
set_option maxRecDepth 100000
abbrev zFa2:List PI:=[.code [1,1,0,1,0,0],.inLoop [1,1,0,1,0,0],.inBlock 0,.code [1,1,1]]
variable (l:List Cell) (s:Str) (Γ:Ctx)
theorem Cb (h0:jb s=false):∀ (n k:Nat),s.length - k≤n→k≤s.length→(∀ j,j<k→jA (s.getD j 0)=false) →
 J Tryz.prog 46 (aw Tryz.f46) Γ (Eq2 (.x (.b (aU s))) []) zFa2 ({ n:=56,fr:=[(0,.p (.str s)),(2,.p (.bool false)),(23,.i (ax s)),(24,.i k)],ck:=[],kn:=[2] }):=by
 have hlen:s.length≤12:=by simp [jb,ax] at h0; omega
 intro n
 induction n with
 | zero=>?_
 | succ n ih=>?_
 all_goals
  intro k hn hk hb
  refine jg aT Tryz.func46 (let x1:=(↑((List.getD s k (0:UInt8)).toNat):Int); let x2:Tree:=(.ret (.p (.bool false)) []); .ite (decide ((k:Int)<ax s)) (.need ((0:Int)≤(k:Int)∧(k:Int)<ax s) (.ite ((decide (x1<97)||decide (x1>122))&&(decide (x1<48)||decide (x1>57))&&x1 != 95) x2 (.stop zFa2 { n:=56,fr:=[(0,.p (.str s)),(2,.p (.bool false)),(23,.i (ax s)),(24,.i (IntKind.wrap .i64 ((k:Int)+1)))],ck:=[],kn:=[2] }))) (.ite (s==[116,114,117,101]) x2 (.ite (s==[102,97,108,115,101]) x2 (.ite (s==[105,110]) x2 (.ite (s==[114,101]) x2 (.ite (s==[105,109]) x2 (.ret (.p (.bool true)) []))))))) ?_
  conv=>zeta
  have hend:¬k<s.length→s.any jA=false:=fun h=>mU fun j hj=>hb j (by omega)
  refine ⟨fun hlt=>⟨?_,fun hbad=>⟨?_,rfl⟩,fun hok=>?_⟩,fun hge=>?_⟩
  · have:=of_decide_eq_true hlt; simp only [ax] at this ⊢; omega
  · have:=of_decide_eq_true hlt; simp only [ax] at this
    have hbad':jA (s.getD k 0)=true:=hbad
    simp only [aU,uR (by omega) hbad']; simp
  · have:=of_decide_eq_true hlt; simp only [ax] at this
    first
    | (exfalso; omega)
    | (rw [aZ (by omega)]
       exact ih (k+1) (by omega) (by omega) fun j hj=>if e:j=k then by rw [e]; exact hok else hb j (by omega))
  · have:=of_decide_eq_false hge; simp only [ax] at this
    have hany:=hend (by omega)
    refine ⟨fun h1=>⟨?_,rfl⟩,fun h1=>⟨fun h2=>⟨?_,rfl⟩,fun h2=>⟨fun h3=>⟨?_,rfl⟩,fun h3=>⟨fun h4=>⟨?_,rfl⟩,fun h4=>⟨fun h5=>⟨?_,rfl⟩,fun h5=>⟨?_,rfl⟩⟩⟩⟩⟩⟩ <;>
     simp [aU,h0,hany,nJ, *]
theorem BW:ag Tryz.prog 46 [.s s] [] (.x (.b (aU s))) []:=by
 refine dg aT Tryz.func46 (let x1:=(↑((List.getD s 0 (0:UInt8)).toNat):Int); let x2:=(ax s>(12:Int)); .need ((s==[]||decide x2)=false→(0:Int)≤0∧(0:Int)<ax s) (.need ((s==[]||decide x2||decide (x1<97))=false→(0:Int)≤0∧(0:Int)<ax s) (.ite (s==[]||decide x2||decide (x1<97)||decide (x1>122)) (.ret (.p (.bool false)) []) (.stop zFa2 { n:=56,fr:=[(0,.p (.str s)),(2,.p (.bool false)),(23,.i (ax s)),(24,.i 0)],ck:=[],kn:=[2] })))) fun Γ=>?_
 conv=>zeta
 have hpos:(s==[]||decide (ax s>12))=false→0≤(0:Int)∧0<ax s:=by
  intro h
  cases s with
  | nil=>simp at h
  | cons c r=>simp [ax]
 refine ⟨hpos,fun h=>hpos ?_,fun h=>⟨?_,rfl⟩,fun h=>?_⟩
 · simp only [ay] at h ⊢; exact h.1
 · have h':jb s=true:=h
   simp [aU,h']
 · exact Cb s _ h s.length 0 (by omega) (by omega) (fun j hj=>by omega)
def iU:Ent:=(46,fun
 | [.c (.pd (.str s))],[]=>some (none,.x (.c (.pd (.bool (aU s)))),[])
 | _,_=>none)
theorem gX:EntOk Tryz.prog iU:=entOk fun vs ck=>by
 unfold iU; dsimp only; split
 · rename_i s; exact entS fun hp=>BW s
 · exact entN
def wY:Cfg:=⟨bk,[iU]⟩
theorem yQ:ah Tryz.prog wY.tab:=(ah.cons gX ah.nil)
theorem yO (op a:Int) (s:Str):ag Tryz.prog 239 [.agg [.i op,.i a,.pd (.str s)]] [] (.x (.i (cu op a s))) []:=by
 refine dg yQ Tryz.func239 (let x1:Tree:=(.ret (.i (-1:Int)) []); let x2:Tree:=(.ite (a != (0:Int) || !aU s) x1 (.ret (.i 0) [])); .ite (op==(1:Int)) (.ite (decide (a<(0:Int))||decide (a>(1099511627776:Int)) || !s==[]) x1 (.ret (.i 0) [])) (.ite (op==(2:Int)) (.ite (decide (a<(0:Int))||decide (a>(1048576:Int)) || !s==[]) x1 (.ret (.i 0) [])) (.ite (op==(5:Int)) x2 (.ite (op==(6:Int)) x2 (.ite (decide (op<(3:Int))||decide (op>(23:Int))||a != (0:Int) || !s==[]) x1 (.ite (decide (op≤(4:Int))) (.ret (.i 0) []) (.ite (decide (op≤(10:Int))) (.ret (.i 1) []) (.ret (.i 2) [])))))))) fun Γ=>?_
 conv=>zeta
 (repeat' (first | intro h | constructor)) <;> simp only [cu, *,cond_true,cond_false]
def px:Ent:=(239,fun
 | [.agg [.pd (.int .i64 op),.pd (.int .i64 a),.pd (.str s)]],[]=>some (none,.x (.c (.pd (.int .i64 (cu op a s)))),[])
 | _,_=>none)
theorem Cs:EntOk Tryz.prog px:=entOk fun vs ck=>by
 unfold px; dsimp only; split
 · rename_i op a s; exact entS fun hp=>yO op a s
 · exact entN
def pf:Cfg:=⟨bk,[px]⟩
theorem oI:ah Tryz.prog pf.tab:=(ah.cons Cs ah.nil)
abbrev zFa1:List PI:=[.code [1,1,1,0,1,0,0],.inLoop [1,1,1,0,1,0,0],.inBlock 0,.code [1,1,1,1]]
theorem xX (hl:l.length≤32):∀ (n k:Nat) (m:Int),l.length - k≤n→k≤l.length→0≤m→m≤k →
 J Tryz.prog 186 (aw Tryz.f186) Γ (Eq2 (.x (.b (cb (l.drop k) m))) []) zFa1 ({ n:=32,fr:=[(2,.p (.bool false)),(3,.i m),(10,.p (.lst .cell l)),(11,.i l.length),(12,.i k)],ck:=[],kn:=[2] }):=by
 intro n
 induction n with
 | zero=>?_
 | succ n ih=>?_
 all_goals
  intro k m hn hk h0 hm
  refine jg oI Tryz.func186 (let x1:=(Cell.name (ETy.get .cell l k)); let x2:=(Cell.op (ETy.get .cell l k)); let x3:=(Cell.a (ETy.get .cell l k)); .ite (decide ((k:Int)<(l.length:Int))) (.need (inRg k l.length) (.ite (decide (cu x2 x3 x1<(0:Int))||decide (cu x2 x3 x1>m)) (.ret (.p (.bool false)) []) (.stop zFa1 { n:=32,fr:=[(2,.p (.bool false)),(3,.i (IntKind.wrap .i64 (m+IntKind.wrap .i64 ((1:Int) - cu x2 x3 x1)))),(10,.p (.lst .cell l)),(11,.i l.length),(12,.i (IntKind.wrap .i64 ((k:Int)+1)))],ck:=[],kn:=[2] }))) (.ret (.p (.bool (m==(1:Int)))) [])) ?_
  conv=>zeta
  refine ⟨fun hlt=>⟨?_,?_⟩,fun hge=>⟨?_,rfl⟩⟩
  · have:=of_decide_eq_true hlt; omega
  · have hk':k<l.length:=by have:=of_decide_eq_true hlt; omega
    rw [bL (t:=.cell) hk']
    generalize ETy.get .cell l k=c
    refine ⟨fun hb=>⟨?_,rfl⟩,fun hb=>?_⟩
    · have hb':(decide (a6 c<0)||decide (a6 c>m))=true:=hb
      simp only [cb,hb',cond_true]
    · have hb':(decide (a6 c<0)||decide (a6 c>m))=false:=hb
      have hw:0≤a6 c∧a6 c≤m:=by
       simp only [ay,decide_eq_false_iff_not] at hb'
       omega
      simp only [cb,hb',cond_false]
      show J Tryz.prog 186 (aw Tryz.f186) Γ _ zFa1 ({ n:=32,fr:=[(2,.p (.bool false)),(3,.i (IntKind.wrap .i64 (m+IntKind.wrap .i64 (1 - a6 c)))),(10,.p (.lst .cell l)),(11,.i l.length),(12,.i (IntKind.wrap .i64 ((k:Int)+1)))],ck:=[],kn:=[2] })
      rw [cr (n:=1 - a6 c) (by omega) (by omega),cr (by omega) (by omega),aZ (by omega)]
      first
      | (exfalso; omega)
      | exact ih (k+1) (m+(1 - a6 c)) (by omega) (by omega) (by omega) (by omega)
  · rw [bY (by have:=of_decide_eq_false hge; omega)]; rfl
theorem yl:ag Tryz.prog 186 [.l .cell l] [] (.x (.b (dx l))) []:=by
 refine dg oI Tryz.func186 (.ite (decide ((l.length:Int)>32)) (.ret (.p (.bool false)) []) (.stop zFa1 { n:=32,fr:=[(2,.p (.bool false)),(3,.i 0),(10,.p (.lst .cell l)),(11,.i l.length),(12,.i 0)],ck:=[],kn:=[2] })) fun Γ=>?_
 refine ⟨fun h=>⟨by simp only [dx,h]; rfl,rfl⟩,fun h=>?_⟩
 have hl:l.length≤32:=by have:=of_decide_eq_false h; omega
 simp only [dx,h]
 exact xX l Γ hl l.length 0 0 (by omega) (by omega) (by omega) (by omega)
def nD:Ent:=(186,fun
 | [.c (.pd (.lst .cell l))],[]=>some (none,.x (.c (.pd (.bool (dx l)))),[])
 | _,_=>none)
theorem sr:EntOk Tryz.prog nD:=entOk fun vs ck=>by
 unfold nD; dsimp only; split
 · rename_i l; exact entS fun hp=>yl l
 · exact entN
end Go.Proofs.YtcopfgbbjdefbaaGreatDoor
