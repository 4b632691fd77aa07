/- Contracts: words.Line. Conditions: sizes. Contracts: the kinds of lines, a map. Conditions: none. Contracts: chart.Parse on the layer's example. Conditions: none. Contracts: chart.Parse on layer 10's example. Conditions: none. Contracts: arguments that read as others; a mark. Conditions: none. Contracts: conf: Leaves; layer 10's example. Conditions: sizes. From a call's contract to a law's row: arguments opened, the row shut. Conditions: each theorem's own. From a row that lists the library's tables to what the walks ask; a world for the witness. Conditions: none. -/
import Derived.Test.YtcopfgbbjdefbaaGreatDoorKb
import Derived.Test.YtcopfgbbjdefbaaGreatDoorTa
import Derived.Test.YtcopfgbbjdefbaaGreatDoorVe
import Derived.Test.YtcopfgbbjdefbaaGreatDoorJz
import Derived.Test.YtcopfgbbjdefbaaGreatDoorTq
import Derived.Test.YtcopfgbbjdefbaaGreatDoorSg
import Derived.Test.YtcopfgbbjdefbaaGreatDoorVk
import Derived.Test.YtcopfgbbjdefbaaGreatDoorCd
import Derived.Test.YtcopfgbbjdefbaaGreatDoorPY
import Derived.ProofKit
import Derived.Deep.Slices
import Derived.SizedLaws
import Derived.Test.YtcopfgbbjdefbaaGreatDoorCards
import Derived.Test.YtcopfgbbjdefbaaGreatDoorTie
import Derived.Deep.DeepHandedRow
import Derived.Lib.LaidTab
import Derived.LaidSub
import Derived.Stop.LaidErr
import Derived.MakeChecks
import Derived.Shelf.Vars
namespace Go.Proofs.YtcopfgbbjdefbaaGreatDoor
open Go Go.Ev
set_option maxRecDepth 100000
def xO:Ent:=(45,fun
 | [.c (.pd (.str s))],[]=>some (some (s.length≤2097152∧A5 s=true),.tup [.c (.pd (.int .i64 ((cM s:Nat):Int))),.c (.own 0),.c (.pd (.int .i64 0))],[.own 9 .str (iz s)])
 | _,_=>none)
theorem HF:EntOk Tryz.prog xO:=entOk fun vs ck=>by
 unfold xO; dsimp only; split
 · rename_i s; exact entS fun hp=>HE s hp.1 hp.2
 · exact entN
def k8:List (Str×Nat):=[([101,118,101,110,116],66),([105,110,116],67),([98,111,111,108],68),([112,111,105,110,116],69),([98,97,115,105,99],70),([98,111,116,104],71),([102,105,110,97,108],72),([111,110,101],73),([115,104,97,108,108,111,119],74),([100,101,101,112],75),([101,110,116,114,121],76),([101,120,105,116],77),([111,110],78)]
theorem yV:ag Tryz.prog 42 [] [] (.x (.p (.tbl k8))) []:=by
 refine dg aT Tryz.func42 (.stop [.ops [1,0] 0,.code [1,1]] { n:=3,fr:=[(0,.p (.v (Value.map none)))],ck:=[] }) fun Γ=>?_
 refine J.makeTbl (d:=1) (n:=13) (l:=k8.map fun p=>(bs p.1,p.2)) (by kernel_rfl) ?_
 have e:keyed (k8.map fun p=>(bs p.1,p.2))=k8:=by decide
 rw [e]
 refine jg aT Tryz.func42 (.ret (.p (PD.tbl [([(101:UInt8),118,101,110,116],66),([(105:UInt8),110,116],67),([(98:UInt8),111,111,108],68),([(112:UInt8),111,105,110,116],69),([(98:UInt8),97,115,105,99],70),([(98:UInt8),111,116,104],71),([(102:UInt8),105,110,97,108],72),([(111:UInt8),110,101],73),([(115:UInt8),104,97,108,108,111,119],74),([(100:UInt8),101,101,112],75),([(101:UInt8),110,116,114,121],76),([(101:UInt8),120,105,116],77),([(111:UInt8),110],78)])) []) ?_
 exact ⟨rfl,rfl⟩
def pq:Ent:=(42,fun
 | [],[]=>some (none,.x (.c (.pd (.tbl k8))),[])
 | _,_=>none)
theorem BA:EntOk Tryz.prog pq:=entOk fun vs ck=>by
 unfold pq; dsimp only; split
 · exact entS fun hp=>yV
 · exact entN
noncomputable section
def rHs : Nat × (List SX → List Chunk → Option (Option Prop × SV × List Chunk)) := gb Tryz.prog bP Tryz.f135 30 135
theorem It (vs : List SX) (ck : List Chunk) (p : Option Prop) (ret : SV) (ck' : List Chunk) (h : rHs.2 vs ck = some (p, ret, ck')) (hp : Holds p) : ag Tryz.prog rHs.1 vs ck ret ck' := e7 aT Tryz.func135 (by kernel_rfl) h hp
def Gi : Cfg := ⟨bk, [rHs]⟩
theorem Ex : ah Tryz.prog Gi.tab := (ah.cons It ah.nil)
def Fo : Nat × (List SX → List Chunk → Option (Option Prop × SV × List Chunk)) := gb Tryz.prog Gi Tryz.f80 30 80
theorem HS (vs : List SX) (ck : List Chunk) (p : Option Prop) (ret : SV) (ck' : List Chunk) (h : Fo.2 vs ck = some (p, ret, ck')) (hp : Holds p) : ag Tryz.prog Fo.1 vs ck ret ck' := e7 Ex Tryz.func80 (by kernel_rfl) h hp
def Gx : Cfg := ⟨bk, [Fo]⟩
theorem FK : ah Tryz.prog Gx.tab := (ah.cons HS ah.nil)
def rTs : Nat × (List SX → List Chunk → Option (Option Prop × SV × List Chunk)) := gb Tryz.prog Gx Tryz.f44 30 44
theorem IX (vs : List SX) (ck : List Chunk) (p : Option Prop) (ret : SV) (ck' : List Chunk) (h : rTs.2 vs ck = some (p, ret, ck')) (hp : Holds p) : ag Tryz.prog rTs.1 vs ck ret ck' := e7 FK Tryz.func44 (by kernel_rfl) h hp
def tU : Cfg := ⟨bk, [iU]⟩
theorem r9 : ah Tryz.prog tU.tab := (ah.cons gX ah.nil)
def rHd : Nat × (List SX → List Chunk → Option (Option Prop × SV × List Chunk)) := gb Tryz.prog tU Tryz.f121 30 121
theorem Im (vs : List SX) (ck : List Chunk) (p : Option Prop) (ret : SV) (ck' : List Chunk) (h : rHd.2 vs ck = some (p, ret, ck')) (hp : Holds p) : ag Tryz.prog rHd.1 vs ck ret ck' := e7 r9 Tryz.func121 (by kernel_rfl) h hp
def Bu : Cfg := ⟨bk, [rHd]⟩
theorem Bo : ah Tryz.prog Bu.tab := (ah.cons Im ah.nil)
def DJ : Nat × (List SX → List Chunk → Option (Option Prop × SV × List Chunk)) := gb Tryz.prog Bu Tryz.f66 30 66
theorem Ia (vs : List SX) (ck : List Chunk) (p : Option Prop) (ret : SV) (ck' : List Chunk) (h : DJ.2 vs ck = some (p, ret, ck')) (hp : Holds p) : ag Tryz.prog DJ.1 vs ck ret ck' := e7 Bo Tryz.func66 (by kernel_rfl) h hp
def FT : Nat × (List SX → List Chunk → Option (Option Prop × SV × List Chunk)) := gb Tryz.prog tU Tryz.f126 30 126
theorem GX (vs : List SX) (ck : List Chunk) (p : Option Prop) (ret : SV) (ck' : List Chunk) (h : FT.2 vs ck = some (p, ret, ck')) (hp : Holds p) : ag Tryz.prog FT.1 vs ck ret ck' := e7 r9 Tryz.func126 (by kernel_rfl) h hp
def uj : Cfg := ⟨bk, [FT]⟩
theorem rJ : ah Tryz.prog uj.tab := (ah.cons GX ah.nil)
def DY : Nat × (List SX → List Chunk → Option (Option Prop × SV × List Chunk)) := gb Tryz.prog uj Tryz.f73 30 73
theorem G1 (vs : List SX) (ck : List Chunk) (p : Option Prop) (ret : SV) (ck' : List Chunk) (h : DY.2 vs ck = some (p, ret, ck')) (hp : Holds p) : ag Tryz.prog DY.1 vs ck ret ck' := e7 rJ Tryz.func73 (by kernel_rfl) h hp
def En : Nat × (List SX → List Chunk → Option (Option Prop × SV × List Chunk)) := gb Tryz.prog uj Tryz.f70 30 70
theorem GR (vs : List SX) (ck : List Chunk) (p : Option Prop) (ret : SV) (ck' : List Chunk) (h : En.2 vs ck = some (p, ret, ck')) (hp : Holds p) : ag Tryz.prog En.1 vs ck ret ck' := e7 rJ Tryz.func70 (by kernel_rfl) h hp
def ED : Nat × (List SX → List Chunk → Option (Option Prop × SV × List Chunk)) := gb Tryz.prog bP Tryz.f127 30 127
theorem Gy (vs : List SX) (ck : List Chunk) (p : Option Prop) (ret : SV) (ck' : List Chunk) (h : ED.2 vs ck = some (p, ret, ck')) (hp : Holds p) : ag Tryz.prog ED.1 vs ck ret ck' := e7 aT Tryz.func127 (by kernel_rfl) h hp
def Ct : Cfg := ⟨bk, [ED, mB, iU]⟩
theorem Cu : ah Tryz.prog Ct.tab := (ah.cons Gy (ah.cons rT (ah.cons gX ah.nil)))
def rOn : Nat × (List SX → List Chunk → Option (Option Prop × SV × List Chunk)) := rv Tryz.prog Ct Tryz.f78 999 30 78
theorem IK (vs : List SX) (ck : List Chunk) (p : Option Prop) (ret : SV) (ck' : List Chunk) (h : rOn.2 vs ck = some (p, ret, ck')) (hp : Holds p) : ag Tryz.prog rOn.1 vs ck ret ck' := Ai Cu Tryz.func78 (by kernel_rfl) h hp
def Io : Cfg := ⟨bk, [pq, rTs, n2, xO, iU, DJ, DY, En, rOn]⟩
theorem km : ah Tryz.prog Io.tab := (ah.cons BA (ah.cons IX (ah.cons xV (ah.cons HF (ah.cons gX (ah.cons Ia (ah.cons G1 (ah.cons GR (ah.cons IK ah.nil)))))))))
end
abbrev wkN : SC := .pd (.v (.slice none 0 0))
def ckW (a b c d : SC) (n : Int) (r : List Chunk) : List Chunk := .cells [.pd (.str []), wkN, wkN, wkN, wkN] 27 :: .cells [.pd (.str [99]), a, b, c, d, .pd (.i n)] 65 :: .own 9 .str [[99, 104, 97, 114, 116, 32, 99], [101, 118, 101, 110, 116, 32, 103, 111], [111, 110, 101, 32, 114, 32, 97], [32, 98, 97, 115, 105, 99, 32, 97], [32, 32, 111, 110, 32, 103, 111, 32, 45, 32, 97, 32, 45]] :: r
def sR : Ev.Stat := ⟨[114], 2, 0, [97], [], []⟩
def sA : Ev.Stat := ⟨[97], 1, 1, [], [], []⟩
def ck1 : List Chunk := ckW wkN wkN wkN wkN 0 []
def ck2 : List Chunk := ckW (.own 3) wkN wkN wkN 0 [.own 9 .str [[103, 111]]]
abbrev wkI (i : Int) (n : Nat) : Prop := 0 ≤ i ∧ i < n
abbrev wkJ (i : Int) (n : Nat) : Prop := 0 ≤ i ∧ i ≤ n
abbrev wkB (n m : Nat) : Prop := n < m
abbrev wkL (n : Nat) : Prop := n ≤ 2097152 ∧ true = true
def tdW : List PI := [PI.code [1, 1, 1, 1, 0, 1, 0, 0], PI.inLoop [1, 1, 1, 1, 0, 1, 0, 0], PI.inBlock 0, PI.code [1, 1, 1, 1, 1]]
abbrev zJ30Cw:=J Tryz.prog 30 (aw Tryz.f30)
def exV:Str:=[99,104,97,114,116,32,99,10,111,110,101,32,114,32,97,10,32,98,97,115,105,99,32,97,10]
variable {Γ:Ctx} {Q:Out} (i:Int)
def frV:List (Nat×SV):=[(2,.x (.c (.loc 0 0))),(3,.i 0),(4,.i 0),(5,.x (.c (.loc 1 0))),(6,.p (.tbl k8)),(23,.x (.c (.own 2))),(24,.i 3),(25,.i i)]
def ckV (c:SC) (n:Int) (r:List Chunk):List Chunk:=.cells [.pd (.str []),wkN,wkN,wkN,wkN] 27 :: .cells [.pd (.str [99]),wkN,wkN,c,wkN,.pd (.i n)] 65 :: .own 9 .str [[99,104,97,114,116,32,99],[111,110,101,32,114,32,97],[32,98,97,115,105,99,32,97]]::r
def stV (ck:List Chunk):ST:={ n:=101,fr:=frV i,ck:=ck }
def cv1:List Chunk:=ckV wkN 0 []
def cv2:List Chunk:=ckV (.own 3) 0 [.own 42 .stat [sR]]
def cv3:List Chunk:=ckV (.own 3) 1 [.own 42 .stat [sR,sA]]
theorem vl0 (h:zJ30Cw Γ Q tdW (stV 1 cv1)):zJ30Cw Γ Q [.code []] (eX (Tryz.f30).ntmps [.s exV] []):=by
 refine J.runE (fn:=Tryz.f30) km Tryz.func30 10 2 [wkB 1 2,wkI 1 2,true=true→wkB 1 2,true=true→wkI 1 2,true=true→wkB 0 2,true=true→wkI 0 2,wkL 7,wkB 0 3,wkI 0 3,wkB 24 4294967281,eu [eu [wkJ 24 25,eu [true=true→wkJ 24 25]]]] (by kernel_rfl) ?_ h
 repeat' first | exact trivial | decide | constructor | intro _
theorem vl1 (h:zJ30Cw Γ Q tdW (stV 2 cv2)):zJ30Cw Γ Q tdW (stV 1 cv1):=by
 refine J.runE (fn:=Tryz.f30) km Tryz.func30 10 4 [eu [eu [room 1 96,wkI 1 2,wkI 0 2,false=false→wkI 1 2,false=false→wkI 0 2]],true=true→wkJ 1 3,wkB 0 3,wkI 0 3,wkL 7,wkB 1 3,wkI 1 3] (by kernel_rfl) ?_ h
 repeat' first | exact trivial | decide | constructor | intro _
theorem vl2 (h:zJ30Cw Γ Q tdW (stV 3 cv3)):zJ30Cw Γ Q tdW (stV 2 cv2):=by
 refine J.runE (fn:=Tryz.f30) km Tryz.func30 10 4 [eu [eu [room 2 96,wkI 0 1,false=false→wkI 0 1,false=false→wkI 0 1,wkB 0 1,wkI 0 1]],true=true→wkJ 1 2,wkB 0 2,wkI 0 2,wkL 8,wkB 2 3,wkI 2 3] (by kernel_rfl) ?_ h
 repeat' first | exact trivial | decide | constructor | intro _
theorem Is:ag Tryz.prog 30 [.s exV] [] (.tup [.agg [.pd (.str [99]),wkN,wkN,.own 0,wkN],.i 0,.i 0]) [.own 42 .stat [sR,sA]]:=by
 refine ag.of Tryz.func30 (by kernel_rfl) (by kernel_rfl) fun Γ=>vl0 (vl1 (vl2 ?_))
 exact (jP (a:=[]) (fn:=Tryz.f30) (fz:=10) km Tryz.func30 4 (ps:=[]) (by kernel_rfl) trivial ⟨rfl,rfl⟩).1
def Al:Ent:=(30,fun
 | [.c (.pd (.str s))],[]=>some (some (s=exV),.tup [.agg [.pd (.str [99]),.pd (.v (.slice none 0 0)),.pd (.v (.slice none 0 0)),.own 0,.pd (.v (.slice none 0 0))],.c (.pd (.int .i64 0)),.c (.pd (.int .i64 0))],[.own 42 .stat [⟨[114],2,0,[97],[],[]⟩,⟨[97],1,1,[],[],[]⟩]])
 | _,_=>none)
theorem GC:EntOk Tryz.prog Al:=entOk fun vs ck=>by
 unfold Al; dsimp only; split
 · rename_i s; exact entS fun hp=>by subst hp; exact Is
 · exact entN
end Go.Proofs.YtcopfgbbjdefbaaGreatDoor
namespace Go.Proofs.YtcopfgbbjdefbaaGreatDoor
open Go Go.Ev
set_option maxRecDepth 100000
theorem ag.sub {P:Program} {f:FuncId} {args args':List SX} {ck ck':List Chunk} {ret:SV} (h:∀ (V:Vn) (vs:List Value),All2 (SX.R V) args vs→All2 (SX.R V) args' vs) (d:ag P f args' ck ret ck'):ag P f args ck ret ck' :=
 fun w V vs hw hT hv=>d w V vs hw hT (h V vs hv)
theorem mr {H:Mem} {t:ETy} {u:Value} (h:PR H (.v (.slice none 0 0)) u):PR H (.lst t []) u:=by
 cases h; exact .emp t none 0 (fun _=>rfl)
/-! ### a mark: guards that are literal count as none -/
def DI:Ent:=(1000000007,fun _ _=>none)
theorem G8 (vs:List SX) (ck:List Chunk) (p:Option Prop) (ret:SV) (ck':List Chunk) (h:DI.2 vs ck=some (p,ret,ck')) (_:Holds p):ag Tryz.prog DI.1 vs ck ret ck':=by cases h
end Go.Proofs.YtcopfgbbjdefbaaGreatDoor
namespace Go.Proofs.YtcopfgbbjdefbaaGreatDoor
open Go Go.Ev
set_option maxRecDepth 100000
abbrev zCn1 (a:Chart):Chunk:=.cells [.pd (.str a.name),.pd (.lst .str a.events),.pd (.lst .var a.vars),.pd (.lst .stat a.states),.pd (.lst .tran a.trans)] 27
abbrev zCn2:List PI:=[.code [1,1,1,0,1,0,0],.inLoop [1,1,1,0,1,0,0],.inBlock 0,.code [1,1,1,1]]
variable (a:Str) (c:Chart) (d:List Ev.Stat) (s:List Int)
theorem Eh (hl:s.length≤1000) (hs:∀ y∈s,0≤y∧y<(c.states.length:Int)) (Γ:Ctx):∀ (n k:Nat),s.length - k≤n→k≤s.length →
 J Tryz.prog 22 (aw Tryz.f22) Γ (Eq2 (.x (.c (.own 0))) [.own 3 .int (fQ c.states s)]) zCn2 ({ n:=37,fr:=[(2,.x (.c (.loc 0 0))),(4,.p (.v (Value.slice none 0 0))),(5,.x (.c (.own 1))),(13,.p (.lst .int s)),(14,.i s.length),(15,.i ((k:Int)))],ck:=[zCn1 c,.own 3 .int (fQ c.states (s.take k))] }):=by
 have hm:s.length≤maxLen:=by unfold maxLen; omega
 intro n
 induction n with
 | zero=>?_
 | succ n ih=>?_
 all_goals
  intro k hn hk
  have hol:(fQ c.states (s.take k)).length≤k:=au (bn _ _) (by rw [a7]; omega)
  have htk:∀ hk':k<s.length,fQ c.states (s.take (k+1))=fQ c.states (s.take k)++(if tA c.states (ETy.get .int s k)=true then [ETy.get .int s k] else []):=fun hk'=>by
   unfold fQ
   rw [ETy.get_eq (t:=.int) (List.getElem?_eq_getElem hk'),aR hk',bU]
   cases h:tA c.states s[k] <;> simp [h]
  generalize hout:fQ c.states (s.take k)=out at hol htk
  refine jg rY Tryz.func22 (let x1:List (Nat×SV):=[(2,.x (.c (.loc 0 0))),(4,.p (.v (Value.slice none 0 0))),(5,.x (.c (.own 1))),(13,.p (.lst .int s)),(14,.i s.length),(15,.i (IntKind.wrap .i64 ((k:Int)+1)))]; let x2:List PI:=zCn2; let x3:=(ETy.get .stat c.states ((ETy.get .int s k).toNat)); .ite (decide ((k:Int)<(s.length:Int))) (.need (inRg k s.length) (.need ((0:Int)≤ETy.get .int s k∧ETy.get .int s k<(c.states.length:Int)) (.ite (Stat.kind x3==(1:Int)||Stat.kind x3==(4:Int)) (.need (room ((out++[ETy.get .int s k]).length) 8) (.stop x2 { n:=37,fr:=x1,ck:=[zCn1 c,.own 3 .int (out++[ETy.get .int s k])] })) (.stop x2 { n:=37,fr:=x1,ck:=[zCn1 c,.own 3 .int out] })))) (.ret (.x (.c (.own 0))) [.own 3 .int out])) ?_
  conv=>zeta
  refine ⟨fun hlt=>?_,fun hge=>?_⟩
  · have hk':k<s.length:=by have:=of_decide_eq_true hlt; omega
    have ht:=htk hk'
    have hy:=hs (ETy.get .int s k) (by rw [ETy.get_eq (t:=.int) (List.getElem?_eq_getElem hk')]; exact bE hk')
    refine ⟨⟨by omega,by omega⟩,hy,fun hb=>?_,fun hb=>?_⟩
    · rw [if_pos (by exact hb)] at ht
      refine ⟨⟨by rw [an]; show (_+1) * 8≤_; omega,by rw [an]; show _+1≤_; unfold maxLen; omega⟩,?_⟩
      rw [aZ (aE hk' hm),← ht]
      first
      | (exfalso; omega)
      | exact ih (k+1) (by omega) (by omega)
    · have hb':tA c.states (ETy.get .int s k)=false:=hb
      rw [if_neg (by rw [hb']; decide),aN] at ht
      rw [aZ (aE hk' hm),← ht]
      first
      | (exfalso; omega)
      | exact ih (k+1) (by omega) (by omega)
  · have hke:k=s.length:=by have:=of_decide_eq_false hge; omega
    subst hke
    rw [aW (ar _)] at hout
    rw [← hout]; exact ⟨rfl,rfl⟩
theorem Ja {l:List Ev.Stat} {s:List Int} (h:cW l s=true):(∀ y∈s,0≤y∧y<(l.length:Int))∧s.length≤l.length:=by
 unfold cW at h
 rw [af] at h
 have h1:=(qO l s (-1) (by omega)).1 h.1
 have h2:∀ y∈s,0≤y∧y<(l.length:Int):=fun y hy=>by
  obtain ⟨_,i,rfl,hi,_⟩:=h1.2 y hy
  omega
 refine ⟨h2,?_⟩
 have h3:=oi s 0 l.length h1.1 h2
 rw [if_pos (by omega)] at h3
 omega
theorem vB (h:Valid c∧cW c.states s=true):ag Tryz.prog 22 [.e .chart c,.l .int s] [] (.x (.c (.own 0))) [.own 3 .int (fQ c.states s)]:=by
 have hl:=(iK c).1 h.1.few
 have hi:=Ja h.2
 refine dg rY Tryz.func22 (.need (c.vars.length≤2199023255552∧c.states.length≤2199023255552) (.ite (!(cv c==(0:Int)&&cW c.states s)) (.ret (.p (.v (Value.slice none 0 0))) []) (.stop zCn2 { n:=37,fr:=[(2,.x (.c (.loc 0 0))),(4,.p (.v (Value.slice none 0 0))),(5,.p (.v (Value.slice none 0 0))),(13,.p (.lst .int s)),(14,.i s.length),(15,.i 0)],ck:=[zCn1 c] }))) fun Γ=>?_
 have hc:cv c=0:=(hX c).2 h.1
 refine ⟨⟨by omega,by omega⟩,fun hb=>?_,fun _=>?_⟩
 · exfalso
   have hb':(!(cv c==0&&cW c.states s))=true:=hb
   rw [hc,h.2] at hb'; cases hb'
 · refine J.nilOwn 5 3 .int rfl (by kernel_rfl) ?_
   exact Eh c s (by omega) hi.1 Γ s.length 0 (by omega) (by omega)
/-! ### the example -/
theorem o7 {V:Vn} {a:Str} {d:List Ev.Stat} {u:Value} (h:SX.R V (.agg [.pd (.str a),.pd (.v (.slice none 0 0)),.pd (.v (.slice none 0 0)),.pd (.lst .stat d),.pd (.v (.slice none 0 0))]) u):SX.R V (.e .chart ⟨a,[],[],d,[]⟩) u:=by
 obtain ⟨us,e,hu⟩:=h
 refine ⟨us,e,?_⟩
 cases hu with | cons h0 hu=>cases hu with | cons h1 hu=>cases hu with | cons h2 hu=>cases hu with | cons h3 hu=>cases hu with | cons h4 hu =>
  cases hu
  exact .cons h0 (.cons (mr h1) (.cons (mr h2) (.cons h3 (.cons (mr h4) .nil))))
theorem kL:Valid ⟨[99],[],[],[⟨[114],2,0,[97],[],[]⟩,⟨[97],1,1,[],[],[]⟩],[]⟩:=by
 refine ⟨by decide,by decide,by decide,by decide,by decide,by decide,fun k hk=>?_,fun k hk=>absurd hk (Nat.not_lt_zero _),fun k hk=>?_,fun k hk=>absurd hk (Nat.not_lt_zero _)⟩
 · have hk':k<2:=hk
   rcases (show k=0∨k=1 by omega) with rfl | rfl <;> decide
 · have hk':k<2:=hk
   rcases (show k=0∨k=1 by omega) with rfl | rfl <;> decide
theorem Cz (h:Valid ⟨a,[],[],d,[]⟩):ag Tryz.prog 10 [.agg [.pd (.str a),.pd (.v (.slice none 0 0)),.pd (.v (.slice none 0 0)),.pd (.lst .stat d),.pd (.v (.slice none 0 0))]] [] (.x (.c (.own 0))) [.own 3 .int (gd d)] :=
 ag.sub (fun V vs hv=>by
  cases hv with | cons h1 hv =>
   cases hv
   exact .cons (o7 h1) .nil) (wP ⟨a,[],[],d,[]⟩ h)
def n5:Ent:=(10,fun
 | [.agg [.pd (.str a),.pd (.v (.slice none 0 0)),.pd (.v (.slice none 0 0)),.pd (.lst .stat d),.pd (.v (.slice none 0 0))]],[]=>some (some (Valid ⟨a,[],[],d,[]⟩),.x (.c (.own 0)),[.own 3 .int (gd d)])
 | _,_=>none)
theorem yA:EntOk Tryz.prog n5:=entOk fun vs ck=>by
 unfold n5; dsimp only; split
 · rename_i a d; exact entS fun hp=>Cz a d hp
 · exact entN
theorem BS (h:Valid ⟨a,[],[],d,[]⟩):ag Tryz.prog 14 [.agg [.pd (.str a),.pd (.v (.slice none 0 0)),.pd (.v (.slice none 0 0)),.pd (.lst .stat d),.pd (.v (.slice none 0 0))],.l .int s] [] (.x (.b (cW d s))) []:=by
 have hl:=(iK _).1 h.few
 have h2:d.length≤2199023255552:=by have:d.length≤40:=hl.2.2.1; omega
 have e:(cv ⟨a,[],[],d,[]⟩==0&&cW d s)=cW d s:=by rw [(hX _).2 h]; rfl
 rw [← e]
 exact ag.sub (fun V vs hv=>by
  cases hv with | cons h1 hv=>cases hv with | cons h2 hv =>
   cases hv
   exact .cons (o7 h1) (.cons h2 .nil)) (kR ⟨a,[],[],d,[]⟩ s ⟨by simp,h2⟩)
def oq:Ent:=(14,fun
 | [.agg [.pd (.str a),.pd (.v (.slice none 0 0)),.pd (.v (.slice none 0 0)),.pd (.lst .stat d),.pd (.v (.slice none 0 0))],.c (.pd (.lst .int s))],[]=>some (some (Valid ⟨a,[],[],d,[]⟩),.x (.c (.pd (.bool (cW d s)))),[])
 | _,_=>none)
theorem Aa:EntOk Tryz.prog oq:=entOk fun vs ck=>by
 unfold oq; dsimp only; split
 · rename_i a d s; exact entS fun hp=>BS a d s hp
 · exact entN
theorem yP (h:Valid ⟨a,[],[],d,[]⟩∧cW d s=true):ag Tryz.prog 22 [.agg [.pd (.str a),.pd (.v (.slice none 0 0)),.pd (.v (.slice none 0 0)),.pd (.lst .stat d),.pd (.v (.slice none 0 0))],.l .int s] [] (.x (.c (.own 0))) [.own 3 .int (fQ d s)] :=
 ag.sub (fun V vs hv=>by
  cases hv with | cons h1 hv=>cases hv with | cons h2 hv =>
   cases hv
   exact .cons (o7 h1) (.cons h2 .nil)) (vB ⟨a,[],[],d,[]⟩ s h)
def lY:Ent:=(22,fun
 | [.agg [.pd (.str a),.pd (.v (.slice none 0 0)),.pd (.v (.slice none 0 0)),.pd (.lst .stat d),.pd (.v (.slice none 0 0))],.c (.pd (.lst .int s))],[]=>some (some (Valid ⟨a,[],[],d,[]⟩∧cW d s=true),.x (.c (.own 0)),[.own 3 .int (fQ d s)])
 | _,_=>none)
theorem wc:EntOk Tryz.prog lY:=entOk fun vs ck=>by
 unfold lY; dsimp only; split
 · rename_i a d s; exact entS fun hp=>yP a d s hp
 · exact entN
def Jf:Cfg:=⟨bk,[DI,Al,n5,oq,lY,qf]⟩
theorem sG:ah Tryz.prog Jf.tab:=(ah.cons G8 (ah.cons GC (ah.cons yA (ah.cons Aa (ah.cons wc (ah.cons C4 ah.nil))))))
def wkS (x:SX) (ck:List Chunk):ST:={ n:=31,fr:=[(0,.x (.c (.pd (.bool false)))),(24,.x (.c (.pd (.bool true)))),(25,.x (.agg [.pd (.str [99]),.pd (.v (.slice none 0 0)),.pd (.v (.slice none 0 0)),.pd (.lst .stat [⟨[114],2,0,[97],[],[]⟩,⟨[97],1,1,[],[],[]⟩]),.pd (.v (.slice none 0 0))])),(26,.x x)],ck:=ck,kn:=[0] }
abbrev vX:Prop:=Valid ⟨[99],[],[],[⟨[114],2,0,[97],[],[]⟩,⟨[97],1,1,[],[],[]⟩],[]⟩
theorem uY:ag Tryz.prog 9 [] [] (.x (.b true)) []:=by
 refine ag.of Tryz.func9 (by kernel_rfl) (by kernel_rfl) fun Γ=>?_
 have h2:J Tryz.prog 9 (aw Tryz.f9) Γ (Eq2 (.x (.b true)) []) [PI.ops [1,1,0] 18,PI.code [1,1,1]] (wkS (.l .int [0,1]) [.dead]) :=
  (jP (a:=[]) (fn:=Tryz.f9) (fz:=999) sG Tryz.func9 12 (ps:=[vX∧true=true]) (by kernel_rfl) ⟨⟨kL,rfl⟩,trivial⟩ ⟨rfl,rfl⟩).1
 have h1:J Tryz.prog 9 (aw Tryz.f9) Γ (Eq2 (.x (.b true)) []) [PI.ops [1,1,0] 18,PI.code [1,1,1]] (wkS (.c (.own 0)) [.own 3 .int [0,1]]):=J.freeze bk [0] (by kernel_rfl) h2
 exact J.runE (fn:=Tryz.f9) sG Tryz.func9 999 3 [true=true→vX,true=true→vX,vX,exV=exV] (by kernel_rfl) ⟨fun _=>kL,fun _=>kL,kL,rfl,trivial⟩ h1
def mc:Ent:=(9,fun
 | [],[]=>some (none,.x (.c (.pd (.bool true))),[])
 | _,_=>none)
theorem we:EntOk Tryz.prog mc:=entOk fun vs ck=>by
 unfold mc; dsimp only; split
 · exact entS fun hp=>uY
 · exact entN
end Go.Proofs.YtcopfgbbjdefbaaGreatDoor
namespace Go.Ev
open Go.RowKit Go.ChangeShapes Go.WideShapes
def HW (W:World):Mem:=fun k=>W.heap[k]?
def VW (W:World):Vn:=⟨HW W,fun _=>0,fun _=>undef⟩
theorem CI (W:World):WOk (entry [] (VW W) W) [] (VW W) W where
 ext:=Fr.refl _ _
 imm:=fun _ _ h=>h
 hle:=HLe.refl _
 frz:=fun _ h=>.inl h
 agr:=fun i hi=>absurd hi (Nat.not_lt_zero _)
 own:=fun i c h=>by simp at h
 base:=fun i c b h=>by simp at h
 inj:=fun i j c d b h=>by simp at h
theorem ag.law {P:Program} {f:FuncId} {args:List SX} {b:Bool} (h:ag P f args [] (.x (.c (.pd (.bool b)))) []) {W:World} (hT:fG P (HW W)) {vs:List Value} (hvs:All2 (SX.R (VW W)) args vs) :
 Calls P f vs.toArray W (fun e W'=>e = .returned (.bool b)∧Below W.heap.size W W'):=by
 refine (h W (VW W) vs (CI W) hT hvs).mono fun e W' hp=>?_
 obtain ⟨v,V',rfl,hr,hw⟩:=hp
 have hr':PR V'.H (.bool b) v:=hr
 cases hr'
 refine ⟨rfl,hw.ext.os,hw.ext.tape,hw.ext.output,hw.ext.size,fun k hk=>hw.ext.block k hk ?_⟩
 rintro ⟨i,c,hc,_⟩
 simp [entry] at hc
section
variable {Hh:Type} {enc:TypeId×Value→Hh} {P:Program} {W:World} {base:Nat} {spare:Nat→Bool} {held:Bool}
theorem xe {a:Addr} (hs:a.spot=none) {b off:Nat} (hb:a.block=b) (ho:a.off=off) {i:Nat} {u:Value} (h:W.cell? (a.add i)=some u):∃ cells e fr,W.heap[b]?=some (.cells cells e fr)∧cells[off+i]?=some u:=by
 obtain ⟨b',off',sp⟩:=a
 simp only at hs hb ho
 subst hs; subst hb; subst ho
 rw [addr_add] at h
 unfold World.cell? at h
 split at h
 · rename_i c e fr hb
   exact ⟨c,e,fr,hb,by simpa using h⟩
 · cases h
theorem mY (u:ETy) {Q:u.den→Prop} {t e:TypeId} {fuel:Nat} {v:Value} {x:DataW Hh×List MemPlace} (ht:P.underlying t=some (.slice e)) (hsz:P.cellsOf e=u.size)
 (hel:∀ n cs y,DataW.trod enc P W base spare held n e cs=some y→∃ r,All2 (PR (HW W)) (u.enc r) cs∧Q r) (h:DataW.trod enc P W base spare held fuel t [v]=some x) (hv:∃ rr b0,Cell.okWide P W rr b0 t v) :
 ∃ l:List u.den,PR (HW W) (.lst u l) v∧(∀ r∈l,Q r)∧((x.1.weights P t).all (·≤reachBytes)=true→l.length * P.bytesOf e≤reachBytes):=by
 obtain ⟨rr,b0,hv⟩:=hv
 rcases Go.Deep.open_slice ht h with ⟨hc,rfl⟩ | ⟨a,len,cap,m,n,D,Pl,hc,_,hl,hm,hmm,rfl,hx⟩
 · simp only [dt,and_true] at hc
   subst hc
   exact ⟨[],.emp u none 0 (fun _=>rfl),by simp,fun _=>by simp⟩
 · simp only [dt,and_true] at hc
   subst hc
   have hs:a.spot=none:=by
    simp only [Cell.okWide,ht,Cell.ok] at hv
    exact hv.2.2.2.1
   have hlen:len≤m:=by rw [hmm]; split <;> omega
   letI:Inhabited u.den:=⟨u.dflt⟩
   obtain ⟨f,hf⟩:=Go.Deep.choose_lt (α:=u.den) (n:=len) (p:=fun i r=>(∃ cs,W.cells? base (a.add (i * u.size)) u.size=some cs∧All2 (PR (HW W)) (u.enc r) cs)∧Q r) (fun i hi=>by
    obtain ⟨cs,h1,h2⟩:=hx i (by omega)
    obtain ⟨r,hr,hq⟩:=hel _ _ _ h2
    rw [hsz] at h1
    exact ⟨r,⟨cs,h1,hr⟩,hq⟩)
   have hfl:((List.range len).map f).length=len:=by simp
   refine ⟨(List.range len).map f,?_,?_,?_⟩
   · rcases Nat.eq_zero_or_pos len with h0 | h0
     · subst h0
       exact .emp u (some a) cap (fun h=>by cases h)
     · have hcell:∀ i,i<len→∀ j,j<u.size→∃ w cells e fr,W.heap[a.block]?=some (.cells cells e fr)∧cells[a.off+i * u.size+j]?=some w∧∀ p,(u.enc (f i))[j]?=some p→PR (HW W) p w:=by
        intro i hi j hj
        obtain ⟨cs,h1,h2⟩:=(hf i hi).1
        obtain ⟨_,hl,hc⟩:=World.cells?_some h1
        have h3:=hc j hj
        obtain ⟨w,hw⟩:∃ w,cs[j]?=some w:=⟨cs[j]'(by omega),List.getElem?_eq_getElem (by omega)⟩
        rw [hw] at h3
        have ha:(a.add (i * u.size)).add j=a.add (i * u.size+j):=by rw [Go.Deep.add_add]
        rw [ha] at h3
        obtain ⟨cells,e',fr,hb,h4⟩:=xe hs rfl rfl h3
        refine ⟨w,cells,e',fr,hb,by rw [dO]; exact h4,fun p hp=>?_⟩
        obtain ⟨w',h5,h6⟩:=h2.get hp
        rw [hw,aa] at h5
        rw [h5]; exact h6
       obtain ⟨_,cells,e',fr,hb,_⟩:=hcell 0 h0 0 u.size_pos
       have hbound:a.off+len * u.size≤cells.size:=by
        obtain ⟨_,cells',e2,fr2,hb',h4,_⟩:=hcell (len - 1) (by omega) (u.size - 1) (by have:=u.size_pos; omega)
        rw [hb] at hb'
        simp only [aa,Obj.cells.injEq] at hb'
        obtain ⟨rfl,_,_⟩:=hb'
        have h5:=(Array.getElem?_eq_some_iff.1 h4).1
        have h6:len * u.size=(len - 1) * u.size+u.size:=by
         have:len=(len - 1)+1:=by omega
         rw [this,b7,Nat.one_mul]; simp
        have:=u.size_pos
        omega
       have key:PR (HW W) (.lst u ((List.range len).map f)) (.slice (some ⟨a.block,a.off,none⟩) ((List.range len).map f).length cap):=by
        refine .lst u _ a.block a.off cap cells e' fr hb (by rw [hfl]; exact hl) hm (by rw [hfl]; exact hbound) ?_
        intro i y hy j p hp w hw
        have hi:i<len:=by have:=(List.getElem?_eq_some_iff.1 hy).1; omega
        simp only [List.getElem?_map,List.getElem?_range hi,bu,aa] at hy
        subst hy
        have hj:j<u.size:=by have:=(List.getElem?_eq_some_iff.1 hp).1; rw [u.enc_length] at this; exact this
        obtain ⟨w',cells',e2,fr2,hb',h4,h5⟩:=hcell i hi j hj
        rw [hb] at hb'
        simp only [aa,Obj.cells.injEq] at hb'
        obtain ⟨rfl,_,_⟩:=hb'
        rw [hw,aa] at h4
        rw [h4]; exact h5 p hp
       rw [hfl] at key
       obtain ⟨b,off,sp⟩:=a
       simp only at hs
       subst hs
       exact key
   · intro r hr
     obtain ⟨i,hi,rfl⟩:=aQ.1 hr
     exact (hf i (ba.1 hi)).2
   · intro hw
     simp only [DataW.weights,ht,cV,af,decide_eq_true_eq,aL,dA] at hw ⊢
     have:=hw.1
     exact au (bF _ (by omega)) this
end
section
variable {Hh:Type} {enc:TypeId×Value→Hh} {P:Program} {W W':World}
theorem mm (hl:laidOutB P=true) (hb:Below W.heap.size W W'):∀ {ts:List TypeId} {vs:List Value} {ds:List (DataW Hh)} {p:List MemPlace},(∀ t∈ts,P.readableRec t=true∧t<P.types.size)→(∀ x∈p,x.block<W.heap.size) →
 DataW.TrodAll enc P W 0 (fun _=>true) true ts vs ds p→DataW.TrodAll enc P W' 0 (fun b=>decide (b<W.heap.size)) true ts vs ds p
 | [],_,_,_,_,_,h=>by
   obtain ⟨rfl,rfl,rfl⟩:=trodAll_nil h
   rfl
 | t::ts,_,_,_,hr,hp,h=>by
   obtain ⟨v,vs,d,ds,a,b,rfl,rfl,rfl,h1,h2⟩:=trodAll_cons h
   exact ⟨a,b,Below.trod hl (hr t aB).1 (hr t aB).2 h1 hb (fun x hx=>hp x (cF _ hx)),
    mm hl hb (fun u hu=>hr u (aI _ hu)) (fun x hx=>hp x (cA _ hx)) h2,rfl⟩
theorem Du {f:Func} {s:ChangeSpec} {tb:TypeId} {args:Array Value} {ds gs:List (DataW Hh)} {before:List MemPlace} (hl:laidOutB P=true) (hrt:f.resultTypes.toList=[tb]) (hsz:f.resultTypes.size=1) (htb:P.underlying tb=some .bool) (hvars:s.vars=[])
 (hfn:(s.fn Hh ds).results=[.lit (.bool true)]∧(s.fn Hh ds).args=ds∧(s.fn Hh ds).vars=[]) (hpar:∀ t∈f.params.toList,P.readableRec t=true∧t<P.types.size)
 (hW:DataW.Whole enc P f.params.toList s.vars false W args.toList ds gs before) (hb:Below W.heap.size W W'):s.post enc P f false true false false W args (.bool true) W':=by
 have hW':=hW
 obtain ⟨p,q,hA,hV,rfl,hfz,hnd⟩:=hW
 rw [hvars] at hV
 obtain ⟨rfl,rfl⟩:=trodVars_none hV
 rw [aN] at hW' hfz
 have hlt:∀ x∈p,x.block<W.heap.size:=fun x hx=>by simpa using hW'.lt x hx
 refine ⟨ds,[],p,[],p,[],hW',?_,?_,?_,?_,fun h=>Bool.noConfusion h⟩
 · rw [aN,hfn.1,hrt,hsz]
   exact trodAll_mk1 (shut_bool htb _)
 · rw [aN,hfn.2.1]
   exact mm hl hb hpar hlt hA
 · rw [aN,hfn.2.2,hvars]
   rfl
 · exact World.keptBut_mono (fun x hx=>⟨hx,.inr (.inl hx)⟩) (hb.frame _)
end
end Go.Ev
namespace Go.Proofs.YtcopfgbbjdefbaaGreatDoor
open Go Go.Ev Go.RowKit Go.ChangeShapes Go.WideShapes Go.ChangeAt
set_option maxRecDepth 100000
theorem own:ownKnob Tryz.prog.godebug=none:=by kernel_rfl
theorem laidOut:laidOutB Tryz.prog=true:=by kernel_rfl
theorem w9 {P:Program} {W:World} {name:String} {cs:Array Value} (h:W.var? P name=some cs):qP P (HW W) name cs:=by
 unfold World.var? at h
 cases hg:P.globalNamed name with
 | none=>rw [hg] at h; simp at h
 | some g =>
   rw [hg] at h
   simp only [Option.bind_some] at h
   split at h
   · rename_i c e fr hb
     simp only [aa] at h
     subst h
     exact ⟨g,e,fr,hg,hb⟩
   · cases h
abbrev se:ByteArray:=⟨#[118,97,108,117,101,32,111,117,116,32,111,102,32,114,97,110,103,101]⟩
abbrev qA:ByteArray:=⟨#[105,110,118,97,108,105,100,32,115,121,110,116,97,120]⟩
theorem Il (u:TypeId) (h:Tryz.prog.typeName? 3 u=some "*errors.errorString"):u=276 :=
 typeName_ptr_named (nm:="errors.errorString") (by rw [show ("*"++"errors.errorString":String)="*errors.errorString" by kernel_rfl]; kernel_rfl) (by kernel_rfl) (by decide) u (by rw [show ("*"++"errors.errorString":String)="*errors.errorString" by kernel_rfl]; exact h)
theorem xf {W:World} {n:String} {text:List UInt8} {l:List (String×DataW Unit)} (h:laidMetH Tryz.prog l W) (e:(l.filter fun x=>x.1==n)=[(n,.iface "*errors.errorString" (.ptr (.agg [.lit (.string text)])))]) (ht:(Tryz.prog.globals[(Tryz.prog.globalNamed n).getD 0]?).map (·.type)=some 178) (hg:(Tryz.prog.globalNamed n).isSome=true):Ep Tryz.prog (HW W) n:=fun _=>by
 have h1:=laidMetH.filter (fun x=>x.1==n) h
 rw [e,MakeChecks.laidMetH_plain _ _ _ (by rfl)] at h1
 obtain ⟨g,hg⟩:=Option.isSome_iff_exists.1 hg
 rw [hg] at ht
 obtain ⟨a0,s0,hv0, -, -, -⟩:=laid_sentinel h1 hg ht Tryz.underlying178 Il Tryz.underlying276 Tryz.underlying278 rfl rfl Tryz.underlying9 (by kernel_rfl) (by kernel_rfl)
 exact ⟨_,_,w9 hv0⟩
theorem CX {W:World} (h:W.ShapedOpen Tryz.prog):ud Tryz.prog (HW W) "internal/bytealg.MaxLen":=fun _=>by
 obtain ⟨m,hm⟩:∃ m,W.cell? ⟨0,0,none⟩=some (.int .i64 m):=Go.Proofs.cell_of_shapedOpen_int (zero:=#[.int .i64 0]) (t:=3) h (of_decide_eq_true (by kernel_rfl)) (by kernel_rfl) rfl (by kernel_rfl) (by kernel_rfl) Tryz.underlying3
 unfold World.cell? at hm
 split at hm
 · split at hm
   · cases hm
   · rename_i cs e fr hb _
     exact ⟨0,cs,e,fr,m,by kernel_rfl,hb,hm⟩
 · cases hm
theorem JD {W:World} (h:laidMetH Tryz.prog Rows.confStartRow.laid W) (hs:W.ShapedOpen Tryz.prog):fG Tryz.prog (HW W):=by
 refine ⟨fun _=>?_,xf (text:=qA.data.toList) h (by kernel_rfl) (by kernel_rfl) (by kernel_rfl),xf (text:=se.data.toList) h (by kernel_rfl) (by kernel_rfl) (by kernel_rfl),CX hs⟩
 have h1:=laidMetH.filter (fun x=>x.1=="internal/strconv.uint64pow10") h
 have e:(Rows.confStartRow.laid.filter fun x=>x.1=="internal/strconv.uint64pow10")=[("internal/strconv.uint64pow10",Lib.tabData .u64 Lib.pow10Tab)]:=by kernel_rfl
 rw [e] at h1
 have ht:(Tryz.prog.globals[(Tryz.prog.globalNamed "internal/strconv.uint64pow10").getD 0]?).map (·.type)=some 280:=by kernel_rfl
 exact w9 (Lib.tabIs_of_head (rest:=[]) (g:=(Tryz.prog.globalNamed "internal/strconv.uint64pow10").getD 0) (by kernel_rfl) ht Tryz.underlying280 Tryz.underlying170 (by kernel_rfl) (by kernel_rfl) h1)
noncomputable def H3:DataW Unit→List Value
 | .lit (.int k z)=>[Value.int k z]
 | .agg [.lit (.int k z),.lit (.int k' z')]=>[Value.int k z,Value.int k' z']
 | _=>[]
noncomputable def DC:DataW Unit→Array Value
 | .agg ds=>(ds.flatMap H3).toArray
 | _=>#[]
noncomputable def o3 (name:String) (cs:Array Value) (heap:Array Obj):Array Obj:=heap.modify ((Tryz.prog.globalNamed name).getD 0) fun
 | .cells _ t frozen=>.cells cs t frozen
 | o=>o
noncomputable def ni (name:String) (d:DataW Unit) (heap:Array Obj):Array Obj:=o3 name (DC d) heap
noncomputable def low:Nat:=(World.holding Tryz.prog default ⟨#[],#[],[]⟩).heap.size
noncomputable def BJ (os:Os):World:=World.holding Tryz.prog os ⟨#[.cells #[.string se] 278,.cells #[.string qA] 278],#[],[]⟩
noncomputable def nc (os:Os):World :=
 { BJ os with heap:=o3 "strconv.ErrRange" #[.iface 276 (.pointer (some ⟨low,0,none⟩))] (o3 "strconv.ErrSyntax" #[.iface 276 (.pointer (some ⟨low+1,0,none⟩))] (ni "unicode/utf8.first" Rows.laid_unicode_utf8_first (ni "unicode/utf8.acceptRanges" Rows.laid_unicode_utf8_acceptRanges (ni "internal/strconv.uint64pow10" Rows.laid_internal_strconv_uint64pow10 (ni "math/bits.deBruijn64tab" Rows.laid_math_bits_deBruijn64tab (ni "math/bits.deBruijn32tab" Rows.laid_math_bits_deBruijn32tab (BJ os).heap)))))) }
end Go.Proofs.YtcopfgbbjdefbaaGreatDoor
