/- Contracts: conf: Legal; the document's Active. Conditions: sizes. The library's contracts of the shelf, laid at this dump by the kit's tools. Conditions: each one's own. Contracts: strings.Split at line feeds. Conditions: texts that are not too long; the library's variable. Contracts: lines parted into words. Conditions: texts of at most 2^21 bytes. -/
import Derived.Test.YtcopfgbbjdefbaaGreatDoorCl
import Derived.Shelf.LaysM
import Derived.Shelf.Strings.Split
import Derived.Test.YtcopfgbbjdefbaaGreatDoorProg
import Derived.Test.YtcopfgbbjdefbaaGreatDoorVk
import Derived.Test.YtcopfgbbjdefbaaGreatDoorTa
import Derived.Lib.AppendIntMem
namespace Go.Proofs.YtcopfgbbjdefbaaGreatDoor
open Go Go.Ev
set_option maxRecDepth 100000
def Ci:Cfg:=⟨bk,[ln,oj]⟩
theorem BV:ah Tryz.prog Ci.tab:=(ah.cons qd (ah.cons yc ah.nil))
theorem kR (c:Chart) (s:List Int) (hz:c.vars.length≤2199023255552∧c.states.length≤2199023255552):ag Tryz.prog 14 [.e .chart c,.l .int s] [] (.x (.b (cv c==0&&cW c.states s))) []:=by
 refine dg BV Tryz.func14 (.need (c.vars.length≤2199023255552∧c.states.length≤2199023255552) (.need ((cv c==(0:Int))=true→Tre c.states) (.ret (.p (.bool (cv c==(0:Int)&&cW c.states s))) []))) fun Γ=>?_
 exact ⟨hz,fun h=>((hX c).1 (eq_of_beq h)).tre,rfl,rfl⟩
def nX:Ent:=(14,fun
 | [.agg [.pd (.str a),.pd (.lst .str b),.pd (.lst .var c),.pd (.lst .stat d),.pd (.lst .tran e)],.c (.pd (.lst .int s))],[]=>some (some (c.length≤2199023255552∧d.length≤2199023255552),.x (.c (.pd (.bool (cv ⟨a,b,c,d,e⟩==0&&cW d s)))),[])
 | _,_=>none)
theorem Ab:EntOk Tryz.prog nX:=entOk fun vs ck=>by
 unfold nX; dsimp only; split
 · rename_i a b c d e s; exact entS fun hp=>kR ⟨a,b,c,d,e⟩ s hp
 · exact entN
def vO:Cfg:=⟨bk,[nX]⟩
theorem rY:ah Tryz.prog vO.tab:=(ah.cons Ab ah.nil)
end Go.Proofs.YtcopfgbbjdefbaaGreatDoor
namespace Go.Proofs
open Go.Shelf
def Tryz.lays146_ren:Go.Shelf.Ren:=⟨fun | 146=>43 | 221=>79 | 268=>132 | 138=>133 | 143=>134 | 195=>177 | 197=>178 | 218=>179 | 219=>180 | 260=>223 | 217=>224 | 225=>225 | 224=>226 | 267=>227 | 266=>260 | 314=>261 | n=>n,fun | 9=>9 | 31=>22 | 3=>3 | 4=>4 | 0=>0 | 105=>192 | 21=>21 | 5=>5 | 46=>112 | 119=>254 | 139=>257 | 138=>256 | 146=>258 | 51=>168 | n=>n,fun | 1=>0 | 3=>1 | 4=>2 | n=>n⟩
theorem Tryz.lays146:Go.Proofs.Lays.n146 Tryz.prog Tryz.lays146_ren:={
 mixed:=by kernel_rfl
 f138:=Tryz.func133.trans (congrArg some (by kernel_rfl))
 f143:=Tryz.func134.trans (congrArg some (by kernel_rfl))
 f146:=Tryz.func43.trans (congrArg some (by kernel_rfl))
 f195:=Tryz.func177.trans (congrArg some (by kernel_rfl))
 f197:=Tryz.func178.trans (congrArg some (by kernel_rfl))
 f217:=Tryz.func224.trans (congrArg some (by kernel_rfl))
 f218:=Tryz.func179.trans (congrArg some (by kernel_rfl))
 f219:=Tryz.func180.trans (congrArg some (by kernel_rfl))
 f221:=Tryz.func79.trans (congrArg some (by kernel_rfl))
 f224:=Tryz.func226.trans (congrArg some (by kernel_rfl))
 f225:=Tryz.func225.trans (congrArg some (by kernel_rfl))
 f260:=Tryz.func223.trans (congrArg some (by kernel_rfl))
 f266:=Tryz.func260.trans (congrArg some (by kernel_rfl))
 f267:=Tryz.func227.trans (congrArg some (by kernel_rfl))
 f268:=Tryz.func132.trans (congrArg some (by kernel_rfl))
 f314:=Tryz.func261.trans (congrArg some (by kernel_rfl))
 t0:=Tryz.underlying0
 a0:=Tryz.isAgg0
 z0:=Tryz.sizeOf0
 v0:=Tryz.zeroValue0
 t3:=Tryz.underlying3
 a3:=Tryz.isAgg3
 z3:=Tryz.sizeOf3
 v3:=Tryz.zeroValue3
 t4:=Tryz.underlying4
 a4:=Tryz.isAgg4
 z4:=Tryz.sizeOf4
 v4:=Tryz.zeroValue4
 t5:=Tryz.underlying5
 a5:=Tryz.isAgg5
 z5:=Tryz.sizeOf5
 v5:=Tryz.zeroValue5
 t9:=Tryz.underlying9
 a9:=Tryz.isAgg9
 z9:=Tryz.sizeOf9
 v9:=Tryz.zeroValue9
 t21:=Tryz.underlying21
 a21:=Tryz.isAgg21
 z21:=Tryz.sizeOf21
 v21:=Tryz.zeroValue21
 t31:=Tryz.underlying22
 a31:=Tryz.isAgg22
 z31:=Tryz.sizeOf22
 v31:=Tryz.zeroValue22
 t46:=Tryz.underlying112
 a46:=Tryz.isAgg112
 z46:=Tryz.sizeOf112
 v46:=Tryz.zeroValue112
 t51:=Tryz.underlying168
 a51:=Tryz.isAgg168
 z51:=Tryz.sizeOf168
 v51:=Tryz.zeroValue168
 t105:=Tryz.underlying192
 a105:=Tryz.isAgg192
 z105:=Tryz.sizeOf192
 v105:=Tryz.zeroValue192
 t119:=Tryz.underlying254
 a119:=Tryz.isAgg254
 z119:=Tryz.sizeOf254
 t138:=Tryz.underlying256
 a138:=Tryz.isAgg256
 z138:=Tryz.sizeOf256
 v138:=Tryz.zeroValue256
 t139:=Tryz.underlying257
 a139:=Tryz.isAgg257
 z139:=Tryz.sizeOf257
 v139:=Tryz.zeroValue257
 t146:=Tryz.underlying258
 a146:=Tryz.isAgg258
 z146:=Tryz.sizeOf258
 v146:=Tryz.zeroValue258
 g1:=by kernel_rfl
 g3:=by kernel_rfl
 g4:=by kernel_rfl }
open Go.RowKit Go.Lib in
theorem Tryz.strings_Split (s sep:ByteArray) (m:Int) (w:World) (hs:s.size<4294967281) (hm:w.cell? ⟨0,0,none⟩=some (.int .i64 m)) (h1:1≤sep.size) :
 Calls Tryz.prog 43 #[.string s,.string sep] w fun e w' =>
  e = .returned (.slice (some ⟨w.heap.size,0,none⟩) (Lib.countB s sep+1) (Lib.countB s sep+1))∧w'=w.alloc (.cells ((Lib.splitB sep 0 (Lib.countB s sep) s).map Value.string).toArray 9):=Any.strings_Split Tryz.lays146 (by kernel_rfl) s sep m w hs hm h1
end Go.Proofs
namespace Go.Proofs.YtcopfgbbjdefbaaGreatDoor
open Go Go.Ev Go.RowKit
set_option maxRecDepth 100000
variable (s:Str) {V:Vn} (b:UInt8)
theorem ra (j:Nat):Lib.occAt s [b] j=true↔s[j]?=some b:=by
 have h:s[j]?=(s.drop j).head?:=by rw [List.head?_drop]
 rw [h]
 unfold Lib.occAt
 cases hd:s.drop j with
 | nil=>simp [List.isPrefixOf]
 | cons x r=>simp [List.isPrefixOf]; exact eq_comm
theorem xP:(Lib.index s [b] = -1∧b ∉ s)∨∃ a r,s=a++b::r∧b ∉ a∧Lib.index s [b]=(a.length:Int):=by
 rcases Lib.index_spec s [b] with ⟨h1,h2⟩ | ⟨i,h1,h2,h3,h4⟩
 · refine .inl ⟨h1,fun hm=>?_⟩
   obtain ⟨j,hj,e⟩:=List.mem_iff_getElem.1 hm
   have:=h2 j (by omega)
   rw [(ra s b j).2 (by rw [List.getElem?_eq_getElem hj,e])] at this
   cases this
 · have h5:=(ra s b i).1 h3
   obtain ⟨hi,h6⟩:=List.getElem?_eq_some_iff.1 h5
   refine .inr ⟨s.take i,s.drop (i+1),?_,fun hm=>?_,by rw [h1,a7]; omega⟩
   · rw [← h6,← cY hi,cB]
   · obtain ⟨j,hj,e⟩:=List.mem_iff_getElem.1 hm
     rw [a7] at hj
     have h7:=h4 j (by omega)
     rw [(ra s b j).2 (by rw [List.getElem?_eq_getElem (by omega)]; rw [List.getElem_take] at e; rw [e])] at h7
     cases h7
def dH:Str→Str→List Str
 | cur,[]=>[cur]
 | cur,c::r=>bif c==10 then cur::dH [] r else dH (cur++[c]) r
theorem r6:∀ (s cur:Str),(10:UInt8) ∉ s→dH cur s=[cur++s]
 | [],cur,_=>by simp [dH]
 | c::r,cur,h=>by
   simp only [aH,not_or] at h
   have hc:(c==10)=false:=by simpa using fun e=>h.1 e.symm
   rw [dH,hc,cond_false,r6 r _ h.2]; simp
theorem vM:∀ (a cur b:Str),(10:UInt8) ∉ a→dH cur (a++10::b)=(cur++a)::dH [] b
 | [],cur,b,_=>by simp [dH]
 | c::r,cur,b,h=>by
   simp only [aH,not_or] at h
   have hc:(c==10)=false:=by simpa using fun e=>h.1 e.symm
   rw [bJ,dH,hc,cond_false,vM r _ b h.2]; simp
theorem na:∀ (k:Nat) (s:Str),Lib.count s [10]=k→Lib.splitK [10] 0 k s=dH [] s
 | 0,s,h=>by
   rw [Lib.count_one] at h
   rw [r6 s [] (List.count_eq_zero.1 h)]; rfl
 | k + 1,s,h=>by
   rcases xP s 10 with ⟨h1,_⟩ | ⟨a,r,rfl,h2,h3⟩
   · rw [Lib.count_miss h1] at h; omega
   · have h4:=Lib.count_hit (by simp) h3
     have e:(a++10::r).drop (a.length+1)=r:=by
      rw [← List.drop_drop,List.drop_left]; rfl
     rw [show ([10]:Str).length=1 from rfl,e] at h4
     rw [Lib.splitK,if_neg (by rw [h3]; simp),h3,aj,show ([10]:Str).length=1 from rfl,e,b3,List.take_left,vM a [] r h2,na k r (by omega)]; rfl
theorem wk:(Lib.splitB ⟨#[10]⟩ 0 (Lib.countB (bs s) ⟨#[10]⟩) (bs s)).map (·.data.toList)=dH [] s:=by
 rw [Lib.splitB_data]
 have e:(bs s).data.toList=s:=eT s
 rw [e]
 exact na _ s (by show Lib.count s [10]=Lib.count (bs s).data.toList _; rw [e])
theorem o6:∀ (s cur:Str),(dH cur s).length=s.countP (·==10)+1
 | [],cur=>rfl
 | c::r,cur=>by
   rw [dH,List.countP_cons]
   cases h:c==10
   · rw [cond_false,o6 r]; simp
   · rw [cond_true,az,o6 r]; simp
theorem wL:(dH [] s).length≤s.length+1:=by
 rw [o6]; have:=List.countP_le_length (p:=(·==(10:UInt8))) (l:=s); omega
theorem wG {w:World} (hT:fG Tryz.prog V.H) (hi:HIn V.H w):∃ m,w.cell? ⟨0,0,none⟩=some (.int .i64 m):=by
 obtain ⟨g,cs,e,fr,m,h1,h2,h3⟩:=hT.2.2.2 (by kernel_rfl)
 have e1:g=0:=(dq ((show Tryz.prog.globalNamed "internal/bytealg.MaxLen"=some 0 by kernel_rfl).symm.trans h1)).symm
 subst e1
 have h4:=hi _ _ h2
 exact ⟨m,by simp only [World.cell?,h4]; exact h3⟩
theorem Dv {a b:Str} {vs:List Value} (hv:All2 (SX.R V) [SX.s a,SX.s b] vs):vs=[.string (bs a),.string (bs b)]:=by
 cases hv with
 | cons a1 hv=>cases hv with
   | cons a2 hv =>
     cases hv
     have a1':PR V.H (.str a) _:=a1
     have a2':PR V.H (.str b) _:=a2
     cases a1'; cases a2'
     rfl
theorem u9 {H:Mem}:∀ (l:List Str),All2 (PR H) (l.flatMap ETy.str.enc) (l.map fun s=>Value.string (bs s))
 | []=>.nil
 | s::r=>.cons (.str s) (u9 r)
theorem wE (hs:s.length<4294967281):ag Tryz.prog 43 [.s s,.s [10]] [] (.x (.c (.own 0))) [.own 9 .str (dH [] s)]:=by
 intro w V vs hw hT hv
 rw [Dv hv]
 obtain ⟨m,hm⟩:=wG hT hw.imm
 have hp:=wk s
 have hl:=congrArg List.length hp
 rw [aL] at hl
 have hc:Lib.countB (bs s) ⟨#[10]⟩+1=(dH [] s).length:=by
  rw [← hl]; exact (Lib.splitB_all ⟨#[10]⟩ (by decide) 0 _ (bs s) rfl).symm
 refine (Tryz.strings_Split (bs s) (bs [10]) m w (by rw [iR]; exact hs) hm (by decide)).mono fun e w' ⟨he,hw'⟩=>?_
 subst he; subst hw'
 have hcells:(Lib.splitB (bs [10]) 0 (Lib.countB (bs s) (bs [10])) (bs s)).map Value.string=(dH [] s).map fun s=>Value.string (bs s):=by
  rw [← hp,List.map_map]
  exact dT fun x _=>by simp [j0]
 have hc':Lib.countB (bs s) (bs [10])+1=(dH [] s).length:=hc
 rw [hcells,hc']
 have hlen:=wL s
 obtain ⟨V2,hag,_,_,e2,hw2⟩:=hw.regrow (ck:=[]) rfl (aP _) none (c:=.own 9 .str (dH [] s)) (v':=.slice (some ⟨w.heap.size,0,none⟩) (dH [] s).length (dH [] s).length) (s':=w.heap.size) (w':=w.alloc (.cells ((dH [] s).map fun s=>Value.string (bs s)).toArray 9)) (row:=none) (by simp) (World.grownBy_alloc w _ none) (fun V' hag hH f1 f2=>by
  have f3:V'.ov 0 = .slice (some ⟨w.heap.size,0,none⟩) (dH [] s).length (dH [] s).length:=f2
  have f4:V'.σ 0=w.heap.size:=f1
  refine ⟨⟨(dH [] s).map fun s=>Value.string (bs s),?_,u9 _,fun b hb=>?_⟩,fun b hb=>?_⟩
  · rw [f2]
    have:=World.ownsRow_lit (base:=0) (size:=1) (e:=9) w ((dH [] s).map fun s=>Value.string (bs s)).toArray (dH [] s).length (aP _) (by unfold maxLen; omega) (by simp)
    exact this
  · rw [f2] at hb; simp only [Value.ownBlock,aa] at hb; rw [f1,← hb]
  · right; simp only [Chunk.blk] at hb; rw [f2] at hb; simp only [Value.ownBlock,aa] at hb; omega)
 exact ⟨_,V2,rfl,e2.symm,hw2⟩
def n2:Ent:=(43,fun
 | [.c (.pd (.str s)),.c (.pd (.str [10]))],[]=>some (some (s.length<4294967281),.x (.c (.own 0)),[.own 9 .str (dH [] s)])
 | _,_=>none)
theorem xV:EntOk Tryz.prog n2:=entOk fun vs ck=>by
 unfold n2; dsimp only; split
 · rename_i s; exact entS fun hp=>wE s hp
 · exact entN
end Go.Proofs.YtcopfgbbjdefbaaGreatDoor
namespace Go.Proofs.YtcopfgbbjdefbaaGreatDoor
open Go Go.Ev
set_option maxRecDepth 100000
/-! ### plain -/
variable (s:Str) (Γ:Ctx) (Q:Out) (W:List Str) (c:UInt8) (d:Int)
def cf:Bool:=decide ((c.toNat:Int)>32)&&decide ((c.toNat:Int)<127)
def eE (w:Str):Bool:=!(w==[])&&w.all cf
def dE:Str→List UInt8→List Str
 | cur,[]=>[cur]
 | cur,c::r=>bif (c.toNat:Int)==32 then cur::dE [] r else dE (cur++[c]) r
def cM:List UInt8→Nat
 | []=>0
 | c::r=>bif (c.toNat:Int)==32 then cM r+1 else 0
def iz:List Str:=dE [] (s.drop (cM s))
def A5:Bool:=(iz s).all eE
theorem mG:∀ (rest:List UInt8) (cur:Str),cur.all cf=false→(dE cur rest).all eE=false
 | [],cur,h=>by simp [dE,eE,h]
 | c :: r,cur,h=>by
   unfold dE
   cases ((c.toNat:Int)==32)
   · simp only [cond_false]
     exact mG r (cur++[c]) (by rw [bz,h]; rfl)
   · simp only [cond_true,cV,eE,h,cO,bj]
theorem mE (rest:List UInt8) (h:cf c=false):(dE [] (c::rest)).all eE=false:=by
 unfold dE
 cases ((c.toNat:Int)==32)
 · simp only [cond_false]
   exact mG rest ([]++[c]) (by simp [h])
 · simp [eE]
theorem j9 {c:UInt8} (h:cf c=true):((c.toNat:Int)==32)=false:=by
 simp only [cf,af,decide_eq_true_eq] at h
 simp; omega
/-! ### the program's line -/
def gN (W:List Str):Out:=fun v ck=>(W.all eE=true→v = .tup [.i d,.c (.own 0),.i 0]∧ck=[.own 9 .str W])∧(W.all eE=false→v = .tup [.i 0,.c (.pd (.v (.slice none 0 0))),.i 1]∧ck=[])
theorem gN.ok {d:Int} {W:List Str} (h:W.all eE=true):gN d W (.tup [.i d,.c (.own 0),.i 0]) [.own 9 .str W]:=⟨fun _=>⟨rfl,rfl⟩,fun h'=>by rw [h] at h'; cases h'⟩
theorem gN.bad {d:Int} {W:List Str} (h:W.all eE=false):gN d W (.tup [.i 0,.c (.pd (.v (.slice none 0 0))),.i 1]) []:=⟨fun h'=>(by rw [h] at h'; cases h'),fun _=>⟨rfl,rfl⟩⟩
theorem FQ {n:Nat} (h:n≤3000000):room n 16:=by unfold room maxLen; omega
abbrev zKb1:List PI:=[.code [1,0,3],.inScope [1,0]]
theorem rR (hs:s.length≤2097152):∀ (n k f:Nat) (out:List Str),s.length - k≤n→k≤s.length→f≤k→out.length≤f→out.all eE=true→(seg s f k).all cf=true→out++dE (seg s f k) (s.drop k)=W →
 J Tryz.prog 45 (aw Tryz.f45) Γ (gN d W) zKb1 ({ n:=64,fr:=[(0,.p (.str s)),(2,.i 0),(3,.p (.v (Value.slice none 0 0))),(4,.i 0),(5,.i ((k:Int))),(8,.x (.c (.own 0))),(6,.i d),(7,.i ((f:Int)))],ck:=[.own 9 .str out] }):=by
 intro n
 induction n with
 | zero=>?_
 | succ n ih=>?_
 all_goals
  intro k f out hn hk hf hlen hout hseg hW
  refine jg aT Tryz.func45 (let x1:=(↑((List.getD s k (0:UInt8)).toNat):Int); let x2:=(out++[(dM s (some (f:Int)) (some (k:Int))).2]); let x3:=(IntKind.wrap .i64 ((k:Int)+1)); let x4:=(Value.slice none 0 0); let x5:=((k:Int)<ax s); let x6:Tree:=(.ret (.tup [.i 0,.p (.v x4),.i 1]) []); .need (decide x5=true→(0:Int)≤(k:Int)∧(k:Int)<ax s) (.need ((decide x5&&decide (x1>32))=true→(0:Int)≤(k:Int)∧(k:Int)<ax s) (.ite (decide x5&&decide (x1>32)&&decide (x1<127)) (.stop zKb1 { n:=64,fr:=[(0,.p (.str s)),(2,.i 0),(3,.p (.v x4)),(4,.i 0),(5,.i x3),(8,.x (.c (.own 0))),(6,.i d),(7,.i f)],ck:=[.own 9 .str out] }) (.ite ((k:Int)==(f:Int)) x6 (.need ((0:Int)≤(f:Int)∧(f:Int)≤(k:Int)∧(k:Int)≤(s.length:Int)) (.need (room (x2.length) 16) (.ite ((k:Int)==ax s) (.ret (.tup [.i d,.c (.own 0),.i 0]) [.own 9 .str x2]) (.need ((0:Int)≤(k:Int)∧(k:Int)<ax s) (.ite (x1 != 32) x6 (.stop zKb1 { n:=64,fr:=[(0,.p (.str s)),(2,.i 0),(3,.p (.v x4)),(4,.i 0),(5,.i x3),(8,.x (.c (.own 0))),(6,.i d),(7,.i x3)],ck:=[.own 9 .str x2] })))))))))) ?_
  conv=>zeta
  have hL:ax s=(s.length:Int):=rfl
  have hcut:(dM s (some (f:Int)) (some (k:Int))).2=seg s f k:=rfl
  rw [hcut]
  refine ⟨fun h=>by have:=of_decide_eq_true h; omega,fun h=>by simp only [af,decide_eq_true_eq] at h; omega,fun h=>?_,fun h=>?_⟩
  · have h':k<s.length∧cf (s.getD k 0)=true:=by
     simp only [af,decide_eq_true_eq] at h
     refine ⟨by omega,?_⟩
     simp only [cf,af,decide_eq_true_eq]; exact ⟨h.1.2,h.2⟩
    rw [aZ (by omega)]
    first
    | (exfalso; omega)
    | refine ih (k+1) f out (by omega) (by omega) (by omega) hlen hout ?_ ?_
      · rw [iP h'.1 hf,bz,hseg]; simpa using h'.2
      · rw [← hW,drop_byte h'.1,iP h'.1 hf]
        simp only [dE,j9 h'.2,cond_false]
  · have hbad:k<s.length→cf (s.getD k 0)=false:=by
     intro hlt
     cases hg:cf (s.getD k 0)
     · rfl
     · simp only [cf,af,decide_eq_true_eq] at hg
       have e1:decide ((k:Int)<ax s)=true:=decide_eq_true (by omega)
       rw [e1,decide_eq_true hg.1,decide_eq_true hg.2] at h
       simp at h
    refine ⟨fun hkf=>?_,fun hkf=>?_⟩
    · have hkf':k=f:=by
       have:(k:Int)=(f:Int):=by simpa using hkf
       omega
      refine gN.bad ?_
      rw [← hW,bz,hkf',gR]
      have:(dE [] (s.drop f)).all eE=false:=by
       by_cases hlt:f<s.length
       · rw [drop_byte hlt]; exact mE _ _ (by rw [← hkf'] at hlt ⊢; exact hbad hlt)
       · rw [dd.2 (by omega)]; rfl
      rw [this,cO]
    · have hkf':f<k:=by
       have:(k:Int)≠(f:Int):=by simpa using hkf
       omega
      have hv:eE (seg s f k)=true:=by
       simp only [eE,hseg,dn,aD,beq_eq_false_iff_ne]
       exact IN hkf' hk
      have hout2:(out++[seg s f k]).all eE=true:=by rw [bz,hout]; simp [hv]
      refine ⟨⟨by omega,by omega,by omega⟩,FQ (by rw [an]; simp; omega),fun he=>?_,fun he=>⟨?_,fun hb=>?_,fun hb=>?_⟩⟩
      · have he':k=s.length:=by
         have:(k:Int)=ax s:=by simpa using he
         omega
        have eW:W=out++[seg s f k]:=by rw [← hW,dd.2 (by omega)]; rfl
        rw [eW]
        exact gN.ok hout2
      · have:(k:Int)≠ax s:=by simpa using he
        omega
      · have hlt:k<s.length:=by
         have:(k:Int)≠ax s:=by simpa using he
         omega
        refine gN.bad ?_
        have hb':(((s.getD k 0).toNat:Int)==32)=false:=by simpa using hb
        rw [← hW,bz,drop_byte hlt]
        have:(dE (seg s f k) (s.getD k 0::s.drop (k+1))).all eE=false:=by
         simp only [dE,hb',cond_false]
         exact mG _ _ (by rw [bz,hseg]; simpa using hbad hlt)
        rw [this,cO]
      · have hlt:k<s.length:=by
         have:(k:Int)≠ax s:=by simpa using he
         omega
        have hb':(((s.getD k 0).toNat:Int)==32)=true:=by simpa using hb
        rw [aZ (by omega)]
        first
        | (exfalso; omega)
        | refine ih (k+1) (k+1) (out++[seg s f k]) (by omega) (by omega) (by omega) (by rw [an]; simp; omega) hout2 (by rw [gR]; rfl) ?_
          rw [← hW,drop_byte hlt,gR]
          simp only [dE,hb',cond_true,bp,bJ,bH]
theorem J.frame {P:Program} {f:FuncId} {root:Code} {Γ:Ctx} {Q:Out} {todo:List PI} {st:ST} {fr':List (Nat×SV)} (h:∀ p∈fr',p∈st.fr) (hk:J P f root Γ Q todo { st with fr:=fr' }):J P f root Γ Q todo st :=
 fun hT V a w r=>hk hT V a w (r.weaken h)
theorem yU (hQ:∀ v ck,gN (cM s:Nat) (iz s) v ck→Q v ck) (hs:s.length≤2097152):∀ (n k:Nat),s.length - k≤n→k≤s.length→cM s=k+cM (s.drop k) →
 J Tryz.prog 45 (aw Tryz.f45) Γ Q [.code [1,0,2],.inScope [1,0]] ({ n:=64,fr:=[(0,.p (.str s)),(2,.i 0),(3,.p (.v (Value.slice none 0 0))),(4,.i 0),(5,.i ((k:Int))),(8,.p (.v (Value.slice none 0 0)))],ck:=[] }):=by
 intro n
 induction n with
 | zero=>?_
 | succ n ih=>?_
 all_goals
  intro k hn hk hlead
  refine jg aT Tryz.func45 (let x1:=(↑((List.getD s k (0:UInt8)).toNat):Int); let x2:=(Value.slice none 0 0); let x3:=(IntKind.wrap .i64 ((k:Int)+1)); let x4:=[(dM s (some (k:Int)) (some (k:Int))).2]; let x6:=((k:Int)<ax s); let x5:=(decide x6=true→(0:Int)≤(k:Int)∧(k:Int)<ax s); let x7:Tree:=(.ret (.tup [.i 0,.p (.v x2),.i 1]) []); .need x5 (.ite (decide x6&&x1==32) (.stop [.code [1,0,2],.inScope [1,0]] { n:=64,fr:=[(0,.p (.str s)),(2,.i 0),(3,.p (.v x2)),(4,.i 0),(5,.i x3),(8,.p (.v x2))],ck:=[] }) (.need x5 (.need ((decide x6&&decide (x1>32))=true→(0:Int)≤(k:Int)∧(k:Int)<ax s) (.ite (decide x6&&decide (x1>32)&&decide (x1<127)) (.stop zKb1 { n:=64,fr:=[(0,.p (.str s)),(2,.i 0),(3,.p (.v x2)),(4,.i 0),(5,.i x3),(8,.p (.v x2)),(6,.i k),(7,.i k)],ck:=[] }) (.ite ((k:Int)==(k:Int)) x7 (.need ((0:Int)≤(k:Int)∧(k:Int)≤(k:Int)∧(k:Int)≤(s.length:Int)) (.need (room (List.length x4) 16) (.ite ((k:Int)==ax s) (.ret (.tup [.i k,.c (.own 0),.i 0]) [.own 9 .str x4]) (.need ((0:Int)≤(k:Int)∧(k:Int)<ax s) (.ite (x1 != 32) x7 (.stop zKb1 { n:=64,fr:=[(0,.p (.str s)),(2,.i 0),(3,.p (.v x2)),(4,.i 0),(5,.i x3),(8,.x (.c (.own 0))),(6,.i k),(7,.i x3)],ck:=[.own 9 .str x4] })))))))))))) ?_
  conv=>zeta
  have hL:ax s=(s.length:Int):=rfl
  refine ⟨fun h=>by have:=of_decide_eq_true h; omega,fun h=>?_,fun h=>⟨fun h=>by have:=of_decide_eq_true h; omega,fun h=>by simp only [af,decide_eq_true_eq] at h; omega,fun hg=>?_,fun hg=>⟨fun _=>?_,fun hne=>by simp at hne⟩⟩⟩
  · have h':k<s.length∧(((s.getD k 0).toNat:Int)==32)=true:=by
     simp only [af,decide_eq_true_eq] at h
     exact ⟨by omega,h.2⟩
    have e:cM s=k+1+cM (s.drop (k+1)):=by
     rw [hlead,drop_byte h'.1,cM,h'.2,cond_true]; try omega
    rw [aZ (by omega)]
    first
    | (exfalso; omega)
    | exact ih (k+1) (by omega) (by omega) e
  · have h':k<s.length∧cf (s.getD k 0)=true:=by
     simp only [af,decide_eq_true_eq] at hg
     refine ⟨by omega,?_⟩
     simp only [cf,af,decide_eq_true_eq]; exact ⟨hg.1.2,hg.2⟩
    have e:cM s=k:=by
     rw [hlead,drop_byte h'.1,cM,j9 h'.2,cond_false]; try omega
    refine J.mono hQ (J.nilOwn 8 9 .str rfl rfl ?_)
    have e2:IntKind.i64.wrap ((k:Int)+1)=((k+1:Nat):Int):=by rw [cr (by omega) (by omega)]; omega
    rw [e2]
    have hd:((cM s:Nat):Int)=(k:Int):=by omega
    rw [hd]
    refine rR s Γ _ (k:Int) hs s.length (k+1) k [] (by omega) (by omega) (by omega) (by simp) rfl ?_ ?_
    · rw [iP h'.1 (ar _),gR]; simpa using h'.2
    · rw [iz,e,drop_byte (k:=k) h'.1,iP h'.1 (ar _),gR]
      simp only [dE,j9 h'.2,cond_false,bH]
  · refine hQ _ _ (gN.bad ?_)
    have hnb:k<s.length→(((s.getD k 0).toNat:Int)==32)=false:=by
     intro hlt
     cases hb:(((s.getD k 0).toNat:Int)==32)
     · rfl
     · have e1:decide ((k:Int)<ax s)=true:=decide_eq_true (by omega)
       rw [e1,hb] at h; cases h
    have hng:k<s.length→cf (s.getD k 0)=false:=by
     intro hlt
     cases hg':cf (s.getD k 0)
     · rfl
     · simp only [cf,af,decide_eq_true_eq] at hg'
       have e1:decide ((k:Int)<ax s)=true:=decide_eq_true (by omega)
       rw [e1,decide_eq_true hg'.1,decide_eq_true hg'.2] at hg
       simp at hg
    by_cases hlt:k<s.length
    · have e:cM s=k:=by
       rw [hlead,drop_byte hlt,cM,hnb hlt,cond_false]; try omega
      rw [iz,e,drop_byte hlt]
      exact mE _ _ (hng hlt)
    · have e:cM s=s.length:=by
       rw [hlead,dd.2 (by omega)]; simp [cM]; omega
      rw [iz,e,List.drop_length]; rfl
theorem Ap (hQ:∀ v ck,gN (cM s:Nat) (iz s) v ck→Q v ck) (hs:s.length≤2097152):J Tryz.prog 45 (aw Tryz.f45) Γ Q [.code []] (eX Tryz.f45.ntmps [.s s] []):=by
 refine jg aT Tryz.func45 (let x1:=(↑((List.getD s 0 (0:UInt8)).toNat):Int); let x2:=(Value.slice none 0 0); let x3:=(IntKind.wrap .i64 ((0:Int)+1)); let x4:=[(dM s (some (0:Int)) (some (0:Int))).2]; let x5:=((0:Int)<ax s); let x6:=(decide x5=true→(0:Int)≤0∧(0:Int)<ax s); let x7:Tree:=(.ret (.tup [.i 0,.p (.v x2),.i 1]) []); .need x6 (.ite (decide x5&&x1==32) (.stop [.code [1,0,2],.inScope [1,0]] { n:=64,fr:=[(0,.p (.str s)),(2,.i 0),(3,.p (.v x2)),(4,.i 0),(5,.i x3),(8,.p (.v x2))],ck:=[] }) (.need x6 (.need ((decide x5&&decide (x1>32))=true→(0:Int)≤0∧(0:Int)<ax s) (.ite (decide x5&&decide (x1>32)&&decide (x1<127)) (.stop zKb1 { n:=64,fr:=[(0,.p (.str s)),(2,.i 0),(3,.p (.v x2)),(4,.i 0),(5,.i x3),(6,.i 0),(7,.i 0),(8,.p (.v x2))],ck:=[] }) (.ite true x7 (.need ((0:Int)≤0∧(0:Int)≤0∧(0:Int)≤(s.length:Int)) (.need (room (List.length x4) 16) (.ite ((0:Int)==ax s) (.ret (.tup [.i 0,.c (.own 0),.i 0]) [.own 9 .str x4]) (.need ((0:Int)≤0∧(0:Int)<ax s) (.ite (x1 != 32) x7 (.stop zKb1 { n:=64,fr:=[(0,.p (.str s)),(2,.i 0),(3,.p (.v x2)),(4,.i 0),(5,.i x3),(6,.i 0),(7,.i x3),(8,.x (.c (.own 0)))],ck:=[.own 9 .str x4] })))))))))))) ?_
 conv=>zeta
 have hlead:cM s=0+cM (s.drop 0):=by simp
 have hL:ax s=(s.length:Int):=rfl
 refine ⟨fun h=>by have:=of_decide_eq_true h; omega,fun h=>?_,fun h=>⟨fun h=>by have:=of_decide_eq_true h; omega,fun h=>by simp only [af,decide_eq_true_eq] at h; omega,fun hg=>?_,fun hg=>⟨fun _=>?_,fun hne=>by simp at hne⟩⟩⟩
 · have h':0<s.length∧(((s.getD 0 0).toNat:Int)==32)=true:=by
    simp only [af,decide_eq_true_eq] at h
    exact ⟨by omega,h.2⟩
   have e:cM s=0+1+cM (s.drop (0+1)):=by
    rw [hlead,drop_byte h'.1,cM,h'.2,cond_true]; try omega
   exact yU s Γ Q hQ hs s.length 1 (by omega) (by omega) e
 · have h':0<s.length∧cf (s.getD 0 0)=true:=by
    simp only [af,decide_eq_true_eq] at hg
    refine ⟨by omega,?_⟩
    simp only [cf,af,decide_eq_true_eq]; exact ⟨hg.1.2,hg.2⟩
   have e:cM s=0:=by
    rw [hlead,drop_byte h'.1,cM,j9 h'.2,cond_false]; try omega
   refine J.mono hQ (J.nilOwn 8 9 .str rfl rfl ?_)
   have e2:IntKind.i64.wrap ((0:Int)+1)=((0+1:Nat):Int):=by rw [cr (by omega) (by omega)]; omega
   rw [e2]
   have hd:((cM s:Nat):Int)=(0:Int):=by omega
   rw [hd]
   refine J.frame (fun p hp=>?_) (rR s Γ _ (0:Int) hs s.length (0+1) 0 [] (by omega) (by omega) (by omega) (by simp) rfl ?_ ?_)
   · simp only [aH,List.not_mem_nil,or_false] at hp
     rcases hp with rfl | rfl | rfl | rfl | rfl | rfl | rfl | rfl <;> repeat (first | exact List.Mem.head _ | apply List.Mem.tail)
   · rw [iP h'.1 (ar _),gR]; simpa using h'.2
   · rw [iz,e,drop_byte (k:=0) h'.1,iP h'.1 (ar _),gR]
     simp only [dE,j9 h'.2,cond_false,bH]
 · refine hQ _ _ (gN.bad ?_)
   have hnb:0<s.length→(((s.getD 0 0).toNat:Int)==32)=false:=by
    intro hlt
    cases hb:(((s.getD 0 0).toNat:Int)==32)
    · rfl
    · have e1:decide ((0:Int)<ax s)=true:=decide_eq_true (by omega)
      rw [e1,hb] at h; cases h
   have hng:0<s.length→cf (s.getD 0 0)=false:=by
    intro hlt
    cases hg':cf (s.getD 0 0)
    · rfl
    · simp only [cf,af,decide_eq_true_eq] at hg'
      have e1:decide ((0:Int)<ax s)=true:=decide_eq_true (by omega)
      rw [e1,decide_eq_true hg'.1,decide_eq_true hg'.2] at hg
      simp at hg
   by_cases hlt:0<s.length
   · have e:cM s=0:=by
      rw [hlead,drop_byte hlt,cM,hnb hlt,cond_false]; try omega
     rw [iz,e,drop_byte hlt]
     exact mE _ _ (hng hlt)
   · have e:cM s=s.length:=by
      rw [hlead,dd.2 (by omega)]; simp [cM]; omega
     rw [iz,e,List.drop_length]; rfl
theorem HE (hs:s.length≤2097152) (h:A5 s=true):ag Tryz.prog 45 [.s s] [] (.tup [.i (cM s:Nat),.c (.own 0),.i 0]) [.own 9 .str (iz s)] :=
 ag.of Tryz.func45 (by kernel_rfl) (by kernel_rfl) fun Γ=>Ap s Γ _ (fun v ck q=>q.1 h) hs
end Go.Proofs.YtcopfgbbjdefbaaGreatDoor
