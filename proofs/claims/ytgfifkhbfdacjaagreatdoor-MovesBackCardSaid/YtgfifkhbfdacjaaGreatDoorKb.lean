/- An executor for function bodies of the model over data, part Vh: what a call has left, given up. Conditions: those that a contract tells. Plain functions: names, cells, kinds. Conditions: none. The library's contracts of the shelf, laid at this dump by the kit's tools. Conditions: each one's own. Contracts: strings.Split at line feeds. Conditions: texts that are not too long; the library's variable. Contracts: lines parted into words. Conditions: texts of at most 2^21 bytes. -/
import Derived.Test.YtgfifkhbfdacjaaGreatDoorVg
import Derived.Test.YtgfifkhbfdacjaaGreatDoorRows
import Derived.Test.YtgfifkhbfdacjaaGreatDoorVb
import Derived.Shelf.LaysM
import Derived.Shelf.Strings.Split
import Derived.Test.YtgfifkhbfdacjaaGreatDoorProg
import Derived.Lib.AppendIntMem
namespace Go.Ev
open Go.RowKit
variable {P:Program} {f:FuncId} {args:List SX} {ck ck':List Chunk}
theorem ah.frz {ck2:List Chunk} {s s':SX} (tys:Tys) (l:List Nat) (h:ah P f args ck (.x s) ck') (hm:Nat.ble ck.length ck'.length=true)
 (hz:r6 tys { n:=1,fr:=[(0,.x s)],ck:=ck',m:=ck.length } l=some { n:=1,fr:=[(0,.x s')],ck:=ck2,m:=ck.length }):ah P f args ck (.x s') ck2:=by
 intro w V vs hw hT hv
 refine (h w V vs hw hT hv).mono fun e w' hq=>?_
 obtain ⟨v,V',rfl,hr,hk⟩:=hq
 have r:Rel (entry ck V w) { n:=1,fr:=[(0,.x s)],ck:=ck',m:=ck.length } V' { tmps:=#[v],defers:=[] } w':=by
  refine { size:=rfl,defers:=DefOk.nil rfl,slots:=fun t sv hm=>?_,wok:=hk,few:=⟨aq _,an hm⟩ }
  simp only [aV,ae] at hm
  obtain ⟨rfl,rfl⟩:=hm
  exact hr
 obtain ⟨V2,r2⟩:=qb r hz
 exact ⟨v,V2,rfl,r2.slots 0 (.x s') (aV.2 rfl),r2.wok⟩
theorem ah.chop {ret:SV} (h:ah P f args ck ret (ck'++[.dead])):ah P f args ck ret ck':=fun w V vs hw hT hv =>
 (h w V vs hw hT hv).mono fun _ _ ⟨v,V',e,hr,hk⟩=>⟨v,V',e,hr,hk.chop⟩
end Go.Ev
namespace Go.Proofs.YtgfifkhbfdacjaaGreatDoor
open Go Go.Ev
def aY:Tys:=[(2,.int),(3,.int),(4,.bool),(5,.byte),(9,.str),(22,.strs),(23,.vars),(24,.stats),(25,.trans),(27,.chart),(28,.pasts),(36,.ints),(40,.past),(48,.cells),(49,.deeds),(51,.tran),(56,.stat),(99,.val),(101,.var),(137,.deed),(187,.cell),(229,.krow)]
def bK:Cfg:=⟨aY,[]⟩
theorem aR:ag Tryz.prog bK.tab:=ag.nil
def j2 (c:UInt8):Bool :=
 (decide ((c.toNat:Int)<97)||decide ((c.toNat:Int)>122))&&(decide ((c.toNat:Int)<48)||decide ((c.toNat:Int)>57))&&((c.toNat:Int) != 95)
variable (op:Int) (l:List Cell) (vars:List Var) (c:Cell) (s:Str) (states:List Str)
def jy:Bool:=s==[]||decide (aB s>12)||decide (((s.getD 0 0).toNat:Int)<97)||decide (((s.getD 0 0).toNat:Int)>122)
def nI:Bool:=s==[116,114,117,101]||s==[102,97,108,115,101]||s==[105,110]||s==[114,101]||s==[105,109]
def aZ:Bool:=!(jy s) && !(s.any j2) && !(nI s)
def cF (a:Int) (s:Str):Int :=
 bif op==1 then (bif decide (a<0)||decide (a>1099511627776) || !s==[] then -1 else 0)
 else bif op==2 then (bif decide (a<0)||decide (a>1048576) || !s==[] then -1 else 0)
 else bif op==5 then (bif a != 0 || !aZ s then -1 else 0)
 else bif op==6 then (bif a != 0 || !aZ s then -1 else 0)
 else bif decide (op<3)||decide (op>23)||a != 0 || !s==[] then -1
 else bif decide (op≤4) then 0 else bif decide (op≤10) then 1 else 2
abbrev bg:Int:=cF c.op c.a c.name
def cn:List Cell→Int→Bool
 | [],n=>n==1
 | c::r,n=>bif decide (bg c<0)||decide (bg c>n) then false else cn r (n+(1 - bg c))
def dH:Bool:=!decide ((l.length:Int)>32)&&cn l 0
def uQ (l r:Int) (k:KRow):Bool:=decide (op≥k.low)&&decide (op≤k.high)&&l==k.left&&r==k.right
def o7:List KRow:=[⟨7,7,1,0,1⟩,⟨7,7,3,0,3⟩,⟨8,8,2,0,2⟩,⟨9,10,3,0,1⟩,⟨11,15,1,1,1⟩,⟨11,13,3,3,3⟩,⟨16,21,1,1,2⟩,⟨16,17,2,2,2⟩,⟨16,17,3,3,2⟩,⟨22,23,2,2,2⟩]
def hO (op l r:Int):List KRow→Int
 | []=>0
 | k::rest=>bif uQ op l r k then k.out else hO op l r rest
def cL (l r:Int):Int:=hO op l r o7
def aC {α:Type} (p:α→Bool):List α→Int→Int
 | [],_=>-1
 | x::r,i=>bif p x then i else aC p r (i+1)
def gV (name:Str):Option Var:=vars.find? fun v=>v.name==name
def bS (vars:List Var) (states:List Str):Int×Int :=
 bif c.op==1 then (1,0)
 else bif c.op==2 then (3,0)
 else bif c.op==5 then (match gV vars c.name with
  | none=>(0,2)
  | some v=>bif decide (v.kind≥1)&&decide (v.kind≤3) then (v.kind,0) else (0,8))
 else bif c.op==6 then (bif !states.any (fun s=>s==c.name) then (0,2) else (2,0))
 else (2,0)
def fC (c:Cell) (st:List Int):Int×Int×List Int :=
 bif decide (c.op<7) then ((bS c vars states).1,(bS c vars states).2,st)
 else bif decide (c.op<11) then (cL c.op (st.getD 0 0) 0,0,st.drop 1)
 else (cL c.op (st.getD 1 0) (st.getD 0 0),0,st.drop 2)
def fy (vars:List Var) (states:List Str):List Cell→List Int→Int×Int
 | [],st=>(st.getLastD 0,0)
 | c::r,st =>
   let s:=fC vars states c st
   let e:=bif s.2.1==0&&s.1==0 then 8 else s.2.1
   bif e != 0 then (0,e) else fy vars states r (s.1::s.2.2)
def bY:Int×Int :=
 bif !dH l then (0,1) else fy vars states l []
def cj (p:Int×Int):SV:=.tup [.i p.1,.i p.2]
theorem wP {p:UInt8→Bool} {s:List UInt8} {k:Nat} (hk:k<s.length) (h:p (s.getD k 0)=true):s.any p=true:=by
 rw [bn]
 refine ⟨s.getD k 0,?_,h⟩
 rw [List.getD_eq_getElem?_getD,List.getElem?_eq_getElem hk]
 exact bo hk
theorem n3 {p:UInt8→Bool} {s:List UInt8} (h:∀ j,j<s.length→p (s.getD j 0)=false):s.any p=false:=by
 rw [dL]
 intro x hx
 obtain ⟨j,hj,rfl⟩:=List.getElem_of_mem hx
 have:=h j hj
 rw [List.getD_eq_getElem?_getD,List.getElem?_eq_getElem hj] at this
 simpa using this
theorem bD {t:ETy} {l:List t.den} {k:Nat} (h:k<l.length):l.drop k=t.get l k::l.drop (k+1):=by
 rw [dh h,ETy.get_eq (List.getElem?_eq_getElem h)]
theorem bO {α:Type} {l:List α} {k:Nat} (h:¬k<l.length):l.drop k=[]:=List.drop_eq_nil_of_le (by omega)
/-! ### pieces of texts -/
def seg (f k:Nat):Str:=(s.take k).drop f
theorem iw (k:Nat):seg s k k=[]:=by
 unfold seg; rw [dj,bj]; omega
theorem dp {s:Str} {k:Nat} (h:k<s.length):s.drop k=s.getD k 0::s.drop (k+1):=by
 rw [dh h,List.getD_eq_getElem?_getD,List.getElem?_eq_getElem h]; rfl
theorem jc {s:Str} {f k:Nat} (h:k<s.length) (hf:f≤k):seg s f (k+1)=seg s f k++[s.getD k 0]:=by
 unfold seg
 rw [aU h,List.drop_append_of_le_length (by rw [bj]; omega),List.getD_eq_getElem?_getD,List.getElem?_eq_getElem h]; rfl
theorem LM {s:Str} {f k:Nat} (h:f<k) (hk:k≤s.length):seg s f k≠[]:=by
 unfold seg
 intro e
 have:=congrArg List.length e
 rw [List.length_drop,bj] at this
 simp at this; omega
end Go.Proofs.YtgfifkhbfdacjaaGreatDoor
namespace Go.Proofs
open Go.Shelf
def Tryz.lays146_ren:Go.Shelf.Ren:=⟨fun | 146=>60 | 221=>124 | 268=>164 | 138=>165 | 143=>166 | 195=>195 | 197=>196 | 218=>197 | 219=>198 | 260=>243 | 217=>244 | 225=>245 | 224=>246 | 267=>247 | 266=>271 | 314=>272 | n=>n,fun | 9=>9 | 31=>22 | 3=>3 | 4=>4 | 0=>0 | 105=>207 | 21=>21 | 5=>5 | 46=>130 | 119=>266 | 139=>269 | 138=>268 | 146=>270 | 51=>222 | n=>n,fun | 1=>0 | 3=>1 | 4=>2 | n=>n⟩
theorem Tryz.lays146:Go.Proofs.Lays.n146 Tryz.prog Tryz.lays146_ren:={
 mixed:=by kernel_rfl
 f138:=Tryz.func165.trans (congrArg some (by kernel_rfl))
 f143:=Tryz.func166.trans (congrArg some (by kernel_rfl))
 f146:=Tryz.func60.trans (congrArg some (by kernel_rfl))
 f195:=Tryz.func195.trans (congrArg some (by kernel_rfl))
 f197:=Tryz.func196.trans (congrArg some (by kernel_rfl))
 f217:=Tryz.func244.trans (congrArg some (by kernel_rfl))
 f218:=Tryz.func197.trans (congrArg some (by kernel_rfl))
 f219:=Tryz.func198.trans (congrArg some (by kernel_rfl))
 f221:=Tryz.func124.trans (congrArg some (by kernel_rfl))
 f224:=Tryz.func246.trans (congrArg some (by kernel_rfl))
 f225:=Tryz.func245.trans (congrArg some (by kernel_rfl))
 f260:=Tryz.func243.trans (congrArg some (by kernel_rfl))
 f266:=Tryz.func271.trans (congrArg some (by kernel_rfl))
 f267:=Tryz.func247.trans (congrArg some (by kernel_rfl))
 f268:=Tryz.func164.trans (congrArg some (by kernel_rfl))
 f314:=Tryz.func272.trans (congrArg some (by kernel_rfl))
 t0:=Tryz.underlying0
 a0:=Tryz.isAgg0
 z0:=Tryz.sizeOf0
 v0:=Tryz.zeroValue0
 t3:=Tryz.underlying3
 a3:=Tryz.isAgg3
 z3:=Tryz.sizeOf3
 v3:=Tryz.zeroValue3
 t4:=Tryz.underlying4
 a4:=Tryz.isAgg4
 z4:=Tryz.sizeOf4
 v4:=Tryz.zeroValue4
 t5:=Tryz.underlying5
 a5:=Tryz.isAgg5
 z5:=Tryz.sizeOf5
 v5:=Tryz.zeroValue5
 t9:=Tryz.underlying9
 a9:=Tryz.isAgg9
 z9:=Tryz.sizeOf9
 v9:=Tryz.zeroValue9
 t21:=Tryz.underlying21
 a21:=Tryz.isAgg21
 z21:=Tryz.sizeOf21
 v21:=Tryz.zeroValue21
 t31:=Tryz.underlying22
 a31:=Tryz.isAgg22
 z31:=Tryz.sizeOf22
 v31:=Tryz.zeroValue22
 t46:=Tryz.underlying130
 a46:=Tryz.isAgg130
 z46:=Tryz.sizeOf130
 v46:=Tryz.zeroValue130
 t51:=Tryz.underlying222
 a51:=Tryz.isAgg222
 z51:=Tryz.sizeOf222
 v51:=Tryz.zeroValue222
 t105:=Tryz.underlying207
 a105:=Tryz.isAgg207
 z105:=Tryz.sizeOf207
 v105:=Tryz.zeroValue207
 t119:=Tryz.underlying266
 a119:=Tryz.isAgg266
 z119:=Tryz.sizeOf266
 t138:=Tryz.underlying268
 a138:=Tryz.isAgg268
 z138:=Tryz.sizeOf268
 v138:=Tryz.zeroValue268
 t139:=Tryz.underlying269
 a139:=Tryz.isAgg269
 z139:=Tryz.sizeOf269
 v139:=Tryz.zeroValue269
 t146:=Tryz.underlying270
 a146:=Tryz.isAgg270
 z146:=Tryz.sizeOf270
 v146:=Tryz.zeroValue270
 g1:=by kernel_rfl
 g3:=by kernel_rfl
 g4:=by kernel_rfl }
open Go.RowKit Go.Lib in
theorem Tryz.strings_Split (s sep:ByteArray) (m:Int) (w:World) (hs:s.size<4294967281) (hm:w.cell? ⟨0,0,none⟩=some (.int .i64 m)) (h1:1≤sep.size) :
 Calls Tryz.prog 60 #[.string s,.string sep] w fun e w' =>
  e = .returned (.slice (some ⟨w.heap.size,0,none⟩) (Lib.countB s sep+1) (Lib.countB s sep+1))∧w'=w.alloc (.cells ((Lib.splitB sep 0 (Lib.countB s sep) s).map Value.string).toArray 9):=Any.strings_Split Tryz.lays146 (by kernel_rfl) s sep m w hs hm h1
end Go.Proofs
namespace Go.Proofs.YtgfifkhbfdacjaaGreatDoor
open Go Go.Ev Go.RowKit
set_option maxRecDepth 100000
variable (s:Str) {V:Vn} (b:UInt8)
theorem sQ (j:Nat):Lib.occAt s [b] j=true↔s[j]?=some b:=by
 have h:s[j]?=(s.drop j).head?:=by rw [List.head?_drop]
 rw [h]
 unfold Lib.occAt
 cases hd:s.drop j with
 | nil=>simp [List.isPrefixOf]
 | cons x r=>simp [List.isPrefixOf]; exact eq_comm
theorem Bb:(Lib.index s [b] = -1∧b ∉ s)∨∃ a r,s=a++b::r∧b ∉ a∧Lib.index s [b]=(a.length:Int):=by
 rcases Lib.index_spec s [b] with ⟨h1,h2⟩ | ⟨i,h1,h2,h3,h4⟩
 · refine .inl ⟨h1,fun hm=>?_⟩
   obtain ⟨j,hj,e⟩:=List.mem_iff_getElem.1 hm
   have:=h2 j (by omega)
   rw [(sQ s b j).2 (by rw [List.getElem?_eq_getElem hj,e])] at this
   cases this
 · have h5:=(sQ s b i).1 h3
   obtain ⟨hi,h6⟩:=List.getElem?_eq_some_iff.1 h5
   refine .inr ⟨s.take i,s.drop (i+1),?_,fun hm=>?_,by rw [h1,bj]; omega⟩
   · rw [← h6,← dh hi,cq]
   · obtain ⟨j,hj,e⟩:=List.mem_iff_getElem.1 hm
     rw [bj] at hj
     have h7:=h4 j (by omega)
     rw [(sQ s b j).2 (by rw [List.getElem?_eq_getElem (by omega)]; rw [List.getElem_take] at e; rw [e])] at h7
     cases h7
def dR:Str→Str→List Str
 | cur,[]=>[cur]
 | cur,c::r=>bif c==10 then cur::dR [] r else dR (cur++[c]) r
theorem tF:∀ (s cur:Str),(10:UInt8) ∉ s→dR cur s=[cur++s]
 | [],cur,_=>by simp [dR]
 | c::r,cur,h=>by
   simp only [aJ,not_or] at h
   have hc:(c==10)=false:=by simpa using fun e=>h.1 e.symm
   rw [dR,hc,cond_false,tF r _ h.2]; simp
theorem wt:∀ (a cur b:Str),(10:UInt8) ∉ a→dR cur (a++10::b)=(cur++a)::dR [] b
 | [],cur,b,_=>by simp [dR]
 | c::r,cur,b,h=>by
   simp only [aJ,not_or] at h
   have hc:(c==10)=false:=by simpa using fun e=>h.1 e.symm
   rw [bA,dR,hc,cond_false,wt r _ b h.2]; simp
theorem nC:∀ (k:Nat) (s:Str),Lib.count s [10]=k→Lib.splitK [10] 0 k s=dR [] s
 | 0,s,h=>by
   rw [Lib.count_one] at h
   rw [tF s [] (List.count_eq_zero.1 h)]; rfl
 | k + 1,s,h=>by
   rcases Bb s 10 with ⟨h1,_⟩ | ⟨a,r,rfl,h2,h3⟩
   · rw [Lib.count_miss h1] at h; omega
   · have h4:=Lib.count_hit (by simp) h3
     have e:(a++10::r).drop (a.length+1)=r:=by
      rw [← List.drop_drop,List.drop_left]; rfl
     rw [show ([10]:Str).length=1 from rfl,e] at h4
     rw [Lib.splitK,if_neg (by rw [h3]; simp),h3,ai,show ([10]:Str).length=1 from rfl,e,cf,List.take_left,wt a [] r h2,nC k r (by omega)]; rfl
theorem yJ:(Lib.splitB ⟨#[10]⟩ 0 (Lib.countB (bs s) ⟨#[10]⟩) (bs s)).map (·.data.toList)=dR [] s:=by
 rw [Lib.splitB_data]
 have e:(bs s).data.toList=s:=fu s
 rw [e]
 exact nC _ s (by show Lib.count s [10]=Lib.count (bs s).data.toList _; rw [e])
theorem qe:∀ (s cur:Str),(dR cur s).length=s.countP (·==10)+1
 | [],cur=>rfl
 | c::r,cur=>by
   rw [dR,List.countP_cons]
   cases h:c==10
   · rw [cond_false,qe r]; simp
   · rw [cond_true,aF,qe r]; simp
theorem ya:(dR [] s).length≤s.length+1:=by
 rw [qe]; have:=List.countP_le_length (p:=(·==(10:UInt8))) (l:=s); omega
theorem xW {w:World} (hT:fG Tryz.prog V.H) (hi:HIn V.H w):∃ m,w.cell? ⟨0,0,none⟩=some (.int .i64 m):=by
 obtain ⟨g,cs,e,fr,m,h1,h2,h3⟩:=hT.2.2.2 (by kernel_rfl)
 have e1:g=0:=(eD ((show Tryz.prog.globalNamed "internal/bytealg.MaxLen"=some 0 by kernel_rfl).symm.trans h1)).symm
 subst e1
 have h4:=hi _ _ h2
 exact ⟨m,by simp only [World.cell?,h4]; exact h3⟩
theorem Gc {a b:Str} {vs:List Value} (hv:All2 (SX.R V) [SX.s a,SX.s b] vs):vs=[.string (bs a),.string (bs b)]:=by
 cases hv with
 | cons a1 hv=>cases hv with
   | cons a2 hv =>
     cases hv
     have a1':PR V.H (.str a) _:=a1
     have a2':PR V.H (.str b) _:=a2
     cases a1'; cases a2'
     rfl
theorem vC {H:Mem}:∀ (l:List Str),All2 (PR H) (l.flatMap ETy.str.enc) (l.map fun s=>Value.string (bs s))
 | []=>.nil
 | s::r=>.cons (.str s) (vC r)
theorem xV (hs:s.length<4294967281):ah Tryz.prog 60 [.s s,.s [10]] [] (.x (.c (.own 0))) [.own 9 .str (dR [] s)]:=by
 intro w V vs hw hT hv
 rw [Gc hv]
 obtain ⟨m,hm⟩:=xW hT hw.imm
 have hp:=yJ s
 have hl:=congrArg List.length hp
 rw [aN] at hl
 have hc:Lib.countB (bs s) ⟨#[10]⟩+1=(dR [] s).length:=by
  rw [← hl]; exact (Lib.splitB_all ⟨#[10]⟩ (by decide) 0 _ (bs s) rfl).symm
 refine (Tryz.strings_Split (bs s) (bs [10]) m w (by rw [ja]; exact hs) hm (by decide)).mono fun e w' ⟨he,hw'⟩=>?_
 subst he; subst hw'
 have hcells:(Lib.splitB (bs [10]) 0 (Lib.countB (bs s) (bs [10])) (bs s)).map Value.string=(dR [] s).map fun s=>Value.string (bs s):=by
  rw [← hp,List.map_map]
  exact eg fun x _=>by simp [kL]
 have hc':Lib.countB (bs s) (bs [10])+1=(dR [] s).length:=hc
 rw [hcells,hc']
 have hlen:=ya s
 obtain ⟨V2,hag,_,_,e2,hw2⟩:=hw.regrow (ck:=[]) rfl (aQ _) none (c:=.own 9 .str (dR [] s)) (v':=.slice (some ⟨w.heap.size,0,none⟩) (dR [] s).length (dR [] s).length) (s':=w.heap.size) (w':=w.alloc (.cells ((dR [] s).map fun s=>Value.string (bs s)).toArray 9)) (row:=none) (by simp) (World.grownBy_alloc w _ none) (fun V' hag hH f1 f2=>by
  have f3:V'.ov 0 = .slice (some ⟨w.heap.size,0,none⟩) (dR [] s).length (dR [] s).length:=f2
  have f4:V'.σ 0=w.heap.size:=f1
  refine ⟨⟨(dR [] s).map fun s=>Value.string (bs s),?_,vC _,fun b hb=>?_⟩,fun b hb=>?_⟩
  · rw [f2]
    have:=World.ownsRow_lit (base:=0) (size:=1) (e:=9) w ((dR [] s).map fun s=>Value.string (bs s)).toArray (dR [] s).length (aQ _) (by unfold maxLen; omega) (by simp)
    exact this
  · rw [f2] at hb; simp only [Value.ownBlock,aa] at hb; rw [f1,← hb]
  · right; simp only [Chunk.blk] at hb; rw [f2] at hb; simp only [Value.ownBlock,aa] at hb; omega)
 exact ⟨_,V2,rfl,e2.symm,hw2⟩
def oF:Ent:=(60,fun
 | [.c (.pd (.str s)),.c (.pd (.str [10]))],[]=>some (some (s.length<4294967281),.x (.c (.own 0)),[.own 9 .str (dR [] s)])
 | _,_=>none)
theorem AI:EntOk Tryz.prog oF:=entOk fun vs ck=>by
 unfold oF; dsimp only; split
 · rename_i s; exact entS fun hp=>xV s hp
 · exact entN
end Go.Proofs.YtgfifkhbfdacjaaGreatDoor
namespace Go.Proofs.YtgfifkhbfdacjaaGreatDoor
open Go Go.Ev
set_option maxRecDepth 100000
/-! ### plain -/
variable (s:Str) (Γ:Ctx) (Q:Out) (W:List Str) (c:UInt8) (d:Int)
def b7:Bool:=decide ((c.toNat:Int)>32)&&decide ((c.toNat:Int)<127)
def eV (w:Str):Bool:=!(w==[])&&w.all b7
def dP:Str→List UInt8→List Str
 | cur,[]=>[cur]
 | cur,c::r=>bif (c.toNat:Int)==32 then cur::dP [] r else dP (cur++[c]) r
def cV:List UInt8→Nat
 | []=>0
 | c::r=>bif (c.toNat:Int)==32 then cV r+1 else 0
def iN:List Str:=dP [] (s.drop (cV s))
def E7:Bool:=(iN s).all eV
theorem ou:∀ (rest:List UInt8) (cur:Str),cur.all b7=false→(dP cur rest).all eV=false
 | [],cur,h=>by simp [dP,eV,h]
 | c :: r,cur,h=>by
   unfold dP
   cases ((c.toNat:Int)==32)
   · simp only [cond_false]
     exact ou r (cur++[c]) (by rw [bG,h]; rfl)
   · simp only [cond_true,da,eV,h,cH,a6]
theorem oy (rest:List UInt8) (h:b7 c=false):(dP [] (c::rest)).all eV=false:=by
 unfold dP
 cases ((c.toNat:Int)==32)
 · simp only [cond_false]
   exact ou rest ([]++[c]) (by simp [h])
 · simp [eV]
theorem kV {c:UInt8} (h:b7 c=true):((c.toNat:Int)==32)=false:=by
 simp only [b7,af,decide_eq_true_eq] at h
 simp; omega
/-! ### the program's line -/
def ig (W:List Str):Out:=fun v ck=>(W.all eV=true→v = .tup [.i d,.c (.own 0),.i 0]∧ck=[.own 9 .str W])∧(W.all eV=false→v = .tup [.i 0,.c (.pd (.v (.slice none 0 0))),.i 1]∧ck=[])
theorem ig.ok {d:Int} {W:List Str} (h:W.all eV=true):ig d W (.tup [.i d,.c (.own 0),.i 0]) [.own 9 .str W]:=⟨fun _=>⟨rfl,rfl⟩,fun h'=>by rw [h] at h'; cases h'⟩
theorem ig.bad {d:Int} {W:List Str} (h:W.all eV=false):ig d W (.tup [.i 0,.c (.pd (.v (.slice none 0 0))),.i 1]) []:=⟨fun h'=>(by rw [h] at h'; cases h'),fun _=>⟨rfl,rfl⟩⟩
theorem FI {n:Nat} (h:n≤3000000):room n 16:=by unfold room maxLen; omega
abbrev zKb1:List PI:=[.code [1,0,3],.inScope [1,0]]
theorem tw (hs:s.length≤2097152):∀ (n k f:Nat) (out:List Str),s.length - k≤n→k≤s.length→f≤k→out.length≤f→out.all eV=true→(seg s f k).all b7=true→out++dP (seg s f k) (s.drop k)=W →
 J Tryz.prog 62 (au Tryz.f62) Γ (ig d W) zKb1 ({ n:=64,fr:=[(0,.p (.str s)),(2,.i 0),(3,.p (.v (Value.slice none 0 0))),(4,.i 0),(5,.i ((k:Int))),(8,.x (.c (.own 0))),(6,.i d),(7,.i ((f:Int)))],ck:=[.own 9 .str out] }):=by
 intro n
 induction n with
 | zero=>?_
 | succ n ih=>?_
 all_goals
  intro k f out hn hk hf hlen hout hseg hW
  refine jg aR Tryz.func62 (let x1:=(↑((List.getD s k (0:UInt8)).toNat):Int); let x2:=(out++[(dT s (some (f:Int)) (some (k:Int))).2]); let x3:=(IntKind.wrap .i64 ((k:Int)+1)); let x4:=(Value.slice none 0 0); let x5:=((k:Int)<aB s); let x6:Tree:=(.ret (.tup [.i 0,.p (.v x4),.i 1]) []); .need (decide x5=true→(0:Int)≤(k:Int)∧(k:Int)<aB s) (.need ((decide x5&&decide (x1>32))=true→(0:Int)≤(k:Int)∧(k:Int)<aB s) (.ite (decide x5&&decide (x1>32)&&decide (x1<127)) (.stop zKb1 { n:=64,fr:=[(0,.p (.str s)),(2,.i 0),(3,.p (.v x4)),(4,.i 0),(5,.i x3),(8,.x (.c (.own 0))),(6,.i d),(7,.i f)],ck:=[.own 9 .str out] }) (.ite ((k:Int)==(f:Int)) x6 (.need ((0:Int)≤(f:Int)∧(f:Int)≤(k:Int)∧(k:Int)≤(s.length:Int)) (.need (room (x2.length) 16) (.ite ((k:Int)==aB s) (.ret (.tup [.i d,.c (.own 0),.i 0]) [.own 9 .str x2]) (.need ((0:Int)≤(k:Int)∧(k:Int)<aB s) (.ite (x1 != 32) x6 (.stop zKb1 { n:=64,fr:=[(0,.p (.str s)),(2,.i 0),(3,.p (.v x4)),(4,.i 0),(5,.i x3),(8,.x (.c (.own 0))),(6,.i d),(7,.i x3)],ck:=[.own 9 .str x2] })))))))))) ?_
  conv=>zeta
  have hL:aB s=(s.length:Int):=rfl
  have hcut:(dT s (some (f:Int)) (some (k:Int))).2=seg s f k:=rfl
  rw [hcut]
  refine ⟨fun h=>by have:=of_decide_eq_true h; omega,fun h=>by simp only [af,decide_eq_true_eq] at h; omega,fun h=>?_,fun h=>?_⟩
  · have h':k<s.length∧b7 (s.getD k 0)=true:=by
     simp only [af,decide_eq_true_eq] at h
     refine ⟨by omega,?_⟩
     simp only [b7,af,decide_eq_true_eq]; exact ⟨h.1.2,h.2⟩
    rw [aX (by omega)]
    first
    | (exfalso; omega)
    | refine ih (k+1) f out (by omega) (by omega) (by omega) hlen hout ?_ ?_
      · rw [jc h'.1 hf,bG,hseg]; simpa using h'.2
      · rw [← hW,dp h'.1,jc h'.1 hf]
        simp only [dP,kV h'.2,cond_false]
  · have hbad:k<s.length→b7 (s.getD k 0)=false:=by
     intro hlt
     cases hg:b7 (s.getD k 0)
     · rfl
     · simp only [b7,af,decide_eq_true_eq] at hg
       have e1:decide ((k:Int)<aB s)=true:=decide_eq_true (by omega)
       rw [e1,decide_eq_true hg.1,decide_eq_true hg.2] at h
       simp at h
    refine ⟨fun hkf=>?_,fun hkf=>?_⟩
    · have hkf':k=f:=by
       have:(k:Int)=(f:Int):=by simpa using hkf
       omega
      refine ig.bad ?_
      rw [← hW,bG,hkf',iw]
      have:(dP [] (s.drop f)).all eV=false:=by
       by_cases hlt:f<s.length
       · rw [dp hlt]; exact oy _ _ (by rw [← hkf'] at hlt ⊢; exact hbad hlt)
       · rw [dj.2 (by omega)]; rfl
      rw [this,cH]
    · have hkf':f<k:=by
       have:(k:Int)≠(f:Int):=by simpa using hkf
       omega
      have hv:eV (seg s f k)=true:=by
       simp only [eV,hseg,cR,aH,beq_eq_false_iff_ne]
       exact LM hkf' hk
      have hout2:(out++[seg s f k]).all eV=true:=by rw [bG,hout]; simp [hv]
      refine ⟨⟨by omega,by omega,by omega⟩,FI (by rw [ar]; simp; omega),fun he=>?_,fun he=>⟨?_,fun hb=>?_,fun hb=>?_⟩⟩
      · have he':k=s.length:=by
         have:(k:Int)=aB s:=by simpa using he
         omega
        have eW:W=out++[seg s f k]:=by rw [← hW,dj.2 (by omega)]; rfl
        rw [eW]
        exact ig.ok hout2
      · have:(k:Int)≠aB s:=by simpa using he
        omega
      · have hlt:k<s.length:=by
         have:(k:Int)≠aB s:=by simpa using he
         omega
        refine ig.bad ?_
        have hb':(((s.getD k 0).toNat:Int)==32)=false:=by simpa using hb
        rw [← hW,bG,dp hlt]
        have:(dP (seg s f k) (s.getD k 0::s.drop (k+1))).all eV=false:=by
         simp only [dP,hb',cond_false]
         exact ou _ _ (by rw [bG,hseg]; simpa using hbad hlt)
        rw [this,cH]
      · have hlt:k<s.length:=by
         have:(k:Int)≠aB s:=by simpa using he
         omega
        have hb':(((s.getD k 0).toNat:Int)==32)=true:=by simpa using hb
        rw [aX (by omega)]
        first
        | (exfalso; omega)
        | refine ih (k+1) (k+1) (out++[seg s f k]) (by omega) (by omega) (by omega) (by rw [ar]; simp; omega) hout2 (by rw [iw]; rfl) ?_
          rw [← hW,dp hlt,iw]
          simp only [dP,hb',cond_true,bL,bA,bV]
theorem J.frame {P:Program} {f:FuncId} {root:Code} {Γ:Ctx} {Q:Out} {todo:List PI} {st:ST} {fr':List (Nat×SV)} (h:∀ p∈fr',p∈st.fr) (hk:J P f root Γ Q todo { st with fr:=fr' }):J P f root Γ Q todo st :=
 fun hT V a w r=>hk hT V a w (r.weaken h)
theorem CB (hQ:∀ v ck,ig (cV s:Nat) (iN s) v ck→Q v ck) (hs:s.length≤2097152):∀ (n k:Nat),s.length - k≤n→k≤s.length→cV s=k+cV (s.drop k) →
 J Tryz.prog 62 (au Tryz.f62) Γ Q [.code [1,0,2],.inScope [1,0]] ({ n:=64,fr:=[(0,.p (.str s)),(2,.i 0),(3,.p (.v (Value.slice none 0 0))),(4,.i 0),(5,.i ((k:Int))),(8,.p (.v (Value.slice none 0 0)))],ck:=[] }):=by
 intro n
 induction n with
 | zero=>?_
 | succ n ih=>?_
 all_goals
  intro k hn hk hlead
  refine jg aR Tryz.func62 (let x1:=(↑((List.getD s k (0:UInt8)).toNat):Int); let x2:=(Value.slice none 0 0); let x3:=(IntKind.wrap .i64 ((k:Int)+1)); let x4:=[(dT s (some (k:Int)) (some (k:Int))).2]; let x6:=((k:Int)<aB s); let x5:=(decide x6=true→(0:Int)≤(k:Int)∧(k:Int)<aB s); let x7:Tree:=(.ret (.tup [.i 0,.p (.v x2),.i 1]) []); .need x5 (.ite (decide x6&&x1==32) (.stop [.code [1,0,2],.inScope [1,0]] { n:=64,fr:=[(0,.p (.str s)),(2,.i 0),(3,.p (.v x2)),(4,.i 0),(5,.i x3),(8,.p (.v x2))],ck:=[] }) (.need x5 (.need ((decide x6&&decide (x1>32))=true→(0:Int)≤(k:Int)∧(k:Int)<aB s) (.ite (decide x6&&decide (x1>32)&&decide (x1<127)) (.stop zKb1 { n:=64,fr:=[(0,.p (.str s)),(2,.i 0),(3,.p (.v x2)),(4,.i 0),(5,.i x3),(8,.p (.v x2)),(6,.i k),(7,.i k)],ck:=[] }) (.ite ((k:Int)==(k:Int)) x7 (.need ((0:Int)≤(k:Int)∧(k:Int)≤(k:Int)∧(k:Int)≤(s.length:Int)) (.need (room (List.length x4) 16) (.ite ((k:Int)==aB s) (.ret (.tup [.i k,.c (.own 0),.i 0]) [.own 9 .str x4]) (.need ((0:Int)≤(k:Int)∧(k:Int)<aB s) (.ite (x1 != 32) x7 (.stop zKb1 { n:=64,fr:=[(0,.p (.str s)),(2,.i 0),(3,.p (.v x2)),(4,.i 0),(5,.i x3),(8,.x (.c (.own 0))),(6,.i k),(7,.i x3)],ck:=[.own 9 .str x4] })))))))))))) ?_
  conv=>zeta
  have hL:aB s=(s.length:Int):=rfl
  refine ⟨fun h=>by have:=of_decide_eq_true h; omega,fun h=>?_,fun h=>⟨fun h=>by have:=of_decide_eq_true h; omega,fun h=>by simp only [af,decide_eq_true_eq] at h; omega,fun hg=>?_,fun hg=>⟨fun _=>?_,fun hne=>by simp at hne⟩⟩⟩
  · have h':k<s.length∧(((s.getD k 0).toNat:Int)==32)=true:=by
     simp only [af,decide_eq_true_eq] at h
     exact ⟨by omega,h.2⟩
    have e:cV s=k+1+cV (s.drop (k+1)):=by
     rw [hlead,dp h'.1,cV,h'.2,cond_true]; try omega
    rw [aX (by omega)]
    first
    | (exfalso; omega)
    | exact ih (k+1) (by omega) (by omega) e
  · have h':k<s.length∧b7 (s.getD k 0)=true:=by
     simp only [af,decide_eq_true_eq] at hg
     refine ⟨by omega,?_⟩
     simp only [b7,af,decide_eq_true_eq]; exact ⟨hg.1.2,hg.2⟩
    have e:cV s=k:=by
     rw [hlead,dp h'.1,cV,kV h'.2,cond_false]; try omega
    refine J.mono hQ (J.nilOwn 8 9 .str rfl rfl ?_)
    have e2:IntKind.i64.wrap ((k:Int)+1)=((k+1:Nat):Int):=by rw [cg (by omega) (by omega)]; omega
    rw [e2]
    have hd:((cV s:Nat):Int)=(k:Int):=by omega
    rw [hd]
    refine tw s Γ _ (k:Int) hs s.length (k+1) k [] (by omega) (by omega) (by omega) (by simp) rfl ?_ ?_
    · rw [jc h'.1 (aq _),iw]; simpa using h'.2
    · rw [iN,e,dp (k:=k) h'.1,jc h'.1 (aq _),iw]
      simp only [dP,kV h'.2,cond_false,bV]
  · refine hQ _ _ (ig.bad ?_)
    have hnb:k<s.length→(((s.getD k 0).toNat:Int)==32)=false:=by
     intro hlt
     cases hb:(((s.getD k 0).toNat:Int)==32)
     · rfl
     · have e1:decide ((k:Int)<aB s)=true:=decide_eq_true (by omega)
       rw [e1,hb] at h; cases h
    have hng:k<s.length→b7 (s.getD k 0)=false:=by
     intro hlt
     cases hg':b7 (s.getD k 0)
     · rfl
     · simp only [b7,af,decide_eq_true_eq] at hg'
       have e1:decide ((k:Int)<aB s)=true:=decide_eq_true (by omega)
       rw [e1,decide_eq_true hg'.1,decide_eq_true hg'.2] at hg
       simp at hg
    by_cases hlt:k<s.length
    · have e:cV s=k:=by
       rw [hlead,dp hlt,cV,hnb hlt,cond_false]; try omega
      rw [iN,e,dp hlt]
      exact oy _ _ (hng hlt)
    · have e:cV s=s.length:=by
       rw [hlead,dj.2 (by omega)]; simp [cV]; omega
      rw [iN,e,List.drop_length]; rfl
theorem A6 (hQ:∀ v ck,ig (cV s:Nat) (iN s) v ck→Q v ck) (hs:s.length≤2097152):J Tryz.prog 62 (au Tryz.f62) Γ Q [.code []] (fx Tryz.f62.ntmps [.s s] []):=by
 refine jg aR Tryz.func62 (let x1:=(↑((List.getD s 0 (0:UInt8)).toNat):Int); let x2:=(Value.slice none 0 0); let x3:=(IntKind.wrap .i64 ((0:Int)+1)); let x4:=[(dT s (some (0:Int)) (some (0:Int))).2]; let x5:=((0:Int)<aB s); let x6:=(decide x5=true→(0:Int)≤0∧(0:Int)<aB s); let x7:Tree:=(.ret (.tup [.i 0,.p (.v x2),.i 1]) []); .need x6 (.ite (decide x5&&x1==32) (.stop [.code [1,0,2],.inScope [1,0]] { n:=64,fr:=[(0,.p (.str s)),(2,.i 0),(3,.p (.v x2)),(4,.i 0),(5,.i x3),(8,.p (.v x2))],ck:=[] }) (.need x6 (.need ((decide x5&&decide (x1>32))=true→(0:Int)≤0∧(0:Int)<aB s) (.ite (decide x5&&decide (x1>32)&&decide (x1<127)) (.stop zKb1 { n:=64,fr:=[(0,.p (.str s)),(2,.i 0),(3,.p (.v x2)),(4,.i 0),(5,.i x3),(6,.i 0),(7,.i 0),(8,.p (.v x2))],ck:=[] }) (.ite true x7 (.need ((0:Int)≤0∧(0:Int)≤0∧(0:Int)≤(s.length:Int)) (.need (room (List.length x4) 16) (.ite ((0:Int)==aB s) (.ret (.tup [.i 0,.c (.own 0),.i 0]) [.own 9 .str x4]) (.need ((0:Int)≤0∧(0:Int)<aB s) (.ite (x1 != 32) x7 (.stop zKb1 { n:=64,fr:=[(0,.p (.str s)),(2,.i 0),(3,.p (.v x2)),(4,.i 0),(5,.i x3),(6,.i 0),(7,.i x3),(8,.x (.c (.own 0)))],ck:=[.own 9 .str x4] })))))))))))) ?_
 conv=>zeta
 have hlead:cV s=0+cV (s.drop 0):=by simp
 have hL:aB s=(s.length:Int):=rfl
 refine ⟨fun h=>by have:=of_decide_eq_true h; omega,fun h=>?_,fun h=>⟨fun h=>by have:=of_decide_eq_true h; omega,fun h=>by simp only [af,decide_eq_true_eq] at h; omega,fun hg=>?_,fun hg=>⟨fun _=>?_,fun hne=>by simp at hne⟩⟩⟩
 · have h':0<s.length∧(((s.getD 0 0).toNat:Int)==32)=true:=by
    simp only [af,decide_eq_true_eq] at h
    exact ⟨by omega,h.2⟩
   have e:cV s=0+1+cV (s.drop (0+1)):=by
    rw [hlead,dp h'.1,cV,h'.2,cond_true]; try omega
   exact CB s Γ Q hQ hs s.length 1 (by omega) (by omega) e
 · have h':0<s.length∧b7 (s.getD 0 0)=true:=by
    simp only [af,decide_eq_true_eq] at hg
    refine ⟨by omega,?_⟩
    simp only [b7,af,decide_eq_true_eq]; exact ⟨hg.1.2,hg.2⟩
   have e:cV s=0:=by
    rw [hlead,dp h'.1,cV,kV h'.2,cond_false]; try omega
   refine J.mono hQ (J.nilOwn 8 9 .str rfl rfl ?_)
   have e2:IntKind.i64.wrap ((0:Int)+1)=((0+1:Nat):Int):=by rw [cg (by omega) (by omega)]; omega
   rw [e2]
   have hd:((cV s:Nat):Int)=(0:Int):=by omega
   rw [hd]
   refine J.frame (fun p hp=>?_) (tw s Γ _ (0:Int) hs s.length (0+1) 0 [] (by omega) (by omega) (by omega) (by simp) rfl ?_ ?_)
   · simp only [aJ,List.not_mem_nil,or_false] at hp
     rcases hp with rfl | rfl | rfl | rfl | rfl | rfl | rfl | rfl <;> repeat (first | exact List.Mem.head _ | apply List.Mem.tail)
   · rw [jc h'.1 (aq _),iw]; simpa using h'.2
   · rw [iN,e,dp (k:=0) h'.1,jc h'.1 (aq _),iw]
     simp only [dP,kV h'.2,cond_false,bV]
 · refine hQ _ _ (ig.bad ?_)
   have hnb:0<s.length→(((s.getD 0 0).toNat:Int)==32)=false:=by
    intro hlt
    cases hb:(((s.getD 0 0).toNat:Int)==32)
    · rfl
    · have e1:decide ((0:Int)<aB s)=true:=decide_eq_true (by omega)
      rw [e1,hb] at h; cases h
   have hng:0<s.length→b7 (s.getD 0 0)=false:=by
    intro hlt
    cases hg':b7 (s.getD 0 0)
    · rfl
    · simp only [b7,af,decide_eq_true_eq] at hg'
      have e1:decide ((0:Int)<aB s)=true:=decide_eq_true (by omega)
      rw [e1,decide_eq_true hg'.1,decide_eq_true hg'.2] at hg
      simp at hg
   by_cases hlt:0<s.length
   · have e:cV s=0:=by
      rw [hlead,dp hlt,cV,hnb hlt,cond_false]; try omega
     rw [iN,e,dp hlt]
     exact oy _ _ (hng hlt)
   · have e:cV s=s.length:=by
      rw [hlead,dj.2 (by omega)]; simp [cV]; omega
     rw [iN,e,List.drop_length]; rfl
theorem J2 (hs:s.length≤2097152) (h:E7 s=true):ah Tryz.prog 62 [.s s] [] (.tup [.i (cV s:Nat),.c (.own 0),.i 0]) [.own 9 .str (iN s)] :=
 ah.of Tryz.func62 (by kernel_rfl) (by kernel_rfl) fun Γ=>A6 s Γ _ (fun v ck q=>q.1 h) hs
end Go.Proofs.YtgfifkhbfdacjaaGreatDoor
