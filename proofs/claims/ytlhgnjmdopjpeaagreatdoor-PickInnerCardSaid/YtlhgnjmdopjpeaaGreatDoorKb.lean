/- An executor for function bodies of the model over data, part Vh: what a call has left, given up. Conditions: those that a contract tells. Plain functions: names, cells, kinds. Conditions: none. The library's contracts of the shelf, laid at this dump by the kit's tools. Conditions: each one's own. Contracts: strings.Split at line feeds. Conditions: texts that are not too long; the library's variable. Contracts: lines parted into words. Conditions: texts of at most 2^21 bytes. -/
import Derived.Test.YtlhgnjmdopjpeaaGreatDoorVg
import Derived.Test.YtlhgnjmdopjpeaaGreatDoorRows
import Derived.Test.YtlhgnjmdopjpeaaGreatDoorVb
import Derived.Shelf.LaysM
import Derived.Shelf.Strings.Split
import Derived.Test.YtlhgnjmdopjpeaaGreatDoorProg
import Derived.Lib.AppendIntMem
namespace Go.Ev
open Go.RowKit
variable{P:Program}{f:FuncId}{args:List SX}{ck ck':List Chunk}
theorem ah.frz{ck2:List Chunk}{s s':SX}(tys:Tys)(l:List Nat)(h:ah P f args ck (.x s) ck')(hm:Nat.ble ck.length ck'.length=true)
 (hz:tz tys {n:=1,fr:=[(0,.x s)],ck:=ck',m:=ck.length} l=some {n:=1,fr:=[(0,.x s')],ck:=ck2,m:=ck.length}):ah P f args ck (.x s') ck2:=by
 intro w V vs hw hT hv
 refine(h w V vs hw hT hv).mono fun e w' hq=>?_
 obtain⟨v,V',rfl,hr,hk⟩:=hq
 have r:Rel (entry ck V w) {n:=1,fr:=[(0,.x s)],ck:=ck',m:=ck.length} V' {tmps:=#[v],defers:=[]} w':=by
  refine{size:=rfl,defers:=DefOk.nil rfl,slots:=fun t sv hm=>?_,wok:=hk,few:=⟨av _,aB hm⟩}
  simp only[aQ,ae]at hm
  obtain⟨rfl,rfl⟩:=hm
  exact hr
 obtain⟨V2,r2⟩:=tA r hz
 exact⟨v,V2,rfl,r2.slots 0 (.x s') (aQ.2 rfl),r2.wok⟩
theorem ah.chop{ret:SV}(h:ah P f args ck ret (ck'++[.dead])):ah P f args ck ret ck':=fun w V vs hw hT hv =>
 (h w V vs hw hT hv).mono fun _ _ ⟨v,V',e,hr,hk⟩=>⟨v,V',e,hr,hk.chop⟩
end Go.Ev
namespace Go.Proofs.YtlhgnjmdopjpeaaGreatDoor
open Go Go.Ev
def aU:Tys:=[(2,.int),(3,.int),(4,.bool),(5,.byte),(9,.str),(22,.strs),(23,.vars),(24,.stats),(25,.trans),(27,.chart),(29,.vals),(34,.ints),(39,.cells),(40,.deeds),(42,.tran),(57,.stat),(83,.val),(85,.var),(110,.deed),(124,.cell),(297,.krow)]
def bR:Cfg:=⟨aU,[]⟩
theorem aX:ag Tryz.prog bR.tab:=ag.nil
def l9(c:UInt8):Bool :=
 (decide ((c.toNat:Int)<97)||decide ((c.toNat:Int)>122))&&(decide ((c.toNat:Int)<48)||decide ((c.toNat:Int)>57))&&((c.toNat:Int) != 95)
variable(op:Int)(l:List Cell)(vars:List Var)(c:Cell)(s:Str)(states:List Str)
def lE:Bool:=s==[]||decide (aE s>12)||decide (((s.getD 0 0).toNat:Int)<97)||decide (((s.getD 0 0).toNat:Int)>122)
def rI:Bool:=s==[116,114,117,101]||s==[102,97,108,115,101]||s==[105,110]||s==[114,101]||s==[105,109]
def bk:Bool:=!(lE s) && !(s.any l9) && !(rI s)
def cV(a:Int)(s:Str):Int :=
 bif op==1 then(bif decide (a<0)||decide (a>1099511627776) || !s==[]then -1 else 0)
 else bif op==2 then(bif decide (a<0)||decide (a>1048576) || !s==[]then -1 else 0)
 else bif op==5 then(bif a != 0 || !bk s then -1 else 0)
 else bif op==6 then(bif a != 0 || !bk s then -1 else 0)
 else bif decide (op<3)||decide (op>23)||a != 0 || !s==[]then -1
 else bif decide (op≤4)then 0 else bif decide (op≤10)then 1 else 2
abbrev aV:Int:=cV c.op c.a c.name
def cv:List Cell→Int→Bool
 |[],n=>n==1
 |c::r,n=>bif decide (aV c<0)||decide (aV c>n)then false else cv r (n+(1 - aV c))
def dH:Bool:=!decide ((l.length:Int)>32)&&cv l 0
def AB(l r:Int)(k:KRow):Bool:=decide (op≥k.low)&&decide (op≤k.high)&&l==k.left&&r==k.right
def sf:List KRow:=[⟨7,7,1,0,1⟩,⟨7,7,3,0,3⟩,⟨8,8,2,0,2⟩,⟨9,10,3,0,1⟩,⟨11,15,1,1,1⟩,⟨11,13,3,3,3⟩,⟨16,21,1,1,2⟩,⟨16,17,2,2,2⟩,⟨16,17,3,3,2⟩,⟨22,23,2,2,2⟩]
def jL(op l r:Int):List KRow→Int
 |[]=>0
 |k::rest=>bif AB op l r k then k.out else jL op l r rest
def dq(l r:Int):Int:=jL op l r sf
def ay{α:Type}(p:α→Bool):List α→Int→Int
 |[],_=>-1
 |x::r,i=>bif p x then i else ay p r (i+1)
def ju(name:Str):Option Var:=vars.find? fun v=>v.name==name
def b6(vars:List Var)(states:List Str):Int×Int :=
 bif c.op==1 then(1,0)
 else bif c.op==2 then(3,0)
 else bif c.op==5 then(match ju vars c.name with
  |none=>(0,2)
  |some v=>bif decide (v.kind≥1)&&decide (v.kind≤3)then(v.kind,0)else(0,8))
 else bif c.op==6 then(bif !states.any (fun s=>s==c.name)then(0,2)else(2,0))
 else(2,0)
def gZ(c:Cell)(st:List Int):Int×Int×List Int :=
 bif decide (c.op<7)then((b6 c vars states).1,(b6 c vars states).2,st)
 else bif decide (c.op<11)then(dq c.op (st.getD 0 0) 0,0,st.drop 1)
 else(dq c.op (st.getD 1 0) (st.getD 0 0),0,st.drop 2)
def gR(vars:List Var)(states:List Str):List Cell→List Int→Int×Int
 |[],st=>(st.getLastD 0,0)
 | c::r,st =>
   let s:=gZ vars states c st
   let e:=bif s.2.1==0&&s.1==0 then 8 else s.2.1
   bif e != 0 then(0,e)else gR vars states r (s.1::s.2.2)
def cm:Int×Int :=
 bif !dH l then(0,1)else gR vars states l []
def cL(p:Int×Int):SV:=.tup [.i p.1,.i p.2]
theorem AQ{p:UInt8→Bool}{s:List UInt8}{k:Nat}(hk:k<s.length)(h:p (s.getD k 0)=true):s.any p=true:=by
 rw[bf]
 refine⟨s.getD k 0,?_,h⟩
 rw[List.getD_eq_getElem?_getD,List.getElem?_eq_getElem hk]
 exact aW hk
theorem qY{p:UInt8→Bool}{s:List UInt8}(h:∀j,j<s.length→p (s.getD j 0)=false):s.any p=false:=by
 rw[eU]
 intro x hx
 obtain⟨j,hj,rfl⟩:=List.getElem_of_mem hx
 have:=h j hj
 rw[List.getD_eq_getElem?_getD,List.getElem?_eq_getElem hj]at this
 simpa using this
theorem bx{t:ETy}{l:List t.den}{k:Nat}(h:k<l.length):l.drop k=t.get l k::l.drop (k+1):=by
 rw[dm h,ETy.get_eq (List.getElem?_eq_getElem h)]
theorem bS{α:Type}{l:List α}{k:Nat}(h:¬k<l.length):l.drop k=[]:=List.drop_eq_nil_of_le (by omega)
/-! ### pieces of texts -/
def seg(f k:Nat):Str:=(s.take k).drop f
theorem j7(k:Nat):seg s k k=[]:=by
 unfold seg;rw[ez,a6];omega
theorem drop_byte{s:Str}{k:Nat}(h:k<s.length):s.drop k=s.getD k 0::s.drop (k+1):=by
 rw[dm h,List.getD_eq_getElem?_getD,List.getElem?_eq_getElem h];rfl
theorem lf{s:Str}{f k:Nat}(h:k<s.length)(hf:f≤k):seg s f (k+1)=seg s f k++[s.getD k 0]:=by
 unfold seg
 rw[aL h,List.drop_append_of_le_length (by rw[a6];omega),List.getD_eq_getElem?_getD,List.getElem?_eq_getElem h];rfl
theorem Sc{s:Str}{f k:Nat}(h:f<k)(hk:k≤s.length):seg s f k≠[]:=by
 unfold seg
 intro e
 have:=congrArg List.length e
 rw[List.length_drop,a6]at this
 simp at this;omega
end Go.Proofs.YtlhgnjmdopjpeaaGreatDoor
namespace Go.Proofs
open Go.Shelf
def Tryz.lays146_ren:Go.Shelf.Ren:=⟨fun |146=>42 |221=>89 |268=>132 |138=>133 |143=>134 |195=>200 |197=>201 |218=>202 |219=>203 |260=>250 |217=>251 |225=>252 |224=>253 |267=>254 |266=>286 |314=>287 |n=>n,fun |9=>9 |31=>22 |3=>3 |4=>4 |0=>0 |105=>215 |21=>21 |5=>5 |46=>120 |119=>283 |139=>286 |138=>285 |146=>287 |51=>183 |n=>n,fun |1=>0 |3=>1 |4=>2 |n=>n⟩
theorem Tryz.lays146:Go.Proofs.Lays.n146 Tryz.prog Tryz.lays146_ren:={
 mixed:=by kernel_rfl
 f138:=Tryz.func133.trans (congrArg some (by kernel_rfl))
 f143:=Tryz.func134.trans (congrArg some (by kernel_rfl))
 f146:=Tryz.func42.trans (congrArg some (by kernel_rfl))
 f195:=Tryz.func200.trans (congrArg some (by kernel_rfl))
 f197:=Tryz.func201.trans (congrArg some (by kernel_rfl))
 f217:=Tryz.func251.trans (congrArg some (by kernel_rfl))
 f218:=Tryz.func202.trans (congrArg some (by kernel_rfl))
 f219:=Tryz.func203.trans (congrArg some (by kernel_rfl))
 f221:=Tryz.func89.trans (congrArg some (by kernel_rfl))
 f224:=Tryz.func253.trans (congrArg some (by kernel_rfl))
 f225:=Tryz.func252.trans (congrArg some (by kernel_rfl))
 f260:=Tryz.func250.trans (congrArg some (by kernel_rfl))
 f266:=Tryz.func286.trans (congrArg some (by kernel_rfl))
 f267:=Tryz.func254.trans (congrArg some (by kernel_rfl))
 f268:=Tryz.func132.trans (congrArg some (by kernel_rfl))
 f314:=Tryz.func287.trans (congrArg some (by kernel_rfl))
 t0:=Tryz.underlying0
 a0:=Tryz.isAgg0
 z0:=Tryz.sizeOf0
 v0:=Tryz.zeroValue0
 t3:=Tryz.underlying3
 a3:=Tryz.isAgg3
 z3:=Tryz.sizeOf3
 v3:=Tryz.zeroValue3
 t4:=Tryz.underlying4
 a4:=Tryz.isAgg4
 z4:=Tryz.sizeOf4
 v4:=Tryz.zeroValue4
 t5:=Tryz.underlying5
 a5:=Tryz.isAgg5
 z5:=Tryz.sizeOf5
 v5:=Tryz.zeroValue5
 t9:=Tryz.underlying9
 a9:=Tryz.isAgg9
 z9:=Tryz.sizeOf9
 v9:=Tryz.zeroValue9
 t21:=Tryz.underlying21
 a21:=Tryz.isAgg21
 z21:=Tryz.sizeOf21
 v21:=Tryz.zeroValue21
 t31:=Tryz.underlying22
 a31:=Tryz.isAgg22
 z31:=Tryz.sizeOf22
 v31:=Tryz.zeroValue22
 t46:=Tryz.underlying120
 a46:=Tryz.isAgg120
 z46:=Tryz.sizeOf120
 v46:=Tryz.zeroValue120
 t51:=Tryz.underlying183
 a51:=Tryz.isAgg183
 z51:=Tryz.sizeOf183
 v51:=Tryz.zeroValue183
 t105:=Tryz.underlying215
 a105:=Tryz.isAgg215
 z105:=Tryz.sizeOf215
 v105:=Tryz.zeroValue215
 t119:=Tryz.underlying283
 a119:=Tryz.isAgg283
 z119:=Tryz.sizeOf283
 t138:=Tryz.underlying285
 a138:=Tryz.isAgg285
 z138:=Tryz.sizeOf285
 v138:=Tryz.zeroValue285
 t139:=Tryz.underlying286
 a139:=Tryz.isAgg286
 z139:=Tryz.sizeOf286
 v139:=Tryz.zeroValue286
 t146:=Tryz.underlying287
 a146:=Tryz.isAgg287
 z146:=Tryz.sizeOf287
 v146:=Tryz.zeroValue287
 g1:=by kernel_rfl
 g3:=by kernel_rfl
 g4:=by kernel_rfl}
open Go.RowKit Go.Lib in
theorem Tryz.strings_Split(s sep:ByteArray)(m:Int)(w:World)(hs:s.size<4294967281)(hm:w.cell? ⟨0,0,none⟩=some (.int .i64 m))(h1:1≤sep.size) :
 Calls Tryz.prog 42 #[.string s,.string sep] w fun e w' =>
  e = .returned (.slice (some ⟨w.heap.size,0,none⟩) (Lib.countB s sep+1) (Lib.countB s sep+1))∧w'=w.alloc (.cells ((Lib.splitB sep 0 (Lib.countB s sep) s).map Value.string).toArray 9):=Any.strings_Split Tryz.lays146 (by kernel_rfl) s sep m w hs hm h1
end Go.Proofs
namespace Go.Proofs.YtlhgnjmdopjpeaaGreatDoor
open Go Go.Ev Go.RowKit
set_option maxRecDepth 100000
variable(s:Str){V:Vn}(b:UInt8)
theorem wL(j:Nat):Lib.occAt s [b] j=true↔s[j]?=some b:=by
 have h:s[j]?=(s.drop j).head?:=by rw[List.head?_drop]
 rw[h]
 unfold Lib.occAt
 cases hd:s.drop j with
 |nil=>simp[List.isPrefixOf]
 |cons x r=>simp[List.isPrefixOf];exact eq_comm
theorem GB:(Lib.index s [b] = -1∧b ∉ s)∨∃a r,s=a++b::r∧b ∉ a∧Lib.index s [b]=(a.length:Int):=by
 rcases Lib.index_spec s [b]with⟨h1,h2⟩ |⟨i,h1,h2,h3,h4⟩
 · refine .inl ⟨h1,fun hm=>?_⟩
   obtain⟨j,hj,e⟩:=dy.1 hm
   have:=h2 j (by omega)
   rw[(wL s b j).2 (by rw[List.getElem?_eq_getElem hj,e])]at this
   cases this
 · have h5:=(wL s b i).1 h3
   obtain⟨hi,h6⟩:=List.getElem?_eq_some_iff.1 h5
   refine .inr ⟨s.take i,s.drop (i+1),?_,fun hm=>?_,by rw[h1,a6];omega⟩
   ·rw[←h6,←dm hi,dp]
   · obtain⟨j,hj,e⟩:=dy.1 hm
     rw[a6]at hj
     have h7:=h4 j (by omega)
     rw[(wL s b j).2 (by rw[List.getElem?_eq_getElem (by omega)];rw[gv]at e;rw[e])]at h7
     cases h7
def ff:Str→Str→List Str
 |cur,[]=>[cur]
 |cur,c::r=>bif c==10 then cur::ff [] r else ff (cur++[c]) r
theorem xK:∀(s cur:Str),(10:UInt8) ∉ s→ff cur s=[cur++s]
 |[],cur,_=>by simp[ff]
 | c::r,cur,h=>by
   simp only[aI,not_or]at h
   have hc:(c==10)=false:=by simpa using fun e=>h.1 e.symm
   rw[ff,hc,cond_false,xK r _ h.2];simp
theorem Bp:∀(a cur b:Str),(10:UInt8) ∉ a→ff cur (a++10::b)=(cur++a)::ff [] b
 |[],cur,b,_=>by simp[ff]
 | c::r,cur,b,h=>by
   simp only[aI,not_or]at h
   have hc:(c==10)=false:=by simpa using fun e=>h.1 e.symm
   rw[bO,ff,hc,cond_false,Bp r _ b h.2];simp
theorem rC:∀(k:Nat) (s:Str),Lib.count s [10]=k→Lib.splitK [10] 0 k s=ff [] s
 | 0,s,h=>by
   rw[Lib.count_one]at h
   rw[xK s [] (List.count_eq_zero.1 h)];rfl
 | k + 1,s,h=>by
   rcases GB s 10 with⟨h1,_⟩ |⟨a,r,rfl,h2,h3⟩
   ·rw[Lib.count_miss h1]at h;omega
   · have h4:=Lib.count_hit (by simp) h3
     have e:(a++10::r).drop (a.length+1)=r:=by
      rw[←List.drop_drop,List.drop_left];rfl
     rw[show([10]:Str).length=1 from rfl,e]at h4
     rw[Lib.splitK,if_neg (by rw[h3];simp),h3,ai,show([10]:Str).length=1 from rfl,e,cF,List.take_left,Bp a [] r h2,rC k r (by omega)];rfl
theorem DY:(Lib.splitB ⟨#[10]⟩ 0 (Lib.countB (bs s) ⟨#[10]⟩) (bs s)).map (·.data.toList)=ff [] s:=by
 rw[Lib.splitB_data]
 have e:(bs s).data.toList=s:=gO s
 rw[e]
 exact rC _ s (by show Lib.count s [10]=Lib.count (bs s).data.toList _;rw[e])
theorem tl:∀(s cur:Str),(ff cur s).length=s.countP (·==10)+1
 |[],cur=>rfl
 | c::r,cur=>by
   rw[ff,List.countP_cons]
   cases h:c==10
   ·rw[cond_false,tl r];simp
   ·rw[cond_true,ax,tl r];simp
theorem De:(ff [] s).length≤s.length+1:=by
 rw[tl];have:=List.countP_le_length (p:=(·==(10:UInt8))) (l:=s);omega
theorem Dp{w:World}(hT:hZ Tryz.prog V.H)(hi:HIn V.H w):∃m,w.cell? ⟨0,0,none⟩=some (.int .i64 m):=by
 obtain⟨g,cs,e,fr,m,h1,h2,h3⟩:=hT.2.2.2 (by kernel_rfl)
 have e1:g=0:=(bX ((show Tryz.prog.globalNamed "internal/bytealg.MaxLen"=some 0 by kernel_rfl).symm.trans h1)).symm
 subst e1
 have h4:=hi _ _ h2
 exact⟨m,by simp only[World.cell?,h4];exact h3⟩
theorem Oh{a b:Str}{vs:List Value}(hv:All2 (SX.R V) [SX.s a,SX.s b] vs):vs=[.string (bs a),.string (bs b)]:=by
 cases hv with
 | cons a1 hv=>cases hv with
   | cons a2 hv =>
     cases hv
     have a1':PR V.H (.str a) _:=a1
     have a2':PR V.H (.str b) _:=a2
     cases a1';cases a2'
     rfl
theorem CP{H:Mem}:∀(l:List Str),All2 (PR H) (l.flatMap ETy.str.enc) (l.map fun s=>Value.string (bs s))
 |[]=>.nil
 |s::r=>.cons (.str s) (CP r)
theorem DX(hs:s.length<4294967281):ah Tryz.prog 42 [.s s,.s [10]] [] (.x (.c (.own 0))) [.own 9 .str (ff [] s)]:=by
 intro w V vs hw hT hv
 rw[Oh hv]
 obtain⟨m,hm⟩:=Dp hT hw.imm
 have hp:=DY s
 have hl:=congrArg List.length hp
 rw[aP]at hl
 have hc:Lib.countB (bs s) ⟨#[10]⟩+1=(ff [] s).length:=by
  rw[←hl];exact(Lib.splitB_all ⟨#[10]⟩ (by decide) 0 _ (bs s) rfl).symm
 refine(Tryz.strings_Split (bs s) (bs [10]) m w (by rw[kU];exact hs) hm (by decide)).mono fun e w' ⟨he,hw'⟩=>?_
 subst he;subst hw'
 have hcells:(Lib.splitB (bs [10]) 0 (Lib.countB (bs s) (bs [10])) (bs s)).map Value.string=(ff [] s).map fun s=>Value.string (bs s):=by
  rw[←hp,List.map_map]
  exact fF fun x _=>by simp[lL]
 have hc':Lib.countB (bs s) (bs [10])+1=(ff [] s).length:=hc
 rw[hcells,hc']
 have hlen:=De s
 obtain⟨V2,hag,_,_,e2,hw2⟩:=hw.regrow (ck:=[]) rfl (aS _) none (c:=.own 9 .str (ff [] s)) (v':=.slice (some ⟨w.heap.size,0,none⟩) (ff [] s).length (ff [] s).length) (s':=w.heap.size) (w':=w.alloc (.cells ((ff [] s).map fun s=>Value.string (bs s)).toArray 9)) (row:=none) (by simp) (World.grownBy_alloc w _ none) (fun V' hag hH f1 f2=>by
  have f3:V'.ov 0 = .slice (some ⟨w.heap.size,0,none⟩) (ff [] s).length (ff [] s).length:=f2
  have f4:V'.σ 0=w.heap.size:=f1
  refine⟨⟨(ff [] s).map fun s=>Value.string (bs s),?_,CP _,fun b hb=>?_⟩,fun b hb=>?_⟩
  · rw[f2]
    have:=World.ownsRow_lit (base:=0) (size:=1) (e:=9) w ((ff [] s).map fun s=>Value.string (bs s)).toArray (ff [] s).length (aS _) (by unfold maxLen;omega) (by simp)
    exact this
  ·rw[f2]at hb;simp only[Value.ownBlock,aa]at hb;rw[f1,←hb]
  ·right;simp only[Chunk.blk]at hb;rw[f2]at hb;simp only[Value.ownBlock,aa]at hb;omega)
 exact⟨_,V2,rfl,e2.symm,hw2⟩
def r4:Ent:=(42,fun
 |[.c (.pd (.str s)),.c (.pd (.str [10]))],[]=>some (some (s.length<4294967281),.x (.c (.own 0)),[.own 9 .str (ff [] s)])
 |_,_=>none)
theorem Ge:EntOk Tryz.prog r4:=entOk fun vs ck=>by
 unfold r4;dsimp only;split
 ·rename_i s;exact entS fun hp=>DX s hp
 ·exact entN
end Go.Proofs.YtlhgnjmdopjpeaaGreatDoor
namespace Go.Proofs.YtlhgnjmdopjpeaaGreatDoor
open Go Go.Ev
set_option maxRecDepth 100000
/-! ### plain -/
variable(s:Str)(Γ:Ctx)(Q:Out)(W:List Str)(c:UInt8)(d:Int)
def cK:Bool:=decide ((c.toNat:Int)>32)&&decide ((c.toNat:Int)<127)
def fZ(w:Str):Bool:=!(w==[])&&w.all cK
def e9:Str→List UInt8→List Str
 |cur,[]=>[cur]
 |cur,c::r=>bif (c.toNat:Int)==32 then cur::e9 [] r else e9 (cur++[c]) r
def dJ:List UInt8→Nat
 |[]=>0
 |c::r=>bif (c.toNat:Int)==32 then dJ r+1 else 0
def kF:List Str:=e9 [] (s.drop (dJ s))
def JM:Bool:=(kF s).all fZ
theorem p7:∀(rest:List UInt8) (cur:Str),cur.all cK=false→(e9 cur rest).all fZ=false
 |[],cur,h=>by simp[e9,fZ,h]
 | c :: r,cur,h=>by
   unfold e9
   cases ((c.toNat:Int)==32)
   · simp only[cond_false]
     exact p7 r (cur++[c]) (by rw[bz,h];rfl)
   ·simp only[cond_true,eH,fZ,h,df,br]
theorem qX(rest:List UInt8)(h:cK c=false):(e9 [] (c::rest)).all fZ=false:=by
 unfold e9
 cases ((c.toNat:Int)==32)
 · simp only[cond_false]
   exact p7 rest ([]++[c]) (by simp[h])
 ·simp[fZ]
theorem mZ{c:UInt8}(h:cK c=true):((c.toNat:Int)==32)=false:=by
 simp only[cK,af,decide_eq_true_eq]at h
 simp;omega
/-! ### the program's line -/
def jR(W:List Str):Out:=fun v ck=>(W.all fZ=true→v = .tup [.i d,.c (.own 0),.i 0]∧ck=[.own 9 .str W])∧(W.all fZ=false→v = .tup [.i 0,.c (.pd (.v (.slice none 0 0))),.i 1]∧ck=[])
theorem jR.ok{d:Int}{W:List Str}(h:W.all fZ=true):jR d W (.tup [.i d,.c (.own 0),.i 0]) [.own 9 .str W]:=⟨fun _=>⟨rfl,rfl⟩,fun h'=>by rw[h]at h';cases h'⟩
theorem jR.bad{d:Int}{W:List Str}(h:W.all fZ=false):jR d W (.tup [.i 0,.c (.pd (.v (.slice none 0 0))),.i 1]) []:=⟨fun h'=>(by rw[h]at h';cases h'),fun _=>⟨rfl,rfl⟩⟩
theorem Nz{n:Nat}(h:n≤3000000):room n 16:=by unfold room maxLen;omega
abbrev zKb1:List PI:=[.code [1,0,3],.inScope [1,0]]
theorem yF (hs:s.length≤2097152):∀(n k f:Nat) (out:List Str),s.length - k≤n→k≤s.length→f≤k→out.length≤f→out.all fZ=true→(seg s f k).all cK=true→out++e9 (seg s f k) (s.drop k)=W →
 J Tryz.prog 44 (ar Tryz.f44) Γ (jR d W) zKb1 ({n:=64,fr:=[(0,.p (.str s)),(2,.i 0),(3,.p (.v (Value.slice none 0 0))),(4,.i 0),(5,.i ((k:Int))),(8,.x (.c (.own 0))),(6,.i d),(7,.i ((f:Int)))],ck:=[.own 9 .str out]}):=by
 intro n
 induction n with
 |zero=>?_
 |succ n ih=>?_
 all_goals
  intro k f out hn hk hf hlen hout hseg hW
  refine jg aX Tryz.func44 (let x1:=(↑((List.getD s k (0:UInt8)).toNat):Int);let x2:=(out++[(fv s (some (f:Int)) (some (k:Int))).2]);let x3:=(IntKind.wrap .i64 ((k:Int)+1));let x4:=(Value.slice none 0 0);let x5:=((k:Int)<aE s);let x6:Tree:=(.ret (.tup [.i 0,.p (.v x4),.i 1]) []);.need (decide x5=true→(0:Int)≤(k:Int)∧(k:Int)<aE s) (.need ((decide x5&&decide (x1>32))=true→(0:Int)≤(k:Int)∧(k:Int)<aE s) (.ite (decide x5&&decide (x1>32)&&decide (x1<127)) (.stop zKb1 {n:=64,fr:=[(0,.p (.str s)),(2,.i 0),(3,.p (.v x4)),(4,.i 0),(5,.i x3),(8,.x (.c (.own 0))),(6,.i d),(7,.i f)],ck:=[.own 9 .str out]}) (.ite ((k:Int)==(f:Int)) x6 (.need ((0:Int)≤(f:Int)∧(f:Int)≤(k:Int)∧(k:Int)≤(s.length:Int)) (.need (room (x2.length) 16) (.ite ((k:Int)==aE s) (.ret (.tup [.i d,.c (.own 0),.i 0]) [.own 9 .str x2]) (.need ((0:Int)≤(k:Int)∧(k:Int)<aE s) (.ite (x1 != 32) x6 (.stop zKb1 {n:=64,fr:=[(0,.p (.str s)),(2,.i 0),(3,.p (.v x4)),(4,.i 0),(5,.i x3),(8,.x (.c (.own 0))),(6,.i d),(7,.i x3)],ck:=[.own 9 .str x2]})))))))))) ?_
  conv=>zeta
  have hL:aE s=(s.length:Int):=rfl
  have hcut:(fv s (some (f:Int)) (some (k:Int))).2=seg s f k:=rfl
  rw[hcut]
  refine⟨fun h=>by have:=of_decide_eq_true h;omega,fun h=>by simp only[af,decide_eq_true_eq]at h;omega,fun h=>?_,fun h=>?_⟩
  · have h':k<s.length∧cK (s.getD k 0)=true:=by
     simp only[af,decide_eq_true_eq]at h
     refine⟨by omega,?_⟩
     simp only[cK,af,decide_eq_true_eq];exact⟨h.1.2,h.2⟩
    rw[aZ (by omega)]
    first
    |(exfalso;omega)
    | refine ih (k+1) f out (by omega) (by omega) (by omega) hlen hout ?_ ?_
      ·rw[lf h'.1 hf,bz,hseg];simpa using h'.2
      · rw[←hW,drop_byte h'.1,lf h'.1 hf]
        simp only[e9,mZ h'.2,cond_false]
  · have hbad:k<s.length→cK (s.getD k 0)=false:=by
     intro hlt
     cases hg:cK (s.getD k 0)
     ·rfl
     · simp only[cK,af,decide_eq_true_eq]at hg
       have e1:decide ((k:Int)<aE s)=true:=decide_eq_true (by omega)
       rw[e1,decide_eq_true hg.1,decide_eq_true hg.2]at h
       simp at h
    refine⟨fun hkf=>?_,fun hkf=>?_⟩
    · have hkf':k=f:=by
       have:(k:Int)=(f:Int):=by simpa using hkf
       omega
      refine jR.bad ?_
      rw[←hW,bz,hkf',j7]
      have:(e9 [] (s.drop f)).all fZ=false:=by
       by_cases hlt:f<s.length
       ·rw[drop_byte hlt];exact qX _ _ (by rw[←hkf']at hlt ⊢;exact hbad hlt)
       ·rw[ez.2 (by omega)];rfl
      rw[this,df]
    · have hkf':f<k:=by
       have:(k:Int)≠(f:Int):=by simpa using hkf
       omega
      have hv:fZ (seg s f k)=true:=by
       simp only[fZ,hseg,dF,aK,beq_eq_false_iff_ne]
       exact Sc hkf' hk
      have hout2:(out++[seg s f k]).all fZ=true:=by rw[bz,hout];simp[hv]
      refine⟨⟨by omega,by omega,by omega⟩,Nz (by rw[au];simp;omega),fun he=>?_,fun he=>⟨?_,fun hb=>?_,fun hb=>?_⟩⟩
      · have he':k=s.length:=by
         have:(k:Int)=aE s:=by simpa using he
         omega
        have eW:W=out++[seg s f k]:=by rw[←hW,ez.2 (by omega)];rfl
        rw[eW]
        exact jR.ok hout2
      · have:(k:Int)≠aE s:=by simpa using he
        omega
      · have hlt:k<s.length:=by
         have:(k:Int)≠aE s:=by simpa using he
         omega
        refine jR.bad ?_
        have hb':(((s.getD k 0).toNat:Int)==32)=false:=by simpa using hb
        rw[←hW,bz,drop_byte hlt]
        have:(e9 (seg s f k) (s.getD k 0::s.drop (k+1))).all fZ=false:=by
         simp only[e9,hb',cond_false]
         exact p7 _ _ (by rw[bz,hseg];simpa using hbad hlt)
        rw[this,df]
      · have hlt:k<s.length:=by
         have:(k:Int)≠aE s:=by simpa using he
         omega
        have hb':(((s.getD k 0).toNat:Int)==32)=true:=by simpa using hb
        rw[aZ (by omega)]
        first
        |(exfalso;omega)
        | refine ih (k+1) (k+1) (out++[seg s f k]) (by omega) (by omega) (by omega) (by rw[au];simp;omega) hout2 (by rw[j7];rfl) ?_
          rw[←hW,drop_byte hlt,j7]
          simp only[e9,hb',cond_true,bD,bO,cd]
theorem J.frame{P:Program}{f:FuncId}{root:Code}{Γ:Ctx}{Q:Out}{todo:List PI}{st:ST}{fr':List (Nat×SV)}(h:∀p∈fr',p∈st.fr)(hk:J P f root Γ Q todo {st with fr:=fr'}):J P f root Γ Q todo st :=
 fun hT V a w r=>hk hT V a w (r.weaken h)
theorem E4(hQ:∀v ck,jR (dJ s:Nat) (kF s) v ck→Q v ck)(hs:s.length≤2097152):∀(n k:Nat),s.length - k≤n→k≤s.length→dJ s=k+dJ (s.drop k) →
 J Tryz.prog 44 (ar Tryz.f44) Γ Q [.code [1,0,2],.inScope [1,0]] ({n:=64,fr:=[(0,.p (.str s)),(2,.i 0),(3,.p (.v (Value.slice none 0 0))),(4,.i 0),(5,.i ((k:Int))),(8,.p (.v (Value.slice none 0 0)))],ck:=[]}):=by
 intro n
 induction n with
 |zero=>?_
 |succ n ih=>?_
 all_goals
  intro k hn hk hlead
  refine jg aX Tryz.func44 (let x1:=(↑((List.getD s k (0:UInt8)).toNat):Int);let x2:=(Value.slice none 0 0);let x3:=(IntKind.wrap .i64 ((k:Int)+1));let x4:=[(fv s (some (k:Int)) (some (k:Int))).2];let x6:=((k:Int)<aE s);let x5:=(decide x6=true→(0:Int)≤(k:Int)∧(k:Int)<aE s);let x7:Tree:=(.ret (.tup [.i 0,.p (.v x2),.i 1]) []);.need x5 (.ite (decide x6&&x1==32) (.stop [.code [1,0,2],.inScope [1,0]] {n:=64,fr:=[(0,.p (.str s)),(2,.i 0),(3,.p (.v x2)),(4,.i 0),(5,.i x3),(8,.p (.v x2))],ck:=[]}) (.need x5 (.need ((decide x6&&decide (x1>32))=true→(0:Int)≤(k:Int)∧(k:Int)<aE s) (.ite (decide x6&&decide (x1>32)&&decide (x1<127)) (.stop zKb1 {n:=64,fr:=[(0,.p (.str s)),(2,.i 0),(3,.p (.v x2)),(4,.i 0),(5,.i x3),(8,.p (.v x2)),(6,.i k),(7,.i k)],ck:=[]}) (.ite ((k:Int)==(k:Int)) x7 (.need ((0:Int)≤(k:Int)∧(k:Int)≤(k:Int)∧(k:Int)≤(s.length:Int)) (.need (room (List.length x4) 16) (.ite ((k:Int)==aE s) (.ret (.tup [.i k,.c (.own 0),.i 0]) [.own 9 .str x4]) (.need ((0:Int)≤(k:Int)∧(k:Int)<aE s) (.ite (x1 != 32) x7 (.stop zKb1 {n:=64,fr:=[(0,.p (.str s)),(2,.i 0),(3,.p (.v x2)),(4,.i 0),(5,.i x3),(8,.x (.c (.own 0))),(6,.i k),(7,.i x3)],ck:=[.own 9 .str x4]})))))))))))) ?_
  conv=>zeta
  have hL:aE s=(s.length:Int):=rfl
  refine⟨fun h=>by have:=of_decide_eq_true h;omega,fun h=>?_,fun h=>⟨fun h=>by have:=of_decide_eq_true h;omega,fun h=>by simp only[af,decide_eq_true_eq]at h;omega,fun hg=>?_,fun hg=>⟨fun _=>?_,fun hne=>by simp at hne⟩⟩⟩
  · have h':k<s.length∧(((s.getD k 0).toNat:Int)==32)=true:=by
     simp only[af,decide_eq_true_eq]at h
     exact⟨by omega,h.2⟩
    have e:dJ s=k+1+dJ (s.drop (k+1)):=by
     rw[hlead,drop_byte h'.1,dJ,h'.2,cond_true];try omega
    rw[aZ (by omega)]
    first
    |(exfalso;omega)
    |exact ih (k+1) (by omega) (by omega) e
  · have h':k<s.length∧cK (s.getD k 0)=true:=by
     simp only[af,decide_eq_true_eq]at hg
     refine⟨by omega,?_⟩
     simp only[cK,af,decide_eq_true_eq];exact⟨hg.1.2,hg.2⟩
    have e:dJ s=k:=by
     rw[hlead,drop_byte h'.1,dJ,mZ h'.2,cond_false];try omega
    refine J.mono hQ (J.nilOwn 8 9 .str rfl rfl ?_)
    have e2:IntKind.i64.wrap ((k:Int)+1)=((k+1:Nat):Int):=by rw[cg (by omega) (by omega)];omega
    rw[e2]
    have hd:((dJ s:Nat):Int)=(k:Int):=by omega
    rw[hd]
    refine yF s Γ _ (k:Int) hs s.length (k+1) k [] (by omega) (by omega) (by omega) (by simp) rfl ?_ ?_
    ·rw[lf h'.1 (av _),j7];simpa using h'.2
    · rw[kF,e,drop_byte (k:=k) h'.1,lf h'.1 (av _),j7]
      simp only[e9,mZ h'.2,cond_false,cd]
  · refine hQ _ _ (jR.bad ?_)
    have hnb:k<s.length→(((s.getD k 0).toNat:Int)==32)=false:=by
     intro hlt
     cases hb:(((s.getD k 0).toNat:Int)==32)
     ·rfl
     · have e1:decide ((k:Int)<aE s)=true:=decide_eq_true (by omega)
       rw[e1,hb]at h;cases h
    have hng:k<s.length→cK (s.getD k 0)=false:=by
     intro hlt
     cases hg':cK (s.getD k 0)
     ·rfl
     · simp only[cK,af,decide_eq_true_eq]at hg'
       have e1:decide ((k:Int)<aE s)=true:=decide_eq_true (by omega)
       rw[e1,decide_eq_true hg'.1,decide_eq_true hg'.2]at hg
       simp at hg
    by_cases hlt:k<s.length
    · have e:dJ s=k:=by
       rw[hlead,drop_byte hlt,dJ,hnb hlt,cond_false];try omega
      rw[kF,e,drop_byte hlt]
      exact qX _ _ (hng hlt)
    · have e:dJ s=s.length:=by
       rw[hlead,ez.2 (by omega)];simp[dJ];omega
      rw[kF,e,List.drop_length];rfl
theorem GL(hQ:∀v ck,jR (dJ s:Nat) (kF s) v ck→Q v ck)(hs:s.length≤2097152):J Tryz.prog 44 (ar Tryz.f44) Γ Q [.code []] (il Tryz.f44.ntmps [.s s] []):=by
 refine jg aX Tryz.func44 (let x1:=(↑((List.getD s 0 (0:UInt8)).toNat):Int);let x2:=(Value.slice none 0 0);let x3:=(IntKind.wrap .i64 ((0:Int)+1));let x4:=[(fv s (some (0:Int)) (some (0:Int))).2];let x5:=((0:Int)<aE s);let x6:=(decide x5=true→(0:Int)≤0∧(0:Int)<aE s);let x7:Tree:=(.ret (.tup [.i 0,.p (.v x2),.i 1]) []);.need x6 (.ite (decide x5&&x1==32) (.stop [.code [1,0,2],.inScope [1,0]] {n:=64,fr:=[(0,.p (.str s)),(2,.i 0),(3,.p (.v x2)),(4,.i 0),(5,.i x3),(8,.p (.v x2))],ck:=[]}) (.need x6 (.need ((decide x5&&decide (x1>32))=true→(0:Int)≤0∧(0:Int)<aE s) (.ite (decide x5&&decide (x1>32)&&decide (x1<127)) (.stop zKb1 {n:=64,fr:=[(0,.p (.str s)),(2,.i 0),(3,.p (.v x2)),(4,.i 0),(5,.i x3),(6,.i 0),(7,.i 0),(8,.p (.v x2))],ck:=[]}) (.ite true x7 (.need ((0:Int)≤0∧(0:Int)≤0∧(0:Int)≤(s.length:Int)) (.need (room (List.length x4) 16) (.ite ((0:Int)==aE s) (.ret (.tup [.i 0,.c (.own 0),.i 0]) [.own 9 .str x4]) (.need ((0:Int)≤0∧(0:Int)<aE s) (.ite (x1 != 32) x7 (.stop zKb1 {n:=64,fr:=[(0,.p (.str s)),(2,.i 0),(3,.p (.v x2)),(4,.i 0),(5,.i x3),(6,.i 0),(7,.i x3),(8,.x (.c (.own 0)))],ck:=[.own 9 .str x4]})))))))))))) ?_
 conv=>zeta
 have hlead:dJ s=0+dJ (s.drop 0):=by simp
 have hL:aE s=(s.length:Int):=rfl
 refine⟨fun h=>by have:=of_decide_eq_true h;omega,fun h=>?_,fun h=>⟨fun h=>by have:=of_decide_eq_true h;omega,fun h=>by simp only[af,decide_eq_true_eq]at h;omega,fun hg=>?_,fun hg=>⟨fun _=>?_,fun hne=>by simp at hne⟩⟩⟩
 · have h':0<s.length∧(((s.getD 0 0).toNat:Int)==32)=true:=by
    simp only[af,decide_eq_true_eq]at h
    exact⟨by omega,h.2⟩
   have e:dJ s=0+1+dJ (s.drop (0+1)):=by
    rw[hlead,drop_byte h'.1,dJ,h'.2,cond_true];try omega
   exact E4 s Γ Q hQ hs s.length 1 (by omega) (by omega) e
 · have h':0<s.length∧cK (s.getD 0 0)=true:=by
    simp only[af,decide_eq_true_eq]at hg
    refine⟨by omega,?_⟩
    simp only[cK,af,decide_eq_true_eq];exact⟨hg.1.2,hg.2⟩
   have e:dJ s=0:=by
    rw[hlead,drop_byte h'.1,dJ,mZ h'.2,cond_false];try omega
   refine J.mono hQ (J.nilOwn 8 9 .str rfl rfl ?_)
   have e2:IntKind.i64.wrap ((0:Int)+1)=((0+1:Nat):Int):=by rw[cg (by omega) (by omega)];omega
   rw[e2]
   have hd:((dJ s:Nat):Int)=(0:Int):=by omega
   rw[hd]
   refine J.frame (fun p hp=>?_) (yF s Γ _ (0:Int) hs s.length (0+1) 0 [] (by omega) (by omega) (by omega) (by simp) rfl ?_ ?_)
   · simp only[aI,List.not_mem_nil,or_false]at hp
     rcases hp with rfl |rfl |rfl |rfl |rfl |rfl |rfl |rfl <;> repeat (first |exact List.Mem.head _ |apply List.Mem.tail)
   ·rw[lf h'.1 (av _),j7];simpa using h'.2
   · rw[kF,e,drop_byte (k:=0) h'.1,lf h'.1 (av _),j7]
     simp only[e9,mZ h'.2,cond_false,cd]
 · refine hQ _ _ (jR.bad ?_)
   have hnb:0<s.length→(((s.getD 0 0).toNat:Int)==32)=false:=by
    intro hlt
    cases hb:(((s.getD 0 0).toNat:Int)==32)
    ·rfl
    · have e1:decide ((0:Int)<aE s)=true:=decide_eq_true (by omega)
      rw[e1,hb]at h;cases h
   have hng:0<s.length→cK (s.getD 0 0)=false:=by
    intro hlt
    cases hg':cK (s.getD 0 0)
    ·rfl
    · simp only[cK,af,decide_eq_true_eq]at hg'
      have e1:decide ((0:Int)<aE s)=true:=decide_eq_true (by omega)
      rw[e1,decide_eq_true hg'.1,decide_eq_true hg'.2]at hg
      simp at hg
   by_cases hlt:0<s.length
   · have e:dJ s=0:=by
      rw[hlead,drop_byte hlt,dJ,hnb hlt,cond_false];try omega
     rw[kF,e,drop_byte hlt]
     exact qX _ _ (hng hlt)
   · have e:dJ s=s.length:=by
      rw[hlead,ez.2 (by omega)];simp[dJ];omega
     rw[kF,e,List.drop_length];rfl
theorem Qb(hs:s.length≤2097152)(h:JM s=true):ah Tryz.prog 44 [.s s] [] (.tup [.i (dJ s:Nat),.c (.own 0),.i 0]) [.own 9 .str (kF s)] :=
 ah.of Tryz.func44 (by kernel_rfl) (by kernel_rfl) fun Γ=>GL s Γ _ (fun v ck q=>q.1 h) hs
end Go.Proofs.YtlhgnjmdopjpeaaGreatDoor
