/- An executor for function bodies of the model over data, part PC: one operation that only computes or reads. Conditions: each operation's own, told as a proposition. An executor for function bodies of the model over data, part PD: the computing operations do what part PC says. Conditions: each operation's own, told as a proposition. -/
import Derived.Test.YtlhgnjmdopjpeaaGreatDoorPB
import Derived.Laws.StructEq
namespace Go.Ev
open Go.RowKit
variable(P:Program)(b:Nat)(st:ST)
def EZ(t:TypeId):Option Bool :=
 match P.underlying t with
 |some (.struct _) |some (.array _ _)=>some true
 |some _=>some false
 |none=>none
def gE(t:TypeId):Option Nat:=(P.info? t).map (·.size)
def sa(t:TypeId)(i:Nat):Option Field :=
 match P.underlying t with
 |some (.struct fs)=>fs[i]?
 |_=>none
def partOf(t:TypeId)(cs:List SC)(off:Nat):Option SX :=
 match EZ P t,gE P t with
 |some true,some n=>bif Nat.ble (off+n) cs.length then some (.agg ((cs.drop off).take n))else none
 |some false,some _=>(cs[off]?).map .c
 |_,_=>none
theorem nX{P:Program}{w:World}{t:TypeId}{b:Bool}(h:EZ P t=some b):(isAgg t).run P w = .ok b w:=by
 unfold EZ at h
 split at h
 ·rename_i fs hu;simp at h;subst h;simp[isAgg,run_underlying hu,pure,Sem.run]
 ·rename_i n e hu;simp at h;subst h;simp[isAgg,run_underlying hu,pure,Sem.run]
 · rename_i d hn1 hn2 hu
   simp only[aa]at h
   subst h
   simp only[isAgg,Sem.run_bind,run_underlying hu,Result.andThen_ok]
   rfl
 ·simp at h
theorem fU{P:Program}{w:World}{t:TypeId}{n:Nat}(h:gE P t=some n):(sizeOf t).run P w = .ok n w:=by
 unfold gE at h
 simp only[aj]at h
 obtain⟨i,hi,rfl⟩:=h
 simp[sizeOf,typeInfo,hi,go_sem]
theorem ld{P:Program}{w:World}{V:Vn}{t:TypeId}{cs:List SC}{us:List Value}{off:Nat}{sx:SX}(hu:All2 (SC.R V) cs us)(h:partOf P t cs off=some sx) :
 ∃v,(part t us.toArray off).run P w = .ok v w∧sx.R V v:=by
 unfold partOf at h
 split at h
 · rename_i n h1 h2
   cases hb:Nat.ble (off+n) cs.length
   ·rw[hb]at h;simp at h
   · rw[hb]at h
     simp only[cond_true,aa]at h
     subst h
     refine⟨.agg ((us.drop off).take n).toArray,?_,_,rfl,(hu.drop off).take n⟩
     simp only[part,Sem.run_bind,nX h1,Result.andThen_ok,if_true,fU h2]
     show Result.ok _ w=_
     simp only[List.extract_toArray,List.extract_eq_take_drop,Result.ok.injEq,Value.agg.injEq,and_true]
     rw[show off+n - off=n from by omega]
 · rename_i n h1 h2
   simp only[aj]at h
   obtain⟨sc,h3,rfl⟩:=h
   obtain⟨u,h4,h5⟩:=hu.get h3
   refine⟨u,?_,h5⟩
   simp[part,nX h1,h4,pure,Sem.run]
 ·simp at h
theorem addr_add(off n:Nat):(⟨b,off,none⟩:Addr).add n=⟨b,off+n,none⟩:=by
 unfold Addr.add;split
 ·rename_i h;subst h;rfl
 ·rfl
theorem run_loadCellsFrom{P:Program}{w:World}(a:Addr)(hs:a.spot=none):∀(n i:Nat) (acc:Array Value) (l:List Value),l.length=n→(∀j u,l[j]?=some u→w.cell? ⟨a.block,a.off+(i+j),none⟩=some u) →
 (loadCellsFrom a i n acc).run P w = .ok (acc++l.toArray) w
 | 0,i,acc,l,hl,_=>by
   have:l=[]:=bE hl
   subst this
   simp[loadCellsFrom,pure,Sem.run]
 | n + 1,i,acc,l,hl,hc=>by
   cases l with
   |nil=>simp at hl
   | cons v l =>
     have h0:=hc 0 v rfl
     have hadd:a.add i=⟨a.block,a.off+i,none⟩:=by
      cases a;simp only at hs;subst hs;exact addr_add _ _ _
     have ih:=run_loadCellsFrom (P:=P) (w:=w) a hs n (i+1) (acc.push v) l (by simpa using hl) (fun j u hj=>by
      have:=hc (j+1) u (by simpa using hj)
      rw[show i+1+j=i+(j+1)from by omega];exact this)
     simp only[loadCellsFrom,Sem.run_bind]
     have hl':(load (a.add i)).run P w = .ok v w:=by
      simp only[load,Sem.run,hadd]
      rw[show a.off+i=a.off+(i+0)from rfl,h0]
     rw[hl']
     simp only[Result.andThen_ok]
     rw[ih]
     simp
theorem om {P:Program} {w:World} {V:Vn} {t:TypeId} {b o0 off:Nat} {arr:Array Value} {e:TypeId} {fr:Nat×Nat} {cs:List SC} {us:List Value} {sx:SX}
 (hw:w.heap[b]?=some (.cells arr e fr)) (hus:∀j u,us[j]?=some u→arr[o0+j]?=some u) (hu:All2 (SC.R V) cs us) (h:partOf P t cs off=some sx) :
 ∃v,(loadVar t ⟨b,o0+off,none⟩).run P w = .ok v w∧sx.R V v:=by
 unfold partOf at h
 split at h
 · rename_i n h1 h2
   cases hb:Nat.ble (off+n) cs.length
   ·rw[hb]at h;simp at h
   · rw [hb]at h
     simp only[cond_true,aa]at h
     subst h
     have hle:=aB hb
     have hlen:=hu.length
     have hl:=run_loadCellsFrom (P:=P) (w:=w) ⟨b,o0+off,none⟩ rfl n 0 #[] ((us.drop off).take n) (by simp;omega) (fun j u hj=>by
      simp only[List.getElem?_take,List.getElem?_drop]at hj
      split at hj
      · have:=hus _ _ hj
        simp only[World.cell?,hw]
        rw[show o0+off+(0+j)=o0+(off+j)from by omega,this];rfl
      ·simp at hj)
     refine⟨.agg ((us.drop off).take n).toArray,?_,_,rfl,(hu.drop off).take n⟩
     simp only[loadVar,Sem.run_bind,nX h1,Result.andThen_ok,if_true,fU h2,loadCells,hl]
     simp[pure,Sem.run]
 · rename_i n h1 h2
   simp only[aj]at h
   obtain⟨sc,h3,rfl⟩:=h
   obtain⟨u,h4,h5⟩:=hu.get h3
   refine⟨u,?_,h5⟩
   have h6:w.cell? ⟨b,o0+off,none⟩=some u:=by simp[World.cell?,hw,hus _ _ h4]
   simp only[loadVar,Sem.run_bind,nX h1,Result.andThen_ok,dW,if_false,load,Sem.run,h6]
 ·simp at h
/-! ### the operations -/
def y9(g:Option (Nat×Bool))(s:Nat)(want:Bool)(x:Operand):Option SX :=
 match bt st (some (s,want)) x with
 |some v=>some v
 |none=>bt st g x
def AI(b:Bool)(x y:Operand)(p q:PD):Option PD :=
 match p,q with
 | .bool p,.bool q =>
   match x,y with
   |.const _,_=>some (.bool (bif p then b||q else bif b then p else q))
   |_,.const _=>some (.bool (bif q then bif b then p else q else b&&p))
   |_,_=>some (.bool (bif b then p else q))
 |.int k n,.int k' m=>bif k==k' then some (.int k (bif b then n else m))else none
 |.str s,.str u=>some (.str (bif b then s else u))
 |.lst t l,.lst t' l'=>if h:t'=t then some (.lst t (bif b then l else h ▸ l'))else none
 |_,_=>none
def vN(b:Bool):List SC→List SC→Option (List SC)
 |[],[]=>some []
 | .pd p::l,.pd q::m=>match AI b (.tmp 0) (.tmp 0) p q,vN b l m with
   |some r,some k=>some (.pd r::k)
   |_,_=>none
 |_,_=>none
def GY(b:Bool)(x y:Operand)(va vb:SX):Option SX :=
 match va,vb with
 |.c (.pd p),.c (.pd q)=>(AI b x y p q).map fun r=>.c (.pd r)
 |.agg l,.agg m=>(vN b l m).map .agg
 |_,_=>none
def lW:Option SX→Option Int
 |some (.c (.pd (.int _ n)))=>some n
 |_=>none
def bnd(g:Option (Nat×Bool)):Option Operand→Option (Option Int)
 |none=>some none
 |some x=>(lW (bt st g x)).map some
def fv{α:Type}(l:List α)(lo hi:Option Int):Option Prop×List α :=
 match lo,hi with
 |none,none=>(none,l)
 |some n,none=>(some (0≤n∧n≤l.length),l.drop n.toNat)
 |none,some m=>(some (0≤m∧m≤l.length),l.take m.toNat)
 |some n,some m=>(some (0≤n∧n≤m∧m≤l.length),(l.take m.toNat).drop n.toNat)
def aE(l:Str):Int:=l.length
def R8:SX→Option RC
 |.c (.pd p)=>some (.pd p)
 |.c (.loc i off)=>some (.loc i off)
 |_=>none
def oW:List (Option SX)→Option (List RC)
 |[]=>some []
 | x::r=>match x.bind R8,oW r with
   |some a,some l=>some (a::l)
   |_,_=>none
def PD.toV:PD→Option Value
 |.int k n=>some (.int k n)
 |.bool b=>some (.bool b)
 |.str s=>some (.string (bs s))
 |.v x=>some x
 |_=>none
def SQ(q:Nat×List PD):SC:=.fn (.func q.1) [] (q.2.map .pd)
def rowAt:SX→Option (Option Prop×List SC×Nat)
 | .c (.loc i off)=>match st.ck[i]? with
   |some (.cells cs _)=>some (none,cs,off)
   |_=>none
 |.c (.pd (.ref t x off))=>some (none,(t.enc x).map .pd,off)
 | .c (.oat i j sz off)=>match st.ck[i]? with
   |some (.own _ t l)=>bif Nat.beq sz t.size then some (some (j<l.length),(t.enc (t.get l j)).map .pd,off)else none
   |_=>none
 |.c (.pd (.fnAt l k))=>some (none,l.map SQ,k)
 |_=>none
def Aa:SC→Option (List Int)
 |.pd (.lst .byte a)=>some a
 |_=>none
def NR(t:TypeId)(cs:List SC):Option (List Int×List Int) :=
 match cs with
 | [x,y]=>match Aa x,Aa y,EZ P t,gE P t with
   |some a,some b,some false,some _=>some (a,b)
   |_,_,_,_=>none
 |_=>none
theorem AS{x:SC}{a:List Int}(h:Aa x=some a):x = .pd (.lst .byte a):=by
 unfold Aa at h
 split at h
 ·simp only[aa]at h;subst h;rfl
 ·cases h
theorem Ku{P:Program}{t:TypeId}{cs:List SC}{ab:List Int×List Int}{off:Nat}(h:NR P t cs=some ab)(ho:off<2) :
 partOf P t cs off=some (.c (.pd (.lst .byte (bif Nat.beq off 0 then ab.1 else ab.2)))):=by
 unfold NR at h
 split at h
 · rename_i x y
   split at h
   · rename_i a b n hx hy h1 h2
     simp only[aa]at h
     subst h
     have ex:=AS hx
     have ey:=AS hy
     subst ex;subst ey
     unfold partOf
     rw[h1,h2]
     match off,ho with
     |0,_=>rfl
     |1,_=>rfl
   ·cases h
 ·cases h
def eqP(t:TypeId)(p q:PD):Option Bool :=
 match P.underlying t,p,q with
 |some (.int _),.int k a,.int k' b=>bif k==k' then some (a==b)else none
 |some .string,.str a,.str b=>some (a==b)
 |some .bool,.bool a,.bool b=>some (a==b)
 |_,_,_=>none
def r9 (P:Program) (cs ds:List SC):List Field→Option Bool
 |[]=>some true
 | f::fs=>bif f.name != "_" then
    match partOf P f.type cs f.offset,partOf P f.type ds f.offset with
    | some (.c (.pd p)),some (.c (.pd q))=>match eqP P f.type p q,r9 P cs ds fs with
      |some b,some r=>some (match fs with | []=>b |_=>b&&r)
      |_,_=>none
    |_,_=>none
   else none
def L7(t:TypeId):SX→SX→Option Bool
 |.c (.pd p),.c (.pd q)=>eqP P t p q
 | .agg cs,.agg ds=>match P.underlying t with
   |some (.struct gs)=>bif !P.stoodInHeld t then r9 P cs ds gs.toList else none
   |_=>none
 |_,_=>none
def wB (P:Program) (cs ds:List SC):List Field→Option Bool
 |[]=>some true
 | f::fs=>bif f.name != "_" then
    match partOf P f.type cs f.offset,partOf P f.type ds f.offset with
    | some x,some y=>match L7 P f.type x y,wB P cs ds fs with
      |some b,some r=>some (match fs with | []=>b |_=>b&&r)
      |_,_=>none
    |_,_=>none
   else none
def Az(t:TypeId)(cs ds:List SC):Option Bool :=
 match P.underlying t with
 |some (.struct fs)=>bif !P.stoodInHeld t && !P.eqGuardType P.depth t then wB P cs ds fs.toList else none
 |_=>none
def da:Int:=((FloatKind.f64.decode b).toInt .zero).getD 0
def jJ(k:IntKind)(b:Nat):Prop:=(FloatKind.f64.decode b).toInt .zero=some (da b)∧k.min≤da b∧da b≤k.max
def jF(n:Int):List (Int×Nat)→Nat→Option Nat
 |[],_=>none
 |e::r,i=>bif n==e.1 then some i else jF n r (i+1)
def ji(es:List (Int×Nat))(n:Int):Bool:=es.any fun e=>n==e.1
def jD(es:List (Int×Nat))(clk:Nat)(n:Int):List (Int×Nat):=bif ji es n then es else es++[(n,clk)]
def ky(es:List (Int×Nat))(clk:Nat)(n:Int):Nat:=bif ji es n then clk else clk+1
def opV(g:Option (Nat×Bool)):Op→Option (Option Prop×SX)
 | .lookup t x i false=>match bt st g x,bt st g i,P.underlying t with
   | some (.c (.own j)),some (.c (.pd (.int .i64 n))),some (.map kt et)=>match st.ck[j]?,P.underlying kt,P.info? et with
     | some (.obj (.set es _)),some (.int _),some inf=>match inf.zero with
       |some (.bool false)=>some (none,.c (.pd (.bool (ji es n))))
       |_=>none
     |_,_,_=>none
   |_,_,_=>none
 |.move x |.assign x=>(bt st g x).map fun sx=>(none,sx)
 | .pick c x y =>
   match c with
   | .tmp s=>match bt st g c,y9 st g s true x,y9 st g s false y with
     |some (.c (.pd (.bool b))),some va,some vb=>(GY b x y va vb).map fun r=>(none,r)
     |_,_,_=>none
   |_=>none
 | .binOp op t x y _=>match bt st g x,bt st g y with
   | some (.c (.pd v)),some (.c (.pd u))=>match Cb P op t y v with
     |some r=>some (none,.c (.pd r))
     |none=>(jY P op t v u).map fun pv=>(pv.1,.c (.pd pv.2))
   | some (.agg cs),some (.agg ds)=>match op with
     |.eql=>(Az P t cs ds).map fun b=>(none,.c (.pd (.bool b)))
     |.neq=>(Az P t cs ds).map fun b=>(none,.c (.pd (.bool (!b))))
     |_=>none
   |_,_=>none
 | .unOp op _ x=>match op,bt st g x with
   |.not,some (.c (.pd (.bool b)))=>some (none,.c (.pd (.bool (!b))))
   |.neg,some (.c (.pd (.int k n)))=>some (none,.c (.pd (.int k (k.wrap (0 - n)))))
   |_,_=>none
 | .convert src dst x=>match P.underlying src,P.underlying dst,bt st g x with
   |some _,some (.int k),some (.c (.pd (.int _ n)))=>some (none,.c (.pd (.int k (k.wrap n))))
   |some _,some .string,some (.c (.pd (.str s)))=>some (none,.c (.pd (.str s)))
   |some _,some (.float .f64),some (.c (.pd (.int _ n)))=>some (none,.c (.pd (.fl (some (FloatKind.f64.nearest n)))))
   |some _,some (.int k),some (.c (.pd (.fl (some b))))=>some (some (jJ k b),.c (.pd (.int k (da b))))
   |_,_,_=>none
 | .extract x i=>match vm st x with
   |some l=>(l[i]?).map fun v=>(none,v)
   |none=>none
 | .field t x i=>match bt st g x,sa P t i with
   |some (.agg cs),some fd=>(partOf P fd.type cs fd.offset).map fun r=>(none,r)
   |_,_=>none
 | .fieldAddr t x i=>match bt st g x,sa P t i with
   | some (.c s),some fd=>match gE P fd.type with
     | some (_+1)=>match s with
       |.loc j off=>some (none,.c (.loc j (off+fd.offset)))
       |.pd (.ref ty r off)=>some (none,.c (.pd (.ref ty r (off+fd.offset))))
       |.oat j k sz off=>some (none,.c (.oat j k sz (off+fd.offset)))
       |_=>none
     |_=>none
   |_,_=>none
 | .load t x=>match(bt st g x).bind (rowAt st)with
   | some (p,cs,off)=>match NR P t cs with
     |some ab=>some (some (Holds p∧off<2),.c (.pd (.lst .byte (bif Nat.beq off 0 then ab.1 else ab.2))))
     |none=>(partOf P t cs off).map fun r=>(p,r)
   |none=>none
 | .index t x i=>match bt st g x,P.underlying t,lW (bt st g i)with
   |some (.c (.pd (.str s))),some .string,some n=>some (some (0≤n∧n<aE s),.c (.pd (.int .u8 (s.getD n.toNat 0).toNat)))
   | some (.agg cs),some (.array len e),some n=>match gE P e with
     |some sz=>(partOf P e cs (n.toNat * sz)).map fun r=>(some (0≤n∧n<len),r)
     |none=>none
   |_,_,_=>none
 | .slice t x lo hi none=>match bt st g x,P.underlying t,bnd st g lo,bnd st g hi with
   |some (.c (.pd (.str s))),some .string,some lo,some hi=>some ((fv s lo hi).1,.c (.pd (.str (fv s lo hi).2)))
   | some (.c (.pd (.lst ty l))),some (.slice e),some lo,some hi=>match gE P e with
     |some n=>bif Nat.beq n ty.size then some ((fv l lo hi).1,.c (.pd (.lst ty (fv l lo hi).2)))else none
     |none=>none
   |_,_,_,_=>none
 | .call {callee:=.builtin .real,args:=args,argTypes:=_} =>
   match args.toList with
   | [x]=>match bt st g x with
     |some (.c (.pd (.cx o)))=>some (none,.c (.pd (.fl (o.map (·.1)))))
     |_=>none
   |_=>none
 | .call {callee:=.builtin .imag,args:=args,argTypes:=_} =>
   match args.toList with
   | [x]=>match bt st g x with
     |some (.c (.pd (.cx o)))=>some (none,.c (.pd (.fl (o.map (·.2)))))
     |_=>none
   |_=>none
 | .call {callee:=.builtin .min,args:=args,argTypes:=_} =>
   match args.toList with
   | [x,y]=>match bt st g x,bt st g y with
     |some (.c (.pd (.int k a))),some (.c (.pd (.int _ b)))=>some (none,.c (.pd (.int k (if b<a then b else a))))
     |_,_=>none
   |_=>none
 | .call {callee:=.builtin .max,args:=args,argTypes:=_} =>
   match args.toList with
   | [x,y]=>match bt st g x,bt st g y with
     |some (.c (.pd (.int k a))),some (.c (.pd (.int _ b)))=>some (none,.c (.pd (.int k (if b>a then b else a))))
     |_,_=>none
   |_=>none
 | .call {callee:=.builtin .complex,args:=args,argTypes:=_} =>
   match args.toList with
   | [x,y]=>match bt st g x,bt st g y with
     |some (.c (.pd (.fl o))),some (.c (.pd (.fl o')))=>some (none,.c (.pd (.cx (o.bind fun a=>o'.map fun b=>(a,b)))))
     |_,_=>none
   |_=>none
 | .call {callee:=.builtin .len,args:=args,argTypes:=ts} =>
   match args.toList,ts.toList with
   | [x],[t]=>match bt st g x,P.underlying t with
     |some (.c (.pd (.str s))),some .string=>some (none,.c (.pd (.int .i64 (aE s))))
     |some (.c (.pd (.lst _ l))),some (.slice _)=>some (none,.c (.pd (.int .i64 (l.length:Int))))
     |some (.c (.pd (.v (.slice none 0 0)))),some (.slice _)=>some (none,.c (.pd (.int .i64 0)))
     | some (.c (.own i)),some (.slice _)=>match st.ck[i]? with
       |some (.own _ _ l)=>some (none,.c (.pd (.int .i64 (l.length:Int))))
       |_=>none
     |some (.c (.pd (.fns l))),some (.slice _)=>some (none,.c (.pd (.int .i64 (l.length:Int))))
     |_,_=>none
   |_,_=>none
 | .indexAddr t x i=>match bt st g x,P.underlying t,lW (bt st g i)with
   | some (.c (.pd (.lst ty l))),some (.slice e),some j=>match gE P e with
     |some sz=>bif Nat.beq sz ty.size then some (some (0≤j∧j<l.length),.c (.pd (.ref ty (ty.get l j.toNat) 0)))else none
     |none=>none
   | some (.c (.own k)),some (.slice e),some j=>match gE P e,st.ck[k]? with
     |some sz,some (.own _ ty l)=>bif Nat.beq sz ty.size then some (some (0≤j∧j<l.length),.c (.oat k j.toNat sz 0))else none
     |_,_=>none
   | some (.c (.loc k off)),some (.array n e),some j=>match gE P e with
     |some sz=>some (some (0≤j∧j<(n:Int)),.c (.loc k (off+j.toNat * sz)))
     |none=>none
   | some (.c (.pd (.fns l))),some (.slice e),some j=>match gE P e with
     |some sz=>bif Nat.beq sz 1 then some (some (0≤j∧j<l.length),.c (.pd (.fnAt l j.toNat)))else none
     |none=>none
   |_,_,_=>none
 | .makeInterface t x=>match bt st g x,P.underlying t with
   | some (.c (.pd p)),some d=>match d,p.toV with
     |.interface _,_=>none
     |_,some v=>some (none,.c (.pd (.v (.iface t v))))
     |_,_=>none
   |_,_=>none
 | .makeFunc fn first cap=>match oW (first.toList.map (bt st g)),oW (cap.toList.map (bt st g))with
   |some x,some y=>some (none,.c (.fn fn x y))
   |_,_=>none
 | .nilCheck x=>match bt st g x with
   | some (.c s)=>match s with
     |.loc i off=>some (none,.c (.loc i off))
     |.oat i j sz off=>some (none,.c (.oat i j sz off))
     |.pd (.ref t x off)=>some (none,.c (.pd (.ref t x off)))
     |.fn (.func f) x y=>some (none,.c (.fn (.func f) x y))
     |_=>none
   |_=>none
 |_=>none
theorem bo{P:Program}{w w':World}{s:Sem Value}{v:Value}(h:s.run P w = .ok v w'):(do pure (Next.value (←s)):Sem Next).run P w = .ok (.value v) w':=by
 simp only[Sem.run_bind,h,Result.andThen_ok];rfl
theorem run_pure'{α:Type}{P:Program}{w:World}(x:α):(pure x:Sem α).run P w = .ok x w:=rfl
theorem Gt(s:Str)(l h:Nat):(bs s).extract l h=bs ((s.take h).drop l):=by
 rw[←lL ((bs s).extract l h),Lib.extract_data,gO]
 congr 1
 rw[List.drop_take]
theorem nV{P:Program}{w:World}{k:IntKind}{n:Int}{y:Nat}{c:BoundsCode}(h0:0≤n)(h1:n≤y):(Instr.sliceBound (.int k n) y c).run P w = .ok n.toNat w:=by
 simp only[Instr.sliceBound,asIntOf,Sem.run_bind]
 show((if 0≤n∧n≤(y:Int)then pure n.toNat else _:Sem Nat)).run P w=_
 rw[if_pos ⟨h0,h1⟩];rfl
theorem run_len_string{P:Program}{w:World}{t ty:TypeId}{s:Str}(h:P.underlying t=some .string):(Builtin.len_ #[t] ty #[.string (bs s)]).run P w = .ok (.int .i64 (aE s)) w:=by
 simp only[Builtin.len_]
 show((underlying t).bind _).run P w=_
 rw[Sem.run_bind',run_underlying h]
 simp only[Result.andThen_ok]
 unfold aE;rw[←kU];rfl
theorem run_len_slice{P:Program}{w:World}{t ty e:TypeId}{a:Option Addr}{n c:Nat}(h:P.underlying t=some (.slice e)):(Builtin.len_ #[t] ty #[.slice a n c]).run P w = .ok (.int .i64 n) w:=by
 simp only[Builtin.len_]
 show((underlying t).bind _).run P w=_
 rw[Sem.run_bind',run_underlying h]
 rfl
theorem oQ{P:Program}{t:TypeId}{i:Nat}{fd:Field}(h:sa P t i=some fd):∃fs,P.underlying t=some (.struct fs)∧fs[i]?=some fd:=by
 unfold sa at h
 split at h
 ·rename_i fs hu;exact⟨fs,hu,h⟩
 ·simp at h
def Rh(lo:Option Value)(h l:Nat):Prop:=(lo=none∧l=0)∨∃k n,lo=some (.int k n)∧0≤n∧n≤(h:Int)∧l=n.toNat
def Rf(hi:Option Value)(len cap h:Nat):Prop:=(hi=none∧h=len)∨∃k n,hi=some (.int k n)∧0≤n∧n≤(cap:Int)∧h=n.toNat
theorem CK{P:Program}{w:World}{isSlice:Bool}{len cap l h:Nat}{lo hi:Option Value}(h1:Rh lo h l)(h2:Rf hi len cap h):(Instr.sliceBounds isSlice len cap lo hi none).run P w = .ok (l,h,cap) w:=by
 rcases h1 with⟨rfl,rfl⟩ |⟨k,n,rfl,a1,a2,rfl⟩ <;> rcases h2 with⟨rfl,rfl⟩ |⟨k',m,rfl,b1,b2,rfl⟩
 ·rfl
 · have e:(Instr.sliceBounds isSlice len cap none (some (.int k' m)) none).run P w=((Instr.sliceBound (.int k' m) cap (if isSlice then .sliceAcap else .sliceAlen)).bind fun h=>(pure (0,h,cap):Sem (Nat×Nat×Nat))).run P w:=rfl
   rw[e,Sem.run_bind',nV b1 b2];rfl
 · have e:(Instr.sliceBounds isSlice h cap (some (.int k n)) none none).run P w=((Instr.sliceBound (.int k n) h .sliceB).bind fun l=>(pure (l,h,cap):Sem (Nat×Nat×Nat))).run P w:=rfl
   rw[e,Sem.run_bind',nV a1 a2];rfl
 · have e:(Instr.sliceBounds isSlice len cap (some (.int k n)) (some (.int k' m)) none).run P w =
    ((Instr.sliceBound (.int k' m) cap (if isSlice then .sliceAcap else .sliceAlen)).bind fun h=>(Instr.sliceBound (.int k n) h .sliceB).bind fun l=>(pure (l,h,cap):Sem (Nat×Nat×Nat))).run P w:=rfl
   rw[e,Sem.run_bind',nV b1 b2]
   simp only[Result.andThen_ok]
   rw[Sem.run_bind',nV a1 a2];rfl
theorem y6{P:Program}{w:World}{t:TypeId}{s:Str}{lo hi:Option Value}{l h m:Nat}(ht:P.underlying t=some .string)
 (hb:(Instr.sliceBounds false (bs s).size (bs s).size lo hi none).run P w = .ok (l,h,m) w):(Instr.sliceAt t (.string (bs s)) lo hi none).run P w = .ok (.string (bs ((s.take h).drop l))) w:=by
 have hs:(Instr.slice t (.string (bs s)) lo hi none).run P w = .ok (.string ((bs s).extract l h)) w:=by
  simp only[Instr.slice,Sem.run_bind,run_underlying ht,Result.andThen_ok]
  show((Instr.sliceBounds false (bs s).size (bs s).size lo hi none).bind _).run P w=_
  rw[Sem.run_bind',hb]
  rfl
 simp only[Instr.sliceAt,Sem.run_bind,run_underlying ht,Result.andThen_ok]
 rw[←Gt]
 exact hs
theorem pU{P:Program}{w:World}{t e:TypeId}{sz:Nat}{ao:Option Addr}{n cp:Nat}{lo hi:Option Value}{l h:Nat}(ht:P.underlying t=some (.slice e))(hs:gE P e=some sz)
 (hb:(Instr.sliceBounds true n cp lo hi none).run P w = .ok (l,h,cp) w):(Instr.sliceAt t (.slice ao n cp) lo hi none).run P w = .ok (.slice (if cp=l then ao else ao.map (·.add (l * sz))) (h - l) (cp - l)) w:=by
 simp only[Instr.sliceAt,Sem.run_bind,run_underlying ht,Result.andThen_ok,Instr.slice]
 rw[hb]
 simp only[Result.andThen_ok,fU hs,run_pure']
theorem mf{P:Program}{w:World}{t e:TypeId}{b off n c sz:Nat}{k:IntKind}{j:Int}(hu:P.underlying t=some (.slice e))(hs:gE P e=some sz)(h0:0≤j)(h1:j<n) :
 (Instr.indexAt t (.slice (some ⟨b,off,none⟩) n c) (.int k j)).run P w = .ok (.pointer (some ⟨b,off+j.toNat * sz,none⟩)) w:=by
 unfold Instr.indexAt
 simp only[Sem.run_bind,asIntOf,run_pure',Result.andThen_ok,run_underlying hu,h0,h1,and_self,if_true,fU hs,addr_add,df]
theorem CI{P:Program}{w:World}{t e:TypeId}{b off n sz:Nat}{k:IntKind}{j:Int}(hu:P.underlying t=some (.array n e))(hs:gE P e=some sz)(h0:0≤j)(h1:j<n) :
 (Instr.indexAt t (.pointer (some ⟨b,off,none⟩)) (.int k j)).run P w = .ok (.pointer (some ⟨b,off+j.toNat * sz,none⟩)) w:=by
 unfold Instr.indexAt
 have e1:(Instr.sureAddr (.pointer (some ⟨b,off,none⟩))).run P w = .ok ⟨b,off,none⟩ w:=rfl
 simp only[Sem.run_bind,asIntOf,run_pure',Result.andThen_ok,run_underlying hu,e1,h0,h1,and_self,if_true,fU hs,addr_add]
/-! ### rows of rows -/
theorem lz(t:ETy)(l:List t.den):(l.flatMap t.enc).length=l.length * t.size:=by
 induction l with
 |nil=>simp
 |cons x l ih=>rw[bF,au,ih,t.enc_length,ax,cN];omega
theorem mX{t:ETy}:∀{l:List t.den} {i:Nat} {x:t.den},l[i]?=some x→∀{j:Nat} {p:PD},(t.enc x)[j]?=some p→(l.flatMap t.enc)[i * t.size+j]?=some p
 |[],i,x,h,_,_,_=>by simp at h
 | y::l,0,x,h,j,p,hj=>by
   simp only[List.getElem?_cons_zero,aa]at h
   subst h
   rw[Nat.zero_mul,ba,bF,List.getElem?_append_left (List.getElem?_eq_some_iff.1 hj).1];exact hj
 | y::l,i+1,x,h,j,p,hj=>by
   simp only[List.getElem?_cons_succ]at h
   have ih:=mX h hj
   rw[bF,List.getElem?_append_right (by rw[t.enc_length,cN];omega),t.enc_length,show(i+1) * t.size+j - t.size=i * t.size+j from by rw[cN];omega]
   exact ih
theorem lU(t:ETy)(l:List t.den)(n:Nat):(l.take n).flatMap t.enc=(l.flatMap t.enc).take (n * t.size):=by
 induction l generalizing n with
 |nil=>simp
 | cons x l ih =>
   cases n with
   |zero=>simp
   | succ n =>
     have h:=t.enc_length x
     rw[List.take_succ_cons,bF,bF,ih,show(n+1) * t.size=(t.enc x).length+n * t.size from by rw[h,cN];omega,List.take_length_add_append]
/-! ### a slice in memory that nobody writes -/
theorem PR.slice_form{H:Mem}{t:ETy}{l:List t.den}{u:Value}(h:PR H (.lst t l) u):∃ao cap,u = .slice ao l.length cap∧l.length≤cap∧(ao=none→cap=0):=by
 cases h with
 |emp _ ao cap h=>exact⟨ao,cap,rfl,aS _,h⟩
 |lst _ _ b off cap cells e fr hb hc hm hs h=>exact⟨_,cap,rfl,hc,fun h=>by cases h⟩
theorem PR.elem{H:Mem}{t:ETy}{l:List t.den}{u:Value}(h:PR H (.lst t l) u){j:Nat}(hj:j<l.length) :
 ∃b off cap,u = .slice (some ⟨b,off,none⟩) l.length cap∧PR H (.ref t (t.get l j) 0) (.pointer (some ⟨b,off+j * t.size,none⟩)):=by
 cases h with
 |emp _ ao cap h=>simp at hj
 | lst _ _ b off cap cells e fr hb hc hm hs h =>
   refine⟨b,off,cap,rfl,?_⟩
   have h2:(j+1) * t.size≤l.length * t.size:=bQ _ hj
   have:=PR.ref (H:=H) t (t.get l j) 0 b (off+j * t.size) cells e fr hb (by rw[cN]at h2;omega) (fun i p hp u hu=>h j _ (ETy.getElem?_get hj) i p hp u hu)
   simpa using this
theorem PR.cut {H:Mem} {t:ETy} {l:List t.den} {ao:Option Addr} {n cap lo hi:Nat} (h:PR H (.lst t l) (.slice ao n cap)) (h1:lo≤hi) (h2:hi≤l.length) :
 PR H (.lst t ((l.take hi).drop lo)) (.slice (if cap=lo then ao else ao.map (·.add (lo * t.size))) (hi - lo) (cap - lo)):=by
 have hl:((l.take hi).drop lo).length=hi - lo:=by simp;omega
 cases h with
 | emp _ _ _ h =>
   have e1:hi=0:=by simpa using h2
   have e2:lo=0:=by omega
   subst e1;subst e2
   simp only[List.take_nil,List.drop_nil,Nat.sub_zero,Nat.zero_mul]
   refine .emp t _ _ (fun hh=>?_)
   split at hh
   ·exact h hh
   ·exact h (by simpa using hh)
 | lst _ _ b off _ cells e fr hb hc hm hs h =>
   by_cases hz:hi=lo
   · subst hz
     have:(l.take hi).drop hi=[]:=by simp
     rw[this,eY]
     refine .emp t _ _ (fun hh=>?_)
     split at hh <;> simp at hh
   · have hne:¬cap=lo:=by omega
     rw[if_neg hne]
     simp only[bu,addr_add]
     rw[←hl]
     refine .lst t _ b (off+lo * t.size) (cap - lo) cells e fr hb (by omega) (by omega) ?_ fun i x hx j p hp u hu=>?_
     · rw[hl]
       have:(hi - lo) * t.size+lo * t.size≤l.length * t.size:=by rw[←cN];exact bQ _ (by omega)
       omega
     · have hx':l[lo+i]?=some x:=by
        rw[List.getElem?_drop,List.getElem?_take]at hx
        split at hx
        ·exact hx
        ·cases hx
       refine h (lo+i) x hx' j p hp u ?_
       rw[cN,show off+(lo * t.size+i * t.size)+j=off+lo * t.size+i * t.size+j from by omega];exact hu
theorem Cf{w:World}{B:Nat}{e:TypeId}{size:Nat}{v:Value}{n:Nat}{xs:List Value}(h:w.ownsRow B e size v n xs):∃a c,v = .slice a n c∧n≤c∧(a=none→c=0):=by
 rcases h.2 with⟨rfl,rfl⟩ |⟨g,cap,cur,rfl,_,_,h,_⟩
 ·exact⟨_,_,rfl,av _,fun _=>rfl⟩
 ·exact⟨_,_,rfl,h,fun h=>by cases h⟩
section
variable{Γ:Ctx}{P:Program}{st:ST}{V:Vn}{a:Act}{w:World}
theorem oi{H:Mem}{b:Bool}{x y:Operand}{p q r:PD}{u v:Value}(h:AI b x y p q=some r)(h1:b=true→PR H p u)(h2:b=false→PR H q v):PR H r (bif b then u else v):=by
 unfold AI at h
 split at h
 · rename_i p q
   have go:r = .bool (bif b then p else q):=by
    split at h <;> simp only[aa]at h <;> subst h <;> cases b <;> cases p <;> cases q <;> rfl
   subst go
   cases b
   ·exact h2 rfl
   ·exact h1 rfl
 · rename_i k n k' m
   cases hk:(k==k')
   ·rw[hk]at h;simp at h
   · rw[hk]at h
     simp only[cond_true,aa]at h
     simp only[beq_iff_eq]at hk
     subst hk;subst h
     cases b
     ·exact h2 rfl
     ·exact h1 rfl
 · simp only[aa]at h;subst h
   cases b
   ·exact h2 rfl
   ·exact h1 rfl
 · split at h
   · rename_i e
     simp only[aa]at h
     subst e;subst h
     cases b
     ·exact h2 rfl
     ·exact h1 rfl
   ·simp at h
 ·simp at h
theorem lF{b:Bool}:∀{l m r:List SC} {us vs:List Value},vN b l m=some r→(b=true→All2 (SC.R V) l us)→(b=false→All2 (SC.R V) m vs)→All2 (SC.R V) r (bif b then us else vs)
 | [],[],r,us,vs,h,h1,h2=>by
   simp[vN]at h;subst h
   cases b
   ·exact h2 rfl
   ·exact h1 rfl
 | .pd p::l,.pd q::m,r,us,vs,h,h1,h2=>by
   simp only[vN]at h
   split at h
   · rename_i r' k h3 h4
     simp only[aa]at h;subst h
     cases b
     ·cases h2 rfl with |cons g1 g2=>exact .cons (oi (u:=undef) h3 (by simp) (fun _=>g1)) (lF (us:=[]) h4 (by simp) (fun _=>g2))
     ·cases h1 rfl with |cons g1 g2=>exact .cons (oi (v:=undef) h3 (fun _=>g1) (by simp)) (lF (vs:=[]) h4 (fun _=>g2) (by simp))
   ·simp at h
theorem Dv{b:Bool}{x y:Operand}{va vb r:SX}{u v:Value}(h:GY b x y va vb=some r)(h1:b=true→va.R V u)(h2:b=false→vb.R V v):r.R V (bif b then u else v):=by
 unfold GY at h
 split at h
 · simp only[aj]at h
   obtain⟨p,hp,rfl⟩:=h
   exact oi hp h1 h2
 · simp only[aj]at h
   obtain⟨k,hp,rfl⟩:=h
   cases b
   · obtain⟨us,rfl,g⟩:=h2 rfl
     exact⟨us,rfl,lF (us:=[]) hp (by simp) (fun _=>g)⟩
   · obtain⟨us,rfl,g⟩:=h1 rfl
     exact⟨us,rfl,lF (vs:=[]) hp (fun _=>g) (by simp)⟩
 ·simp at h
theorem sG(r:Rel Γ st V a w){g:Option (Nat×Bool)}(hg:fN a g){s:Nat}{want:Bool}{x:Operand}{v:SX}(h:y9 st g s want x=some v)(hs:a.tmps.getD s undef = .bool want):v.R V (a.eval x):=by
 unfold y9 at h
 split at h
 · rename_i v' he
   simp only[aa]at h;subst h
   exact aJ r (g:=some (s,want)) hs he
 ·exact aJ r hg h
theorem eQ(r:Rel Γ st V a w){g:Option (Nat×Bool)}(hg:fN a g){x:Operand}{n:Int}(h:lW (bt st g x)=some n):∃k,a.eval x = .int k n:=by
 unfold lW at h
 split at h
 · rename_i k m heq
   simp only[aa]at h
   subst h
   have:=aJ r hg heq
   generalize a.eval x=u at this ⊢
   cases this
   exact⟨k,rfl⟩
 ·simp at h
theorem np(r:Rel Γ st V a w){g:Option (Nat×Bool)}(hg:fN a g):∀(l:List Operand) (cs:List RC),oW (l.map (bt st g))=some cs→All2 (RC.R V) cs (l.map a.eval)
 |[],cs,h=>by simp[oW]at h;subst h;exact .nil
 | x :: l,cs,h=>by
   simp only[aq,oW]at h
   split at h
   · rename_i c cs' h1 h2
     simp only[aa]at h;subst h
     simp only[bm]at h1
     obtain⟨sx,h3,h4⟩:=h1
     refine .cons ?_ (np r hg l cs' h2)
     have h5:=aJ r hg h3
     unfold R8 at h4
     split at h4
     ·simp only[aa]at h4;subst h4;exact h5
     ·simp only[aa]at h4;subst h4;exact h5
     ·simp at h4
   ·simp at h
theorem Sf{H:Mem}{p:PD}{v u:Value}(h:p.toV=some v)(hp:PR H p u):u=v:=by
 cases hp <;> simp[PD.toV]at h <;> exact h
theorem xq(r:Rel Γ st V a w){g:Option (Nat×Bool)}(hg:fN a g){x:Option Operand}{b:Option Int}(h:bnd st g x=some b):(b=none∧x.map a.eval=none)∨∃n k,b=some n∧x.map a.eval=some (.int k n):=by
 cases x with
 |none=>simp[bnd]at h;exact .inl ⟨h.symm,rfl⟩
 | some x =>
   simp only[bnd,aj]at h
   obtain⟨n,h1,rfl⟩:=h
   obtain⟨k,h2⟩:=eQ r hg h1
   exact .inr ⟨n,k,rfl,by simp[h2]⟩
theorem xL{α:Type}(r:Rel Γ st V a w){g:Option (Nat×Bool)}(hg:fN a g){lo hi:Option Operand}{bl bh:Option Int}(h1:bnd st g lo=some bl)(h2:bnd st g hi=some bh)(l:List α)(hp:Holds (fv l bl bh).1) :
 ∃x y,Rh (lo.map a.eval) y x∧(∀cap,l.length≤cap→Rf (hi.map a.eval) l.length cap y)∧x≤y∧y≤l.length∧(fv l bl bh).2=(l.take y).drop x:=by
 rcases xq r hg h1 with⟨rfl,e1⟩ |⟨n,k,rfl,e1⟩ <;> rcases xq r hg h2 with⟨rfl,e2⟩ |⟨m,k',rfl,e2⟩ <;> simp only[fv,Holds]at hp ⊢ <;> rw[e1,e2]
 ·exact⟨0,l.length,.inl ⟨rfl,rfl⟩,fun _ _=>.inl ⟨rfl,rfl⟩,by omega,by omega,by simp⟩
 ·exact⟨0,m.toNat,.inl ⟨rfl,rfl⟩,fun cap hc=>.inr ⟨_,_,rfl,hp.1,by omega,rfl⟩,by omega,by omega,by simp⟩
 ·exact⟨n.toNat,l.length,.inr ⟨_,_,rfl,hp.1,hp.2,rfl⟩,fun _ _=>.inl ⟨rfl,rfl⟩,by omega,by omega,by simp⟩
 ·exact⟨n.toNat,m.toNat,.inr ⟨_,_,rfl,hp.1,by omega,rfl⟩,fun cap hc=>.inr ⟨_,_,rfl,by omega,by omega,rfl⟩,by omega,by omega,rfl⟩
theorem RY{l:List (Nat×List PD)}{cells:Array Value}{uss:Nat→List Value}(hc:∀(i:Nat) (q:Nat×List PD),l[i]?=some q→cells[i]?=some (.func (.func q.1) #[] (uss i).toArray)∧(uss i).length=q.2.length):l.length≤cells.size:=by
 by_cases h:l.length=0
 ·omega
 · have hi:l.length - 1<l.length:=by omega
   have:=(Array.getElem?_eq_some_iff.1 (hc _ _ (List.getElem?_eq_getElem hi)).1).1
   omega
theorem s5(r:Rel Γ st V a w){sx:SX}{v:Value}(hv:sx.R V v){p:Option Prop}{cs:List SC}{off:Nat}(h:rowAt st sx=some (p,cs,off))(hp:Holds p) :
 ∃b o0 arr e fr us,v = .pointer (some ⟨b,o0+off,none⟩)∧w.heap[b]?=some (.cells arr e fr)∧(∀(j:Nat) u,us[j]?=some u→arr[o0+j]?=some u)∧All2 (SC.R V) cs us:=by
 unfold rowAt at h
 split at h
 · rename_i i off'
   split at h
   · rename_i cs' e hck
     simp only[aa,ae]at h
     obtain⟨rfl,rfl,rfl⟩:=h
     obtain⟨us,h1,h2⟩:=r.wok.own i _ hck
     exact⟨V.σ i,0,_,_,_,us,by rw[ba];exact hv,h1,fun j u hu=>by simpa using hu,h2⟩
   ·simp at h
 · rename_i t x off'
   simp only[aa,ae]at h
   obtain⟨rfl,rfl,rfl⟩:=h
   cases hv with
   | ref _ _ _ b o0 cells e fr hb hs hc =>
     refine⟨b,o0,cells,e,fr,(cells.toList.drop o0).take t.size,rfl,r.wok.imm _ _ hb,?_,?_⟩
     · intro j u hu
       rw[List.getElem?_take]at hu
       split at hu
       ·rw[List.getElem?_drop]at hu;simpa using hu
       ·cases hu
     · refine All2.of (by simp[t.enc_length];omega) fun i p u hp hu=>?_
       simp only[List.getElem?_map,aj]at hp
       obtain⟨p',hp',rfl⟩:=hp
       refine hc i p' hp' u ?_
       rw[List.getElem?_take]at hu
       split at hu
       ·rw[List.getElem?_drop]at hu;simpa using hu
       ·cases hu
 · rename_i i j sz off'
   split at h
   · rename_i e t l hck
     cases hb:Nat.beq sz t.size
     ·rw[hb]at h;simp at h
     · rw [hb]at h
       simp only[cond_true,aa,ae]at h
       obtain⟨rfl,rfl,rfl⟩:=h
       have hsz:=ak hb
       simp only[Holds]at hp
       obtain⟨xs,h1,h2,h3⟩:=r.wok.own i _ hck
       rcases h1.2 with⟨_,h4⟩ |⟨g,cap,cur,q1,q2,q3,q4,q5,q6,q7⟩
       ·omega
       · have hs:V.σ i=g:=h3 g (by rw[q1];rfl)
         have hjl:j * t.size+t.size≤l.length * t.size:=by rw[←Nat.succ_mul];exact bQ _ hp
         refine⟨g,j * t.size,cur,e,(0,0),(xs.drop (j * t.size)).take t.size,by rw[←hs,←hsz];exact hv,q3,?_,?_⟩
         · intro k u hu
           rw[List.getElem?_take]at hu
           split at hu
           · rw[List.getElem?_drop,←q7,List.getElem?_take]at hu
             split at hu
             ·simpa using hu
             ·cases hu
           ·cases hu
         · refine All2.of (by simp[t.enc_length,h1.1];omega) fun k p u hp' hu=>?_
           simp only[List.getElem?_map,aj]at hp'
           obtain⟨p',hp',rfl⟩:=hp'
           have h5:=mX (ETy.getElem?_get hp) hp'
           obtain⟨u',h6,h7⟩:=h2.get h5
           rw[List.getElem?_take]at hu
           split at hu
           · rw[List.getElem?_drop]at hu
             rw[hu]at h6
             simp only[aa]at h6
             subst h6;exact h7
           ·cases hu
   ·simp at h
 · rename_i l k
   simp only[aa,ae]at h
   obtain⟨rfl,rfl,rfl⟩:=h
   cases hv with
   | fnAt _ _ b cells e fr uss hb hc hh =>
     have hlen:l.length≤cells.size:=RY hc
     refine⟨b,0,cells,e,fr,cells.toList.take l.length,by rw[ba],r.wok.imm _ _ hb,?_,?_⟩
     · intro j u hu
       rw[List.getElem?_take]at hu
       split at hu
       ·simpa using hu
       ·cases hu
     · refine All2.of (by simp;omega) fun i s u hs hu=>?_
       simp only[List.getElem?_map,aj]at hs
       obtain⟨q,hq,rfl⟩:=hs
       rw[List.getElem?_take]at hu
       split at hu
       · have h1:=(hc i q hq).1
         have h2:cells[i]?=some u:=by simpa using hu
         rw[h1]at h2
         simp only[aa]at h2
         exact⟨[],uss i,h2.symm,.nil,by rw[All2.map_left];exact All2.of (hc i q hq).2.symm fun j p w hp hw=>hh i q hq j p hp w hw⟩
       ·cases hu
 ·simp at h
end
end Go.Ev
