/- An executor for function bodies of the model over data, part PC: one operation that only computes or reads. Conditions: each operation's own, told as a proposition. -/
import Derived.Test.YtcopfgbbjdefbaaGreatDoorPB
import Derived.Laws.StructEq
namespace Go.Ev
open Go.RowKit
variable (P:Program) (b:Nat) (st:ST)
def Ak (t:TypeId):Option Bool :=
 match P.underlying t with
 | some (.struct _) | some (.array _ _)=>some true
 | some _=>some false
 | none=>none
def eM (t:TypeId):Option Nat:=(P.info? t).map (·.size)
def nN (t:TypeId) (i:Nat):Option Field :=
 match P.underlying t with
 | some (.struct fs)=>fs[i]?
 | _=>none
def partOf (t:TypeId) (cs:List SC) (off:Nat):Option SX :=
 match Ak P t,eM P t with
 | some true,some n=>bif Nat.ble (off+n) cs.length then some (.agg ((cs.drop off).take n)) else none
 | some false,some _=>(cs[off]?).map .c
 | _,_=>none
theorem kj {P:Program} {w:World} {t:TypeId} {b:Bool} (h:Ak P t=some b):(isAgg t).run P w = .ok b w:=by
 unfold Ak at h
 split at h
 · rename_i fs hu; simp at h; subst h; simp [isAgg,run_underlying hu,pure,Sem.run]
 · rename_i n e hu; simp at h; subst h; simp [isAgg,run_underlying hu,pure,Sem.run]
 · rename_i d hn1 hn2 hu
   simp only [aa] at h
   subst h
   simp only [isAgg,Sem.run_bind,run_underlying hu,Result.andThen_ok]
   rfl
 · simp at h
theorem ez {P:Program} {w:World} {t:TypeId} {n:Nat} (h:eM P t=some n):(sizeOf t).run P w = .ok n w:=by
 unfold eM at h
 simp only [al] at h
 obtain ⟨i,hi,rfl⟩:=h
 simp [sizeOf,typeInfo,hi,go_sem]
theorem iN {P:Program} {w:World} {V:Vn} {t:TypeId} {cs:List SC} {us:List Value} {off:Nat} {sx:SX} (hu:All2 (SC.R V) cs us) (h:partOf P t cs off=some sx) :
 ∃ v,(part t us.toArray off).run P w = .ok v w∧sx.R V v:=by
 unfold partOf at h
 split at h
 · rename_i n h1 h2
   cases hb:Nat.ble (off+n) cs.length
   · rw [hb] at h; simp at h
   · rw [hb] at h
     simp only [cond_true,aa] at h
     subst h
     refine ⟨.agg ((us.drop off).take n).toArray,?_,_,rfl,(hu.drop off).take n⟩
     simp only [part,Sem.run_bind,kj h1,Result.andThen_ok,if_true,ez h2]
     show Result.ok _ w=_
     simp only [List.extract_toArray,List.extract_eq_take_drop,Result.ok.injEq,Value.agg.injEq,and_true]
     rw [show off+n - off=n from by omega]
 · rename_i n h1 h2
   simp only [al] at h
   obtain ⟨sc,h3,rfl⟩:=h
   obtain ⟨u,h4,h5⟩:=hu.get h3
   refine ⟨u,?_,h5⟩
   simp [part,kj h1,h4,pure,Sem.run]
 · simp at h
theorem addr_add (off n:Nat):(⟨b,off,none⟩:Addr).add n=⟨b,off+n,none⟩:=by
 unfold Addr.add; split
 · rename_i h; subst h; rfl
 · rfl
theorem run_loadCellsFrom {P:Program} {w:World} (a:Addr) (hs:a.spot=none):∀ (n i:Nat) (acc:Array Value) (l:List Value),l.length=n→(∀ j u,l[j]?=some u→w.cell? ⟨a.block,a.off+(i+j),none⟩=some u) →
 (loadCellsFrom a i n acc).run P w = .ok (acc++l.toArray) w
 | 0,i,acc,l,hl,_=>by
   have:l=[]:=bb hl
   subst this
   simp [loadCellsFrom,pure,Sem.run]
 | n + 1,i,acc,l,hl,hc=>by
   cases l with
   | nil=>simp at hl
   | cons v l =>
     have h0:=hc 0 v rfl
     have hadd:a.add i=⟨a.block,a.off+i,none⟩:=by
      cases a; simp only at hs; subst hs; exact addr_add _ _ _
     have ih:=run_loadCellsFrom (P:=P) (w:=w) a hs n (i+1) (acc.push v) l (by simpa using hl) (fun j u hj=>by
      have:=hc (j+1) u (by simpa using hj)
      rw [show i+1+j=i+(j+1) from by omega]; exact this)
     simp only [loadCellsFrom,Sem.run_bind]
     have hl':(load (a.add i)).run P w = .ok v w:=by
      simp only [load,Sem.run,hadd]
      rw [show a.off+i=a.off+(i+0) from rfl,h0]
     rw [hl']
     simp only [Result.andThen_ok]
     rw [ih]
     simp
theorem kY {P:Program} {w:World} {V:Vn} {t:TypeId} {b o0 off:Nat} {arr:Array Value} {e:TypeId} {fr:Nat×Nat} {cs:List SC} {us:List Value} {sx:SX}
 (hw:w.heap[b]?=some (.cells arr e fr)) (hus:∀ j u,us[j]?=some u→arr[o0+j]?=some u) (hu:All2 (SC.R V) cs us) (h:partOf P t cs off=some sx) :
 ∃ v,(loadVar t ⟨b,o0+off,none⟩).run P w = .ok v w∧sx.R V v:=by
 unfold partOf at h
 split at h
 · rename_i n h1 h2
   cases hb:Nat.ble (off+n) cs.length
   · rw [hb] at h; simp at h
   · rw [hb] at h
     simp only [cond_true,aa] at h
     subst h
     have hle:=aq hb
     have hlen:=hu.length
     have hl:=run_loadCellsFrom (P:=P) (w:=w) ⟨b,o0+off,none⟩ rfl n 0 #[] ((us.drop off).take n) (by simp; omega) (fun j u hj=>by
      simp only [List.getElem?_take,List.getElem?_drop] at hj
      split at hj
      · have:=hus _ _ hj
        simp only [World.cell?,hw]
        rw [show o0+off+(0+j)=o0+(off+j) from by omega,this]; rfl
      · simp at hj)
     refine ⟨.agg ((us.drop off).take n).toArray,?_,_,rfl,(hu.drop off).take n⟩
     simp only [loadVar,Sem.run_bind,kj h1,Result.andThen_ok,if_true,ez h2,loadCells,hl]
     simp [pure,Sem.run]
 · rename_i n h1 h2
   simp only [al] at h
   obtain ⟨sc,h3,rfl⟩:=h
   obtain ⟨u,h4,h5⟩:=hu.get h3
   refine ⟨u,?_,h5⟩
   have h6:w.cell? ⟨b,o0+off,none⟩=some u:=by simp [World.cell?,hw,hus _ _ h4]
   simp only [loadVar,Sem.run_bind,kj h1,Result.andThen_ok,Bool.false_eq_true,if_false,load,Sem.run,h6]
 · simp at h
/-! ### the operations -/
def ta (g:Option (Nat×Bool)) (s:Nat) (want:Bool) (x:Operand):Option SX :=
 match bw st (some (s,want)) x with
 | some v=>some v
 | none=>bw st g x
def tm (b:Bool) (x y:Operand) (p q:PD):Option PD :=
 match p,q with
 | .bool p,.bool q =>
   match x,y with
   | .const _,_=>some (.bool (bif p then b||q else bif b then p else q))
   | _,.const _=>some (.bool (bif q then bif b then p else q else b&&p))
   | _,_=>some (.bool (bif b then p else q))
 | .int k n,.int k' m=>bif k==k' then some (.int k (bif b then n else m)) else none
 | .str s,.str u=>some (.str (bif b then s else u))
 | .lst t l,.lst t' l'=>if h:t'=t then some (.lst t (bif b then l else h ▸ l')) else none
 | _,_=>none
def qg (b:Bool):List SC→List SC→Option (List SC)
 | [],[]=>some []
 | .pd p::l,.pd q::m=>match tm b (.tmp 0) (.tmp 0) p q,qg b l m with
   | some r,some k=>some (.pd r::k)
   | _,_=>none
 | _,_=>none
def AC (b:Bool) (x y:Operand) (va vb:SX):Option SX :=
 match va,vb with
 | .c (.pd p),.c (.pd q)=>(tm b x y p q).map fun r=>.c (.pd r)
 | .agg l,.agg m=>(qg b l m).map .agg
 | _,_=>none
def jf:Option SX→Option Int
 | some (.c (.pd (.int _ n)))=>some n
 | _=>none
def bnd (g:Option (Nat×Bool)):Option Operand→Option (Option Int)
 | none=>some none
 | some x=>(jf (bw st g x)).map some
def dM {α:Type} (l:List α) (lo hi:Option Int):Option Prop×List α :=
 match lo,hi with
 | none,none=>(none,l)
 | some n,none=>(some (0≤n∧n≤l.length),l.drop n.toNat)
 | none,some m=>(some (0≤m∧m≤l.length),l.take m.toNat)
 | some n,some m=>(some (0≤n∧n≤m∧m≤l.length),(l.take m.toNat).drop n.toNat)
def ax (l:Str):Int:=l.length
def IT:SX→Option RC
 | .c (.pd p)=>some (.pd p)
 | .c (.loc i off)=>some (.loc i off)
 | _=>none
def lA:List (Option SX)→Option (List RC)
 | []=>some []
 | x::r=>match x.bind IT,lA r with
   | some a,some l=>some (a::l)
   | _,_=>none
def PD.toV:PD→Option Value
 | .int k n=>some (.int k n)
 | .bool b=>some (.bool b)
 | .str s=>some (.string (bs s))
 | .v x=>some x
 | _=>none
def JG (q:Nat×List PD):SC:=.fn (.func q.1) [] (q.2.map .pd)
def rowAt:SX→Option (Option Prop×List SC×Nat)
 | .c (.loc i off)=>match st.ck[i]? with
   | some (.cells cs _)=>some (none,cs,off)
   | _=>none
 | .c (.pd (.ref t x off))=>some (none,(t.enc x).map .pd,off)
 | .c (.oat i j sz off)=>match st.ck[i]? with
   | some (.own _ t l)=>bif Nat.beq sz t.size then some (some (j<l.length),(t.enc (t.get l j)).map .pd,off) else none
   | _=>none
 | .c (.pd (.fnAt l k))=>some (none,l.map JG,k)
 | _=>none
def sV:SC→Option (List Int)
 | .pd (.lst .byte a)=>some a
 | _=>none
def Ds (t:TypeId) (cs:List SC):Option (List Int×List Int) :=
 match cs with
 | [x,y]=>match sV x,sV y,Ak P t,eM P t with
   | some a,some b,some false,some _=>some (a,b)
   | _,_,_,_=>none
 | _=>none
theorem tW {x:SC} {a:List Int} (h:sV x=some a):x = .pd (.lst .byte a):=by
 unfold sV at h
 split at h
 · simp only [aa] at h; subst h; rfl
 · cases h
theorem Cg {P:Program} {t:TypeId} {cs:List SC} {ab:List Int×List Int} {off:Nat} (h:Ds P t cs=some ab) (ho:off<2) :
 partOf P t cs off=some (.c (.pd (.lst .byte (bif Nat.beq off 0 then ab.1 else ab.2)))):=by
 unfold Ds at h
 split at h
 · rename_i x y
   split at h
   · rename_i a b n hx hy h1 h2
     simp only [aa] at h
     subst h
     have ex:=tW hx
     have ey:=tW hy
     subst ex; subst ey
     unfold partOf
     rw [h1,h2]
     match off,ho with
     | 0,_=>rfl
     | 1,_=>rfl
   · cases h
 · cases h
def eqP (t:TypeId) (p q:PD):Option Bool :=
 match P.underlying t,p,q with
 | some (.int _),.int k a,.int k' b=>bif k==k' then some (a==b) else none
 | some .string,.str a,.str b=>some (a==b)
 | some .bool,.bool a,.bool b=>some (a==b)
 | _,_,_=>none
def n9 (P:Program) (cs ds:List SC):List Field→Option Bool
 | []=>some true
 | f::fs=>bif f.name != "_" then
    match partOf P f.type cs f.offset,partOf P f.type ds f.offset with
    | some (.c (.pd p)),some (.c (.pd q))=>match eqP P f.type p q,n9 P cs ds fs with
      | some b,some r=>some (match fs with | []=>b | _=>b&&r)
      | _,_=>none
    | _,_=>none
   else none
def EC (t:TypeId):SX→SX→Option Bool
 | .c (.pd p),.c (.pd q)=>eqP P t p q
 | .agg cs,.agg ds=>match P.underlying t with
   | some (.struct gs)=>bif !P.stoodInHeld t then n9 P cs ds gs.toList else none
   | _=>none
 | _,_=>none
def qT (P:Program) (cs ds:List SC):List Field→Option Bool
 | []=>some true
 | f::fs=>bif f.name != "_" then
    match partOf P f.type cs f.offset,partOf P f.type ds f.offset with
    | some x,some y=>match EC P f.type x y,qT P cs ds fs with
      | some b,some r=>some (match fs with | []=>b | _=>b&&r)
      | _,_=>none
    | _,_=>none
   else none
def sY (t:TypeId) (cs ds:List SC):Option Bool :=
 match P.underlying t with
 | some (.struct fs)=>bif !P.stoodInHeld t && !P.eqGuardType P.depth t then qT P cs ds fs.toList else none
 | _=>none
def ux:Int:=((FloatKind.f64.decode b).toInt .zero).getD 0
def Bi (k:IntKind) (b:Nat):Prop:=(FloatKind.f64.decode b).toInt .zero=some (ux b)∧k.min≤ux b∧ux b≤k.max
def opV (g:Option (Nat×Bool)):Op→Option (Option Prop×SX)
 | .move x | .assign x=>(bw st g x).map fun sx=>(none,sx)
 | .pick c x y =>
   match c with
   | .tmp s=>match bw st g c,ta st g s true x,ta st g s false y with
     | some (.c (.pd (.bool b))),some va,some vb=>(AC b x y va vb).map fun r=>(none,r)
     | _,_,_=>none
   | _=>none
 | .binOp op t x y _=>match bw st g x,bw st g y with
   | some (.c (.pd v)),some (.c (.pd u))=>match vj P op t y v with
     | some r=>some (none,.c (.pd r))
     | none=>(gU P op t v u).map fun pv=>(pv.1,.c (.pd pv.2))
   | some (.agg cs),some (.agg ds)=>match op with
     | .eql=>(sY P t cs ds).map fun b=>(none,.c (.pd (.bool b)))
     | .neq=>(sY P t cs ds).map fun b=>(none,.c (.pd (.bool (!b))))
     | _=>none
   | _,_=>none
 | .unOp op _ x=>match op,bw st g x with
   | .not,some (.c (.pd (.bool b)))=>some (none,.c (.pd (.bool (!b))))
   | .neg,some (.c (.pd (.int k n)))=>some (none,.c (.pd (.int k (k.wrap (0 - n)))))
   | _,_=>none
 | .convert src dst x=>match P.underlying src,P.underlying dst,bw st g x with
   | some _,some (.int k),some (.c (.pd (.int _ n)))=>some (none,.c (.pd (.int k (k.wrap n))))
   | some _,some .string,some (.c (.pd (.str s)))=>some (none,.c (.pd (.str s)))
   | some _,some (.float .f64),some (.c (.pd (.int _ n)))=>some (none,.c (.pd (.fl (some (FloatKind.f64.nearest n)))))
   | some _,some (.int k),some (.c (.pd (.fl (some b))))=>some (some (Bi k b),.c (.pd (.int k (ux b))))
   | _,_,_=>none
 | .extract x i=>match qb st x with
   | some l=>(l[i]?).map fun v=>(none,v)
   | none=>none
 | .field t x i=>match bw st g x,nN P t i with
   | some (.agg cs),some fd=>(partOf P fd.type cs fd.offset).map fun r=>(none,r)
   | _,_=>none
 | .fieldAddr t x i=>match bw st g x,nN P t i with
   | some (.c s),some fd=>match eM P fd.type with
     | some (_+1)=>match s with
       | .loc j off=>some (none,.c (.loc j (off+fd.offset)))
       | .pd (.ref ty r off)=>some (none,.c (.pd (.ref ty r (off+fd.offset))))
       | .oat j k sz off=>some (none,.c (.oat j k sz (off+fd.offset)))
       | _=>none
     | _=>none
   | _,_=>none
 | .load t x=>match (bw st g x).bind (rowAt st) with
   | some (p,cs,off)=>match Ds P t cs with
     | some ab=>some (some (Holds p∧off<2),.c (.pd (.lst .byte (bif Nat.beq off 0 then ab.1 else ab.2))))
     | none=>(partOf P t cs off).map fun r=>(p,r)
   | none=>none
 | .index t x i=>match bw st g x,P.underlying t,jf (bw st g i) with
   | some (.c (.pd (.str s))),some .string,some n=>some (some (0≤n∧n<ax s),.c (.pd (.int .u8 (s.getD n.toNat 0).toNat)))
   | some (.agg cs),some (.array len e),some n=>match eM P e with
     | some sz=>(partOf P e cs (n.toNat * sz)).map fun r=>(some (0≤n∧n<len),r)
     | none=>none
   | _,_,_=>none
 | .slice t x lo hi none=>match bw st g x,P.underlying t,bnd st g lo,bnd st g hi with
   | some (.c (.pd (.str s))),some .string,some lo,some hi=>some ((dM s lo hi).1,.c (.pd (.str (dM s lo hi).2)))
   | some (.c (.pd (.lst ty l))),some (.slice e),some lo,some hi=>match eM P e with
     | some n=>bif Nat.beq n ty.size then some ((dM l lo hi).1,.c (.pd (.lst ty (dM l lo hi).2))) else none
     | none=>none
   | _,_,_,_=>none
 | .call { callee:=.builtin .real,args:=args,argTypes:=_ } =>
   match args.toList with
   | [x]=>match bw st g x with
     | some (.c (.pd (.cx o)))=>some (none,.c (.pd (.fl (o.map (·.1)))))
     | _=>none
   | _=>none
 | .call { callee:=.builtin .imag,args:=args,argTypes:=_ } =>
   match args.toList with
   | [x]=>match bw st g x with
     | some (.c (.pd (.cx o)))=>some (none,.c (.pd (.fl (o.map (·.2)))))
     | _=>none
   | _=>none
 | .call { callee:=.builtin .min,args:=args,argTypes:=_ } =>
   match args.toList with
   | [x,y]=>match bw st g x,bw st g y with
     | some (.c (.pd (.int k a))),some (.c (.pd (.int _ b)))=>some (none,.c (.pd (.int k (if b<a then b else a))))
     | _,_=>none
   | _=>none
 | .call { callee:=.builtin .max,args:=args,argTypes:=_ } =>
   match args.toList with
   | [x,y]=>match bw st g x,bw st g y with
     | some (.c (.pd (.int k a))),some (.c (.pd (.int _ b)))=>some (none,.c (.pd (.int k (if b>a then b else a))))
     | _,_=>none
   | _=>none
 | .call { callee:=.builtin .complex,args:=args,argTypes:=_ } =>
   match args.toList with
   | [x,y]=>match bw st g x,bw st g y with
     | some (.c (.pd (.fl o))),some (.c (.pd (.fl o')))=>some (none,.c (.pd (.cx (o.bind fun a=>o'.map fun b=>(a,b)))))
     | _,_=>none
   | _=>none
 | .call { callee:=.builtin .len,args:=args,argTypes:=ts } =>
   match args.toList,ts.toList with
   | [x],[t]=>match bw st g x,P.underlying t with
     | some (.c (.pd (.str s))),some .string=>some (none,.c (.pd (.int .i64 (ax s))))
     | some (.c (.pd (.lst _ l))),some (.slice _)=>some (none,.c (.pd (.int .i64 (l.length:Int))))
     | some (.c (.pd (.v (.slice none 0 0)))),some (.slice _)=>some (none,.c (.pd (.int .i64 0)))
     | some (.c (.own i)),some (.slice _)=>match st.ck[i]? with
       | some (.own _ _ l)=>some (none,.c (.pd (.int .i64 (l.length:Int))))
       | _=>none
     | some (.c (.pd (.fns l))),some (.slice _)=>some (none,.c (.pd (.int .i64 (l.length:Int))))
     | _,_=>none
   | _,_=>none
 | .indexAddr t x i=>match bw st g x,P.underlying t,jf (bw st g i) with
   | some (.c (.pd (.lst ty l))),some (.slice e),some j=>match eM P e with
     | some sz=>bif Nat.beq sz ty.size then some (some (0≤j∧j<l.length),.c (.pd (.ref ty (ty.get l j.toNat) 0))) else none
     | none=>none
   | some (.c (.own k)),some (.slice e),some j=>match eM P e,st.ck[k]? with
     | some sz,some (.own _ ty l)=>bif Nat.beq sz ty.size then some (some (0≤j∧j<l.length),.c (.oat k j.toNat sz 0)) else none
     | _,_=>none
   | some (.c (.loc k off)),some (.array n e),some j=>match eM P e with
     | some sz=>some (some (0≤j∧j<(n:Int)),.c (.loc k (off+j.toNat * sz)))
     | none=>none
   | some (.c (.pd (.fns l))),some (.slice e),some j=>match eM P e with
     | some sz=>bif Nat.beq sz 1 then some (some (0≤j∧j<l.length),.c (.pd (.fnAt l j.toNat))) else none
     | none=>none
   | _,_,_=>none
 | .makeInterface t x=>match bw st g x,P.underlying t with
   | some (.c (.pd p)),some d=>match d,p.toV with
     | .interface _,_=>none
     | _,some v=>some (none,.c (.pd (.v (.iface t v))))
     | _,_=>none
   | _,_=>none
 | .makeFunc fn first cap=>match lA (first.toList.map (bw st g)),lA (cap.toList.map (bw st g)) with
   | some x,some y=>some (none,.c (.fn fn x y))
   | _,_=>none
 | .nilCheck x=>match bw st g x with
   | some (.c s)=>match s with
     | .loc i off=>some (none,.c (.loc i off))
     | .oat i j sz off=>some (none,.c (.oat i j sz off))
     | .pd (.ref t x off)=>some (none,.c (.pd (.ref t x off)))
     | .fn (.func f) x y=>some (none,.c (.fn (.func f) x y))
     | _=>none
   | _=>none
 | _=>none
end Go.Ev
