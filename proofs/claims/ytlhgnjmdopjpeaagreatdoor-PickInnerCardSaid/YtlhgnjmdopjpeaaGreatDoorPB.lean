/- An executor for function bodies of the model over data, part PA: symbolic states, and what they say of frames and worlds. Conditions: none. An executor for function bodies of the model over data, part PB: operators, and what they come to. Conditions: each operation's own, told as a proposition. -/
import Derived.Test.YtlhgnjmdopjpeaaGreatDoorTy
namespace Go.Ev
open Go.RowKit
inductive RC where
 |pd (p:PD)
 |loc (i off:Nat)
deriving Inhabited
inductive SC where
 |pd (p:PD)
 |loc (i off:Nat)
 |own (i:Nat)
 |oat (i j sz off:Nat)
 |fn (f:Fn) (first cap:List RC)
deriving Inhabited
inductive SX where
 |c (s:SC)
 |agg (cs:List SC)
deriving Inhabited
inductive SV where
 |x (s:SX)
 |tup (l:List SX)
 |grd (s:Nat) (want:Bool) (v:SX)
deriving Inhabited
inductive Ob where
 |set (es:List (Int×Nat)) (clk:Nat)
 |it (j:Nat) (done:List (Int×Nat)) (clk:Nat)
deriving Inhabited
inductive Chunk where
 |obj (o:Ob)
 |dead
 |cells (cs:List SC) (e:TypeId)
 |own (e:TypeId) (t:ETy) (l:List t.den)
deriving Inhabited
structure ST where
 n:Nat
 fr:List (Nat×SV)
 ck:List Chunk
 kn:List Nat:=[]     -- slots that hold a truth that is written out
 m:Nat:=0            -- how many blocks the caller lent
deriving Inhabited
abbrev SC.i(n:Int):SC:=.pd (.int .i64 n)
abbrev SV.i(n:Int):SV:=.x (.c (.pd (.int .i64 n)))
abbrev SV.p(p:PD):SV:=.x (.c (.pd p))
structure Vn where
 H:Mem
 σ:Nat→Nat
 ov:Nat→Value
def RC.R(V:Vn):RC→Value→Prop
 |.pd p,u=>PR V.H p u
 |.loc i off,u=>u = .pointer (some ⟨V.σ i,off,none⟩)
def SC.R(V:Vn):SC→Value→Prop
 |.pd p,u=>PR V.H p u
 |.loc i off,u=>u = .pointer (some ⟨V.σ i,off,none⟩)
 |.own i,u=>u=V.ov i
 |.oat i j sz off,u=>u = .pointer (some ⟨V.σ i,j * sz+off,none⟩)
 |.fn f a b,u=>∃ua ub,u = .func f ua.toArray ub.toArray∧All2 (RC.R V) a ua∧All2 (RC.R V) b ub
def SX.R(V:Vn):SX→Value→Prop
 |.c s,u=>s.R V u
 |.agg cs,u=>∃us,u = .agg us.toArray∧All2 (SC.R V) cs us
def cO(V:Vn)(a:Act)(t:Nat):SV→Prop
 |.x s=>s.R V (a.tmps.getD t undef)
 |.tup l=>∃us,a.tmps.getD t undef = .tuple us.toArray∧All2 (SX.R V) l us
 |.grd s want v=>(a.tmps.getD s undef = .bool want→v.R V (a.tmps.getD t undef))∧(¬a.tmps.getD s undef = .bool want→a.tmps.getD t undef=undef)
def Ob.mem(V:Vn):Ob→Obj
 |.set es clk=>.map (es.map fun e=>{key:=.int .i64 e.1,val:=.bool true,born:=e.2}).toArray clk
 |.it j done clk=>.mapIter (some (V.σ j)) clk (done.reverse.map (·.2)).toArray clk
def Chunk.blk(V:Vn)(i:Nat):Chunk→Option Nat
 |.obj _=>some (V.σ i)
 |.dead=>none
 |.cells _ _=>some (V.σ i)
 |.own _ _ _=>(V.ov i).ownBlock
def Chunk.holds(V:Vn)(w:World)(i:Nat):Chunk→Prop
 |.obj o=>w.heap[V.σ i]?=some (o.mem V)∧V.ov i = .map (some (V.σ i))
 |.dead=>True
 |.cells cs e=>∃us,w.heap[V.σ i]?=some (.cells us.toArray e (0,0))∧All2 (SC.R V) cs us
 |.own e t l=>∃xs,w.ownsRow 0 e t.size (V.ov i) l.length xs∧All2 (PR V.H) (l.flatMap t.enc) xs∧∀b,(V.ov i).ownBlock=some b→V.σ i=b
structure Ctx where
 w0:World
 M:Nat→Prop
 H0:Mem
 m:Nat
 σ0:Nat→Nat
 ov0:Nat→Value
 ds:List Nat:=[]     -- blocks for the deferred calls of rounds,of the loops behind it
 alt:Ending→World→Prop:=fun _ _=>False     -- what else a call may end with
def Ctx.base(Γ:Ctx):Ctx :=
 match Γ.ds with
 |[]=>Γ
 |D::ds=>{Γ with ds:=[],H0:=fun k=>if k∈D::ds then none else Γ.H0 k}
def Sx(D:Nat):Deferred:={target:=.collected D,args:=#[]}
structure DefOk (Γ:Ctx) (l:List Deferred):Prop where
 eq:l=Γ.ds.map Sx
 nodup:Γ.ds.Nodup
 at':∀D∈Γ.ds,Γ.H0 D=some (.deferred (some []))∧Γ.w0.heap.size≤D
theorem DefOk.nil{Γ:Ctx}(h:Γ.ds=[]):DefOk Γ []:=⟨by rw[h];rfl,by rw[h];exact .nil,by rw[h];intro D hD;cases hD⟩
structure Fr (M:Nat→Prop) (w w':World):Prop where
 os:w'.os=w.os
 tape:w'.tape=w.tape
 output:w'.output=w.output
 size:w.heap.size≤w'.heap.size
 block:∀k,k<w.heap.size→¬M k→w'.heap[k]?=w.heap[k]?
theorem Fr.refl(M:Nat→Prop)(w:World):Fr M w w:=⟨rfl,rfl,rfl,av _,fun _ _ _=>rfl⟩
structure WOk (Γ:Ctx) (ck:List Chunk) (V:Vn) (w:World):Prop where
 ext:Fr Γ.M Γ.w0 w
 imm:HIn V.H w
 hle:HLe Γ.H0 V.H
 frz:∀k,V.H k≠none→Γ.H0 k≠none∨Γ.w0.heap.size≤k∨Γ.M k
 agr:∀i,i<Γ.m→V.σ i=Γ.σ0 i∧V.ov i=Γ.ov0 i
 own:∀(i:Nat) (c:Chunk),ck[i]?=some c→c.holds V w i
 base:∀(i:Nat) (c:Chunk) (b:Nat),ck[i]?=some c→c.blk V i=some b→(Γ.w0.heap.size≤b∨Γ.M b)∧V.H b=none
 inj:∀(i j:Nat) (c d:Chunk) (b:Nat),ck[i]?=some c→ck[j]?=some d→c.blk V i=some b→d.blk V j=some b→i=j
structure Rel (Γ:Ctx) (st:ST) (V:Vn) (a:Act) (w:World):Prop where
 size:a.tmps.size=st.n
 defers:DefOk Γ a.defers
 slots:∀t sv,(t,sv)∈st.fr→cO V a t sv
 wok:WOk Γ st.ck V w
 few:Γ.m≤st.m∧st.m≤st.ck.length
def lookup:List (Nat×SV)→Nat→Option SV
 |[],_=>none
 |p::r,n=>bif Nat.beq p.1 n then some p.2 else lookup r n
def SV.onSlot(d:Nat):SV→Bool
 |.grd s _ _=>Nat.beq s d
 |_=>false
def bH(d:Nat)(sv:SV):List (Nat×SV)→List (Nat×SV)
 |[]=>[(d,sv)]
 |p::r=>bif Nat.beq p.1 d then(d,sv)::r.filter (fun q=>!q.2.onSlot d && !Nat.beq q.1 d)else bif p.2.onSlot d then bH d sv r else p::bH d sv r
def kW(d:Nat)(fr:List (Nat×SV)):List (Nat×SV):=fr.filter fun q=>!q.2.onSlot d && !Nat.beq q.1 d
theorem cT{fr:List (Nat×SV)}{t:Nat}{sv:SV}(h:lookup fr t=some sv):(t,sv)∈fr:=by
 induction fr with
 |nil=>simp[lookup]at h
 | cons p r ih =>
   unfold lookup at h
   cases hb:Nat.beq p.1 t
   ·rw[hb]at h;exact aD _ (ih h)
   · rw[hb]at h
     have e1:=ak hb
     simp only[cond_true,aa]at h
     subst e1;subst h
     exact az
theorem DS{d:Nat}{sv:SV}{fr:List (Nat×SV)}{t:Nat}{sv':SV}(h:(t,sv')∈bH d sv fr) :
 (t=d∧sv'=sv)∨((t,sv')∈fr∧sv'.onSlot d=false∧t≠d):=by
 induction fr with
 |nil=>simp[bH]at h;exact .inl h
 | cons p r ih =>
   unfold bH at h
   cases hb:Nat.beq p.1 d
   · rw [hb]at h
     simp only[cond_false]at h
     have hne:p.1≠d:=by intro e;rw[e]at hb;simp at hb
     cases ho:p.2.onSlot d
     · rw[ho]at h
       simp only[cond_false,aI]at h
       rcases h with h |h
       ·subst h;exact .inr ⟨az,ho,hne⟩
       · rcases ih h with h |⟨h1,h2,h3⟩
         ·exact .inl h
         ·exact .inr ⟨aD _ h1,h2,h3⟩
     · rw[ho]at h
       simp only[cond_true]at h
       rcases ih h with h |⟨h1,h2,h3⟩
       ·exact .inl h
       ·exact .inr ⟨aD _ h1,h2,h3⟩
   · rw[hb]at h
     simp only[cond_true,aI,ae]at h
     rcases h with h |h
     ·exact .inl h
     · rw[aH]at h
       obtain⟨h1,h2⟩:=h
       simp only[af,aK]at h2
       exact .inr ⟨aD _ h1,h2.1,fun e=>by rw[e]at h2;simp at h2⟩
theorem pz(a:Array Value)(d t:Nat)(v:Value)(h:d<a.size):(a.setIfInBounds d v).getD t undef=if t=d then v else a.getD t undef:=by
 simp only[Array.getD_eq_getD_getElem?,Array.getElem?_setIfInBounds]
 by_cases e:d=t
 ·subst e;simp[h]
 ·simp[e,Ne.symm e]
theorem cO.of_eq{V:Vn}{a a':Act}{t:Nat}{sv:SV}(h:cO V a t sv)(h1:a'.tmps.getD t undef=a.tmps.getD t undef)(h2:∀s b v,sv = .grd s b v→a'.tmps.getD s undef=a.tmps.getD s undef):cO V a' t sv:=by
 cases sv with
 |x s=>show s.R V _;rw[h1];exact h
 |tup l=>show ∃us,a'.tmps.getD t undef=_∧_;rw[h1];exact h
 | grd s b v =>
   show(a'.tmps.getD s undef=_→v.R V (a'.tmps.getD t undef))∧(¬a'.tmps.getD s undef=_→a'.tmps.getD t undef=undef)
   rw[h1,h2 s b v rfl];exact h
section
variable{Γ:Ctx}{st:ST}{V:Vn}{a:Act}{w:World}
theorem Rel.put(r:Rel Γ st V a w)(d:Nat)(sv:SV)(v:Value)(hd:d<st.n)(hv:∀a':Act,(∀t,t≠d→a'.tmps.getD t undef=a.tmps.getD t undef)→a'.tmps.getD d undef=v→cO V a' d sv) :
 Rel Γ {st with fr:=bH d sv st.fr} V (a.put (some d) v) w:=by
 have hs:d<a.tmps.size:=by rw[r.size];exact hd
 have hget:∀t,(a.put (some d) v).tmps.getD t undef=if t=d then v else a.tmps.getD t undef:=fun t=>pz _ _ _ _ hs
 refine{size:=?_,defers:=r.defers,slots:=?_,wok:=r.wok,few:=r.few}
 · show(a.tmps.setIfInBounds d v).size=st.n
   rw[du];exact r.size
 · intro t sv' hm
   rcases DS hm with⟨rfl,rfl⟩ |⟨h1,h2,h3⟩
   ·exact hv _ (fun t ht=>by rw[hget,if_neg ht]) (by rw[hget,if_pos rfl])
   · refine(r.slots t sv' h1).of_eq (by rw[hget,if_neg h3]) ?_
     rintro s b v rfl
     have hne:s≠d:=by intro e;subst e;simp[SV.onSlot]at h2
     rw[hget,if_neg hne]
theorem Rel.forget(r:Rel Γ st V a w)(d:Nat)(v:Value)(hd:d<st.n):Rel Γ {st with fr:=kW d st.fr} V (a.put (some d) v) w:=by
 have hs:d<a.tmps.size:=by rw[r.size];exact hd
 have hget:∀t,(a.put (some d) v).tmps.getD t undef=if t=d then v else a.tmps.getD t undef:=fun t=>pz _ _ _ _ hs
 refine{size:=?_,defers:=r.defers,slots:=?_,wok:=r.wok,few:=r.few}
 · show(a.tmps.setIfInBounds d v).size=st.n
   rw[du];exact r.size
 · intro t sv' hm
   rw[kW,aH]at hm
   obtain⟨h1,h2⟩:=hm
   simp only[af,aK]at h2
   have h3:t≠d:=fun e=>by rw[e]at h2;simp at h2
   refine(r.slots t sv' h1).of_eq (by rw[hget,if_neg h3]) ?_
   rintro s b v rfl
   have hne:s≠d:=by intro e;subst e;simp[SV.onSlot]at h2
   rw[hget,if_neg hne]
theorem Rel.weaken(r:Rel Γ st V a w){fr':List (Nat×SV)}(h:∀p∈fr',p∈st.fr):Rel Γ {st with fr:=fr'} V a w :=
 {size:=r.size,defers:=r.defers,slots:=fun t sv hm=>r.slots t sv (h _ hm),wok:=r.wok,few:=r.few}
theorem Rel.marks(r:Rel Γ st V a w)(kn:List Nat):Rel Γ {st with kn:=kn} V a w :=
 {size:=r.size,defers:=r.defers,slots:=r.slots,wok:=r.wok,few:=r.few}
end
/-! ### what operands are -/
def ofC:Value→PD
 |.int k n=>.int k n
 |.bool b=>.bool b
 |.string s=>.str s.data.toList
 |.float .f64 b=>.fl (some b)
 |.complex .f64 a b=>.cx (some (a,b))
 |v=>.v v
def ig:Value→Option SX
 |.agg cs=>bif cs.toList.all (fun v=>v.oneCell')then some (.agg (cs.toList.map fun v=>.pd (ofC v)))else none
 |.tuple _=>none
 |.int k n=>some (.c (.pd (.int k n)))
 |.bool b=>some (.c (.pd (.bool b)))
 |.string s=>some (.c (.pd (.str s.data.toList)))
 |.float .f64 b=>some (.c (.pd (.fl (some b))))
 |.complex .f64 a b=>some (.c (.pd (.cx (some (a,b)))))
 |v=>some (.c (.pd (.v v)))
theorem PR.flS{H:Mem}(x:Nat):PR H (.fl (some x)) (.float .f64 x):=.fl _ x fun _ h=>(bX h).symm
theorem PR.cxS{H:Mem}(x y:Nat):PR H (.cx (some (x,y))) (.complex .f64 x y):=.cx _ x y fun _ h=>(bX h).symm
theorem JY{H:Mem}{v:Value}(h:v.oneCell'=true):PR H (ofC v) v:=by
 cases v with
 |int k n=>exact .int k n
 |bool b=>exact .bool b
 |string s=>have:=PR.str (H:=H) s.data.toList;rw[lL]at this;exact this
 |agg cs=>simp[Value.oneCell']at h
 |tuple cs=>simp[Value.oneCell']at h
 |float k b=>cases k with |f64=>exact .flS b |f32=>exact .v _ h
 |complex k a b=>cases k with |f64=>exact .cxS a b |f32=>exact .v _ h
 |_=>exact .v _ h
theorem Bo{V:Vn}{v:Value}{x:SX}(h:ig v=some x):x.R V v:=by
 cases v with
 |int k n=>simp[ig]at h;subst h;exact .int k n
 |bool b=>simp[ig]at h;subst h;exact .bool b
 |string s=>simp[ig]at h;subst h;have:=PR.str (H:=V.H) s.data.toList;rw[lL]at this;exact this
 |tuple cs=>simp[ig]at h
 | agg cs =>
   simp only[ig]at h
   cases hb:cs.toList.all fun v=>v.oneCell'
   ·rw[hb]at h;simp at h
   · rw[hb]at h
     simp only[cond_true,aa]at h
     subst h
     refine⟨cs.toList,by simp,?_⟩
     refine All2.of (by simp) fun i p u hp hu=>?_
     simp only[List.getElem?_map,hu,bu,aa]at hp
     subst hp
     exact JY (an.1 hb u (List.mem_of_getElem? hu))
 |float k b=>cases k with |f64=>simp[ig]at h;subst h;exact .flS b |f32=>simp[ig]at h;subst h;exact .v _ rfl
 |complex k a b=>cases k with |f64=>simp[ig]at h;subst h;exact .cxS a b |f32=>simp[ig]at h;subst h;exact .v _ rfl
 |_=>simp[ig]at h;subst h;exact .v _ rfl
def bt(st:ST)(g:Option (Nat×Bool)):Operand→Option SX
 | .tmp t=>match lookup st.fr t with
   | some (.grd s want v)=>match g with
     |some (s',want')=>bif Nat.beq s s'&&(want==want')then some v else none
     |none=>none
   |some (.x v)=>some v
   |_=>none
 |.const v=>ig v
 |.global g=>some (.c (.pd (.v (.pointer (some ⟨g,0,none⟩)))))
 |.func f=>some (.c (.fn (.func f) [] []))
def vm(st:ST):Operand→Option (List SX)
 | .tmp t=>match lookup st.fr t with
   |some (.tup l)=>some l
   |_=>none
 |_=>none
def fN(a:Act):Option (Nat×Bool)→Prop
 |none=>True
 |some (s,want)=>a.tmps.getD s undef = .bool want
theorem aJ{Γ:Ctx}{st:ST}{V:Vn}{a:Act}{w:World}(r:Rel Γ st V a w){g:Option (Nat×Bool)}(hg:fN a g){x:Operand}{sx:SX}(h:bt st g x=some sx):sx.R V (a.eval x):=by
 cases x with
 |const v=>exact Bo h
 |global v=>simp[bt]at h;subst h;exact .v _ rfl
 |func v=>simp[bt]at h;subst h;exact⟨[],[],rfl,.nil,.nil⟩
 | tmp t =>
   simp only[bt]at h
   split at h
   · rename_i s want v hl
     split at h
     · rename_i s' want'
       cases hb:(Nat.beq s s'&&(want==want'))
       ·rw[hb]at h;simp at h
       · rw[hb]at h
         simp only[cond_true,aa]at h
         subst h
         simp only[af,beq_iff_eq]at hb
         have e1:=ak hb.1
         have e2:=hb.2
         subst e1;subst e2
         exact(r.slots t _ (cT hl)).1 hg
     ·simp at h
   · rename_i v hl
     simp only[aa]at h;subst h
     exact r.slots t _ (cT hl)
   ·simp at h
theorem sP{Γ:Ctx}{st:ST}{V:Vn}{a:Act}{w:World}(r:Rel Γ st V a w){x:Operand}{l:List SX}(h:vm st x=some l):∃us,a.eval x = .tuple us.toArray∧All2 (SX.R V) l us:=by
 unfold vm at h
 split at h
 · rename_i t
   split at h
   · rename_i l' hl
     simp only[aa]at h;subst h
     exact r.slots t _ (cT hl)
   ·simp at h
 ·simp at h
def JG(op:BinOp)(k:IntKind)(a b:Int):Option (Option Prop×PD) :=
 match op with
 |.add=>some (none,.int k (k.wrap (a+b)))
 |.sub=>some (none,.int k (k.wrap (a - b)))
 |.mul=>some (none,.int k (k.wrap (a * b)))
 |.quo=>some (some (b≠0),.int k (k.wrap (a.tdiv b)))
 |.rem=>some (some (b≠0),.int k (a.tmod b))
 |.eql=>some (none,.bool (a==b))
 |.neq=>some (none,.bool (a != b))
 |.lss=>some (none,.bool (decide (a<b)))
 |.leq=>some (none,.bool (decide (a≤b)))
 |.gtr=>some (none,.bool (decide (a>b)))
 |.geq=>some (none,.bool (decide (a≥b)))
 |.and=>some (none,.int k (k.wrap ((BitVec.ofInt k.bits a &&& BitVec.ofInt k.bits b).toNat)))
 |.or=>some (none,.int k (k.wrap ((BitVec.ofInt k.bits a ||| BitVec.ofInt k.bits b).toNat)))
 |.xor=>some (none,.int k (k.wrap ((BitVec.ofInt k.bits a ^^^ BitVec.ofInt k.bits b).toNat)))
 |_=>none
def Kz(op:BinOp)(x y:Str):Option (Option Prop×PD) :=
 match op with
 |.add=>some (some (x.length+y.length≤9223372036854775807),.str (x++y))
 |.eql=>some (none,.bool (x==y))
 |.neq=>some (none,.bool (!(x==y)))
 |.lss=>some (none,.bool (Op.bytesLess x y))
 |.leq=>some (none,.bool (Op.bytesLess x y||x==y))
 |.gtr=>some (none,.bool (!(Op.bytesLess x y||x==y)))
 |.geq=>some (none,.bool (!(Op.bytesLess x y)))
 |_=>none
def Ea(op:BinOp)(x y:Bool):Option (Option Prop×PD) :=
 match op with
 |.eql=>some (none,.bool (x==y))
 |.neq=>some (none,.bool (!(x==y)))
 |_=>none
def wF(P:Program)(t:TypeId):Bool:=match P.underlying t with |some .bool=>true |_=>false
def dB(a b:Nat):Option Ordering:=FloatKind.f64.format.order a b
def vr(op:BinOp)(a b:Nat):Option (Option Prop×PD) :=
 match op with
 |.eql=>some (none,.bool (dB a b==some .eq))
 |.neq=>some (none,.bool (!(dB a b==some .eq)))
 |.lss=>some (none,.bool (dB a b==some .lt))
 |.leq=>some (none,.bool (dB a b==some .lt||dB a b==some .eq))
 |.gtr=>some (none,.bool (dB a b==some .gt))
 |.geq=>some (none,.bool (dB a b==some .gt||dB a b==some .eq))
 |_=>none
def Ac(op:BinOp)(a b c d:Nat):Option (Option Prop×PD) :=
 match op with
 |.eql=>some (none,.bool (dB a c==some .eq&&dB b d==some .eq))
 |.neq=>some (none,.bool (!(dB a c==some .eq&&dB b d==some .eq)))
 |_=>none
def jY(P:Program)(op:BinOp)(t:TypeId)(x y:PD):Option (Option Prop×PD) :=
 match x,y with
 | .int k a,.int k' b =>
   match op with
   |.shl=>some (some (0≤b),.int k (k.wrap (a * 2 ^ (min b.toNat k.bits))))
   |.shr=>some (some (0≤b),.int k (a.fdiv (2 ^ (min b.toNat k.bits))))
   |op=>bif k==k' then JG op k a b else none
 |.str a,.str b=>Kz op a b
 |.bool a,.bool b=>bif wF P t then Ea op a b else none
 |.fl (some a),.fl (some b)=>vr op a b
 |.cx (some p),.cx (some q)=>Ac op p.1 p.2 q.1 q.2
 |_,_=>none
def Holds:Option Prop→Prop
 |none=>True
 |some p=>p
variable{P:Program}{w:World}{H:Mem}
theorem gN(op:BinOp)(t:TypeId)(x y:Operand){a b:Value}(ha:(∀cs,a≠.agg cs)∧a≠.nilIface) :
 (eqGuard op t x y a b).run P w = .ok () w:=by
 cases op <;> first |rfl |(cases a <;> first |rfl |(exact absurd rfl (ha.1 _)) |(exact absurd rfl ha.2) |(cases b <;> rfl))
theorem run_equalIn_bool(d:Nat){t:TypeId}(a b:Bool)(hu:P.underlying t=some .bool) :
 (Op.equalIn (d+1) t (.bool a) (.bool b)).run P w = .ok (a==b) w:=by
 simp[Op.equalIn,run_underlying hu,pure,Sem.run]
theorem run_eql_bool{t:TypeId}(a b:Bool)(hu:P.underlying t=some .bool) :
 (binOp .eql t (.bool a) (.bool b)).run P w = .ok (.bool (a==b)) w:=by
 simp only[binOp]
 simp[Op.equal,Op.maxDepth,run_equalIn_bool 9999 a b hu]
theorem run_neq_bool{t:TypeId}(a b:Bool)(hu:P.underlying t=some .bool) :
 (binOp .neq t (.bool a) (.bool b)).run P w = .ok (.bool (!(a==b))) w:=by
 simp only[binOp]
 simp[Op.equal,Op.maxDepth,run_equalIn_bool 9999 a b hu]
def Cb(P:Program)(op:BinOp)(t:TypeId)(y:Operand)(v:PD):Option PD :=
 match y with
 | .const .nilIface=>match P.underlying t with
   | some (.interface _)=>match v with
     | .err=>match op with
       |.eql=>some (.bool false)
       |.neq=>some (.bool true)
       |_=>none
     | .v .nilIface=>match op with
       |.eql=>some (.bool true)
       |.neq=>some (.bool false)
       |_=>none
     |_=>none
   |_=>none
 |_=>none
theorem s6{t:TypeId}{ms:Array (String×TypeId)}(hu:P.underlying t=some (.interface ms))(tx:TypeId)(x:Value) :
 (binOp .eql t (.iface tx x) .nilIface).run P w = .ok (.bool false) w∧(binOp .neq t (.iface tx x) .nilIface).run P w = .ok (.bool true) w:=by
 have e:∀d,(Op.equalIn (d+1) t (.iface tx x) .nilIface).run P w = .ok false w:=fun d=>by
  simp[Op.equalIn,run_underlying hu,pure,Sem.run]
 constructor
 ·simp only[binOp];simp[Op.equal,Op.maxDepth,e 9999]
 ·simp only[binOp];simp[Op.equal,Op.maxDepth,e 9999]
theorem s7{t:TypeId}{ms:Array (String×TypeId)}(hu:P.underlying t=some (.interface ms)) :
 (binOp .eql t .nilIface .nilIface).run P w = .ok (.bool true) w∧(binOp .neq t .nilIface .nilIface).run P w = .ok (.bool false) w:=by
 have e:∀d,(Op.equalIn (d+1) t .nilIface .nilIface).run P w = .ok true w:=fun d=>by
  simp[Op.equalIn,run_underlying hu,pure,Sem.run]
 constructor
 ·simp only[binOp];simp[Op.equal,Op.maxDepth,e 9999]
 ·simp only[binOp];simp[Op.equal,Op.maxDepth,e 9999]
theorem Cc{op:BinOp}{t:TypeId}{x y:Operand}{v r:PD}{a:Value}(h:Cb P op t y v=some r)(hx:PR H v a) :
 y = .const .nilIface∧(eqGuard op t x y a .nilIface).run P w = .ok () w∧∃u,(binOp op t a .nilIface).run P w = .ok u w∧PR H r u:=by
 unfold Cb at h
 split at h
 · split at h
   · rename_i ms hu
     split at h
     · cases hx with |err tx x' =>
       split at h
       · simp only[aa]at h;subst h
         exact⟨rfl,rfl,_,(s6 hu tx x').1,.bool _⟩
       · simp only[aa]at h;subst h
         exact⟨rfl,rfl,_,(s6 hu tx x').2,.bool _⟩
       ·simp at h
     · cases hx
       split at h
       · simp only[aa]at h;subst h
         refine⟨rfl,?_,_,(s7 hu).1,.bool _⟩
         cases x <;> rfl
       · simp only[aa]at h;subst h
         refine⟨rfl,?_,_,(s7 hu).2,.bool _⟩
         cases x <;> rfl
       ·simp at h
     ·simp at h
   ·simp at h
 ·simp at h
theorem PR.fl_some{x:Nat}{v:Value}(h:PR H (.fl (some x)) v):v = .float .f64 x:=by
 cases h with |fl _ y h=>rw[h x rfl]
theorem PR.cx_some{p:Nat×Nat}{v:Value}(h:PR H (.cx (some p)) v):v = .complex .f64 p.1 p.2:=by
 cases h with |cx _ x y h=>rw[h p rfl]
theorem BZ{op:BinOp}{t:TypeId}{a b:Nat}{r:PD}{p:Option Prop}(h:vr op a b=some (p,r)) :
 ∃v,(binOp op t (.float .f64 a) (.float .f64 b)).run P w = .ok v w∧PR H r v:=by
 cases op <;> simp only[vr,reduceCtorEq]at h
 all_goals
  simp only[aa,ae]at h
  obtain⟨rfl,rfl⟩:=h
  refine⟨_,?_,.bool _⟩
  simp[binOp,Op.floatCmp,dB,pure,Sem.run,bne]
theorem Dg{op:BinOp}{t:TypeId}{a b c d:Nat}{r:PD}{p:Option Prop}(h:Ac op a b c d=some (p,r)) :
 ∃v,(binOp op t (.complex .f64 a b) (.complex .f64 c d)).run P w = .ok v w∧PR H r v:=by
 cases op <;> simp only[Ac,reduceCtorEq]at h
 all_goals
  simp only[aa,ae]at h
  obtain⟨rfl,rfl⟩:=h
  refine⟨_,?_,.bool _⟩
  simp[binOp,Op.complexOp,Op.Complex.cmp,Op.floatCmp,asBool,dB,pure,Sem.run]
theorem E7 {op:BinOp} {t:TypeId} {x y r:PD} {vx vy:Value} {p:Option Prop} (h:jY P op t x y=some (p,r)) (hp:Holds p) (hx:PR H x vx) (hy:PR H y vy) :
 ∃v,(binOp op t vx vy).run P w = .ok v w∧PR H r v∧((∀cs,vx≠.agg cs)∧vx≠.nilIface):=by
 cases x with
 | int k a =>
   cases y with
   | int k' b =>
     cases hx;cases hy
     cases op <;> simp only[jY]at h <;>
      first
      | (simp only[aa,ae]at h
         obtain⟨rfl,rfl⟩:=h
         simp only[Holds]at hp
         have:¬b<0:=by omega
         refine⟨_,?_,.int _ _,by simp,by simp⟩
         simp[binOp,Op.shift,this,go_sem,pure,Sem.run]
         done)
      | (cases hk:(k==k')
         ·rw[hk]at h;simp at h
         · rw[hk]at h
           simp only[beq_iff_eq]at hk
           subst hk
           simp only[cond_true,JG,aa,ae,reduceCtorEq]at h
           try (obtain⟨rfl,rfl⟩:=h
                simp only[Holds]at hp
                refine⟨_,?_,by first |exact .int _ _ |exact .bool _,by simp,by simp⟩
                simp[binOp,Op.intArith,Op.intDiv,Op.intBits,Op.intCmp,pure,Sem.run,hp]))
   |_=>simp[jY]at h
 | str a =>
   cases y with
   | str b =>
     cases hx;cases hy
     simp only[jY]at h
     have ea:(bs a).toList=a:=by rw[ByteArray.toList_eq,gO]
     have eb:(bs b).toList=b:=by rw[ByteArray.toList_eq,gO]
     cases op <;> simp only[Kz,aa,ae,reduceCtorEq]at h <;> obtain⟨rfl,rfl⟩:=h
     case add =>
      simp only[Holds]at hp
      have e1:bs a++bs b=bs (a++b):=by
       rw[←lL (bs a++bs b),ByteArray.data_append,Array.toList_append,gO,gO]
      have e2:¬((((bs a).size+(bs b).size:Nat):Int)>IntKind.i64.max):=by
       have:IntKind.i64.max=9223372036854775807:=by decide
       rw[this,kU,kU]
       omega
      refine⟨_,?_,.str _,by simp,by simp⟩
      simp only[binOp,Op.stringOp,if_neg e2,e1]
      rfl
     all_goals
      refine⟨_,?_,.bool _,by simp,by simp⟩
      simp only[binOp,Op.stringOp,ea,eb]
      rfl
   |_=>simp[jY]at h
 | bool a =>
   cases y with
   | bool b =>
     cases hx;cases hy
     simp only[jY]at h
     cases hb:wF P t
     ·rw[hb]at h;simp at h
     · rw[hb]at h
       have hu:P.underlying t=some .bool:=by
        unfold wF at hb;split at hb <;> simp_all
       simp only[cond_true]at h
       cases op <;> simp only[Ea,aa,ae,reduceCtorEq]at h <;> obtain⟨rfl,rfl⟩:=h
       ·exact⟨_,run_eql_bool a b hu,.bool _,by simp,by simp⟩
       ·exact⟨_,run_neq_bool a b hu,.bool _,by simp,by simp⟩
   |_=>simp[jY]at h
 | fl o=>cases o with
   |none=>simp[jY]at h
   | some a=>cases y with
     | fl o'=>cases o' with
       |none=>simp[jY]at h
       | some b =>
         rw[PR.fl_some hx,PR.fl_some hy]
         obtain⟨v,h1,h2⟩:=BZ (P:=P) (w:=w) (H:=H) (show vr op a b=some (p,r)from h)
         exact⟨v,h1,h2,by simp,by simp⟩
     |_=>simp[jY]at h
 | cx o=>cases o with
   |none=>simp[jY]at h
   | some a=>cases y with
     | cx o'=>cases o' with
       |none=>simp[jY]at h
       | some b =>
         rw[PR.cx_some hx,PR.cx_some hy]
         obtain⟨v,h1,h2⟩:=Dg (P:=P) (w:=w) (H:=H) (show Ac op a.1 a.2 b.1 b.2=some (p,r)from h)
         exact⟨v,h1,h2,by simp,by simp⟩
     |_=>simp[jY]at h
 |_=>simp[jY]at h
end Go.Ev
