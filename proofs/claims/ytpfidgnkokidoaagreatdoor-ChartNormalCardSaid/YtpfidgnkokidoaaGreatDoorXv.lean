/- Plain: what is read is small. Conditions: none. Contracts: the document's points read. Conditions: sizes. Contracts: the document's reader of charts: states. Conditions: sizes. Contracts: the document's reader of charts: a head's lines. Conditions: sizes. Contracts: charts told: words, variables. Conditions: sizes. Contracts: charts told: a state's first word. Conditions: none. Contracts: charts told: guards and blocks, told or not. Conditions: none. Contracts: charts told: a state's lines. Conditions: sizes. -/
import Derived.Test.YtpfidgnkokidoaaGreatDoorYe
import Derived.Test.YtpfidgnkokidoaaGreatDoorShelfi
import Derived.Test.YtpfidgnkokidoaaGreatDoorWd
import Derived.Test.YtpfidgnkokidoaaGreatDoorXb
import Derived.Test.YtpfidgnkokidoaaGreatDoorWh
import Derived.Test.YtpfidgnkokidoaaGreatDoorWp
import Derived.Test.YtpfidgnkokidoaaGreatDoorUh
import Derived.Test.YtpfidgnkokidoaaGreatDoorMr
import Derived.Test.YtpfidgnkokidoaaGreatDoorMf
import Derived.Test.YtpfidgnkokidoaaGreatDoorShelfb
import Derived.Test.YtpfidgnkokidoaaGreatDoorWo
import Derived.Test.YtpfidgnkokidoaaGreatDoorWj
import Derived.Test.YtpfidgnkokidoaaGreatDoorWr
import Derived.Test.YtpfidgnkokidoaaGreatDoorNd
namespace Go.Proofs.YtpfidgnkokidoaaGreatDoor
open Go Go.Ev
set_option maxRecDepth 100000
def jA (l:List Deed):Prop:=∀ d∈l,d.expr.length≤32
theorem jA.nil:jA []:=by intro d hd; cases hd
theorem tW (s:Str):(aR s).1.length≤32:=by
 unfold aR
 repeat' split
 all_goals (first | exact br _ | (show (cK s).out.length≤32; omega))
theorem IG {s:Str} {d:Deed} (h:fk s=some d):d.expr.length≤32:=by
 have h2:=tW (b7 s)
 unfold fk at h
 repeat' split at h
 all_goals first
  | (cases h; done)
  | (simp only [aa] at h; subst h; first | exact br _ | exact h2)
theorem sE:∀ (ps:List Str) (l:List Deed),readAll ps=some l→jA l
 | [],l,h=>by simp only [readAll,aa] at h; subst h; exact jA.nil
 | p :: r,l,h=>by
   simp only [readAll] at h
   split at h
   · rename_i d m h1 h2
     simp only [aa] at h; subst h
     intro x hx
     rcases aN.1 hx with rfl | hx
     · exact IG h1
     · exact sE r m h2 x hx
   · cases h
theorem pt (s:Str):jA (aL s).1:=by
 unfold aL
 repeat' split
 all_goals first
  | exact jA.nil
  | exact sE _ _ (by assumption)
structure Sm (c:Chart):Prop where
 stat:∀ s∈c.states,jA s.entry∧jA s.leave
 tran:∀ t∈c.trans,t.guard.length≤32∧jA t.acts
theorem iw {p:Prop} {i:Decidable p} {a b:Option Chart} {c:Chart} (h:(if p then a else b)=some c):a=some c∨b=some c:=by
 split at h
 · exact .inl h
 · exact .inr h
theorem Sm.add {c:Chart} (h:Sm c) {l:List Ev.Stat} (hl:∀ x∈l,x∈c.states) {s:Ev.Stat} (h1:jA s.entry) (h2:jA s.leave):Sm { c with states:=l++[s] }:=⟨fun x hx=>by
 rcases aZ.1 hx with hx | hx
 · exact h.1 x (hl x hx)
 · rw [aV.1 hx]; exact ⟨h1,h2⟩,h.2⟩
theorem Sm.line {c c':Chart} {k:Nat} {l:Str} (h:Sm c) (e:dK c k l=some c'):Sm c':=by
 unfold dK at e
 split at e
 · split at e
   · unfold rF at e
     obtain ⟨_,rfl⟩:=cJ e; exact ⟨h.1,h.2⟩
   · unfold ct at e
     have hst:∀ {kind:Int} {m:Nat} {d:Int} {w:List Str},aM kind m c d w=some c'→Sm c':=fun e=>by
      unfold aM at e; obtain ⟨_,rfl⟩:=cJ e; exact h.add (fun _=>id) jA.nil jA.nil
     rcases iw e with e | e
     · unfold jE at e; obtain ⟨_,rfl⟩:=cJ e; exact ⟨h.1,h.2⟩
     rcases iw e with e | e
     · unfold nH at e; obtain ⟨_,rfl⟩:=cJ e; exact ⟨h.1,h.2⟩
     rcases iw e with e | e
     · unfold kj at e; obtain ⟨_,rfl⟩:=cJ e; exact ⟨h.1,h.2⟩
     rcases iw e with e | e
     · unfold jc at e; obtain ⟨_,rfl⟩:=cJ e; exact ⟨h.1,h.2⟩
     rcases iw e with e | e
     · exact hst e
     rcases iw e with e | e
     · exact hst e
     rcases iw e with e | e
     · exact hst e
     rcases iw e with e | e
     · exact hst e
     rcases iw e with e | e
     · exact hst e
     rcases iw e with e | e
     · exact hst e
     rcases iw e with e | e
     · unfold iu at e
       split at e
       · rename_i s hs
         obtain ⟨_,rfl⟩:=cJ e
         exact h.add (fun _ hx=>List.dropLast_subset _ hx) (pt _) (h.1 s (List.mem_of_getLast? hs)).2
       · cases e
     rcases iw e with e | e
     · unfold ju at e
       split at e
       · rename_i s hs
         obtain ⟨_,rfl⟩:=cJ e
         exact h.add (fun _ hx=>List.dropLast_subset _ hx) (h.1 s (List.mem_of_getLast? hs)).1 (pt _)
       · cases e
     rcases iw e with e | e
     · unfold onC at e
       obtain ⟨_,rfl⟩:=cJ e
       refine ⟨h.1,fun t ht=>?_⟩
       rcases aZ.1 ht with ht | ht
       · exact h.2 t ht
       · rw [aV.1 ht]
         constructor
         · show (if _ then _ else _:List Cell).length≤32
           split
           · exact br _
           · exact tW _
         · show jA (if _ then _ else _)
           split
           · exact jA.nil
           · exact pt _
     · cases e
 · cases e
theorem uD:∀ (ls:List Str) (c:Chart) (k n:Nat) (c':Chart),(∀ l∈ls,l.length≤6000)→Fit c n→Sm c→dq c k ls=(c',none)→Fit c' (n+ls.length)∧Sm c'
 | [],c,k,n,c',_,hf,hs,h=>by
   simp only [dq,ae,and_true] at h; subst h
   exact ⟨hf,hs⟩
 | l :: r,c,k,n,c',hl,hf,hs,h=>by
   simp only [dq] at h
   cases e:dK c k l with
   | none=>rw [e] at h; simp at h
   | some c1 =>
     rw [e] at h
     have:=uD r c1 (k+1) (n+1) c' (fun x hx=>hl x (aD _ hx)) (hf.line (hl l az) e) (hs.line e) h
     rw [ah,show n+(r.length+1)=n+1+r.length by omega]; exact this
theorem Ct (s:Str):SmallC (aq s).1:=by
 have key:∃ c,(aq s).1=c∧Fit c 6001∧Sm c:=by
  have z:Sm c7:=⟨fun s hs=>(by cases hs),fun t ht=>(by cases ht)⟩
  have fz:Fit c7 6001:=Fit.zero.le (by omega)
  rcases p8 s with ⟨_,e⟩ | ⟨h,⟨c,e1,e⟩ | ⟨k,_,e⟩⟩
  · rw [e]; exact ⟨_,rfl,fz,z⟩
  · rw [e]
    obtain ⟨h1,h2⟩:=uD _ _ _ 0 c (fun l hl=>by have:=sj hl; omega) Fit.zero z e1
    have:=oo s
    exact ⟨_,rfl,h1.le (by omega),h2⟩
  · rw [e]; exact ⟨_,rfl,fz,z⟩
 obtain ⟨c,e,hf,hs⟩:=key
 rw [e]
 have fd:∀ {l:List Deed},jA l→∀ d∈l,d.expr.length≤1000000:=fun h d hd=>bn (h d hd) (by decide)
 exact ⟨bn hf.1 (by decide),bn hf.2 (by decide),bn hf.3 (by decide),bn hf.4 (by decide),fun s h=>⟨fd (hs.1 s h).1,fd (hs.1 s h).2⟩,fun t h=>⟨bn (hs.2 t h).1 (by decide),fd (hs.2 t h).2⟩⟩
/-! ### plain -/
variable {s:Str} {a b:Int}
theorem M9 (h:oW s (a,b)):ptA s=a∧ptB s=b:=by
 obtain ⟨g1,g2,g3⟩:=j9 ⟨(a,b),h⟩
 obtain ⟨k1,k2,k3⟩:=h
 have:=qY g1 g2 k1 k2 (g3.trans k3.symm)
 exact ⟨this.1,this.2⟩
def RpQ (s:Str):Out:=fun v k=>(fv s→v = .tup [.agg [.pd (.int .i64 (ptA s)),.pd (.int .i64 (ptB s))],.c (.pd (.int .i64 0))])∧(¬fv s→v = .tup [.agg [.pd (.int .i64 0),.pd (.int .i64 0)],.c (.pd (.int .i64 1))])∧k=[]
theorem RpQ.no (h:¬fv s):RpQ s (.tup [.agg [.pd (.int .i64 0),.pd (.int .i64 0)],.c (.pd (.int .i64 1))]) []:=⟨fun h'=>absurd h' h,fun _=>rfl,rfl⟩
theorem RpQ.yes (h:oW s (a,b)):RpQ s (.tup [.agg [.pd (.int .i64 a),.pd (.int .i64 b)],.c (.pd (.int .i64 0))]) []:=by
 obtain ⟨t1,t2⟩:=M9 h
 exact ⟨fun _=>by rw [t1,t2],fun h'=>absurd ⟨(a,b),h⟩ h',rfl⟩
/-! ### the walk -/
end Go.Proofs.YtpfidgnkokidoaaGreatDoor
namespace Go.Proofs.YtpfidgnkokidoaaGreatDoor
open Go Go.Ev
set_option maxRecDepth 100000
def uu (q:Int):Nat:=if q=2∨4<q then 2 else 1
def SdQ (c:Chart) (d:Int) (w:List Str) (q:Int):Out:=fun v k=>(q=0→v = .x (.i 0)∧k=DI c)∧(q≠0→(∀ c',aM q (uu q) c d (w.drop 1)=some c'→v = .x (.i 1)∧Rn 5 k (ckD c'))∧(aM q (uu q) c d (w.drop 1)=none→v = .x (.i 2)))
theorem SdQ.none {c:Chart} {d:Int} {w:List Str}:SdQ c d w 0 (.x (.i 0)) (DI c):=⟨fun _=>⟨rfl,rfl⟩,fun h=>absurd rfl h⟩
theorem SdQ.no {c:Chart} {d q:Int} {w:List Str} {k:List Chunk} (hq:q≠0) (h:aM q (uu q) c d (w.drop 1)=Option.none):SdQ c d w q (.x (.i 2)) k:=⟨fun h2=>absurd h2 hq,fun _=>⟨fun c' h2=>(by rw [h] at h2; cases h2),fun _=>rfl⟩⟩
theorem SdQ.yes {c c':Chart} {d q:Int} {w:List Str} {k:List Chunk} (hq:q≠0) (h:aM q (uu q) c d (w.drop 1)=some c') (hk:k=Jm c'):SdQ c d w q (.x (.i 1)) k:=⟨fun h2=>absurd h2 hq,fun _=>⟨fun c2 h2=>⟨rfl,by rw [h] at h2; cases h2; exact (IsD.of3 hk).2⟩,fun h2=>(by rw [h] at h2; cases h2)⟩⟩
end Go.Proofs.YtpfidgnkokidoaaGreatDoor
namespace Go.Proofs.YtpfidgnkokidoaaGreatDoor
open Go Go.Ev
set_option maxRecDepth 100000
def DY (o:Option Chart):Out:=fun v k=>(∀ c',o=some c'→IsD c' v k)∧(o=none→v = .x (.b false))
theorem DY.yes {o:Option Chart} {c':Chart} {v:SV} {k:List Chunk} (h:o=some c') (hr:IsD c' v k):DY o v k:=⟨fun c2 h2=>(by rw [h] at h2; cases h2; exact hr),fun h2=>(by rw [h] at h2; cases h2)⟩
theorem DY.no {o:Option Chart} {k:List Chunk} (h:o=none):DY o (.x (.b false)) k:=⟨fun c2 h2=>(by rw [h] at h2; cases h2),fun _=>rfl⟩
end Go.Proofs.YtpfidgnkokidoaaGreatDoor
namespace Go.Proofs.YtpfidgnkokidoaaGreatDoor
open Go Go.Ev
set_option maxRecDepth 100000
def pr (n:Int):Bool:=decide (-9223372036854775808≤n)&&decide (n≤9223372036854775807)
theorem hO {n:Int}:pr n=true↔-9223372036854775808≤n∧n≤9223372036854775807:=by simp [pr]
theorem KL (s:Str):ak Tryz.prog 62 [.s s] [] (.x (.s (orS s))) []:=by
 refine dg bH Tryz.func62 (.ite (s==[]) (.ret (.p (.str [45])) []) (.ret (.p (.str s)) [])) fun Γ=>⟨fun h=>⟨?_,rfl⟩,fun h=>⟨?_,rfl⟩⟩
 · have e:s=[]:=eq_of_beq h
   unfold orS; rw [if_pos e]; rfl
 · unfold orS; rw [if_neg (by simpa using h)]
def FR:Ent:=(62,fun
 | [.c (.pd (.str s))],[]=>some (none,.x (.c (.pd (.str (orS s)))),[])
 | _,_=>none)
theorem LQ:EntOk Tryz.prog FR:=entOk fun vs ck=>by
 unfold FR; dsimp only; split
 · rename_i s; exact entS fun hp=>KL s
 · exact entN
def wC (v:Var):Prop:=pr v.lo=true∧pr v.hi=true∧pr v.init.a=true∧pr v.init.b=true∧v.name.length≤281474976710656
def gg (v:Var):List Str :=
 if v.kind=2 then [jL,v.name,if v.init.a=1 then fm else fS]
 else if v.kind=3 then [jH,v.name,Lib.itoa v.lo,Lib.itoa v.hi,df (cP (bX v.init.a v.init.b)) (cQ (bX v.init.a v.init.b))]
 else [nJ,v.name,Lib.itoa v.lo,Lib.itoa v.hi,Lib.itoa v.init.a]
theorem EK (a b c:Str):cr [a,b,c]++[10]=a++[32]++b++([32]++c++[10]):=by simp [cr,glue]
theorem Fb (a b c d e:Str):cr [a,b,c,d,e]++[10]=a++[32]++b++([32]++c++[32]++d++[32])++e++[10]:=by simp [cr,glue]
def K8:Cfg:=⟨bu,[eDg,rh,Bx]⟩
theorem JL:ai Tryz.prog K8.tab:=(ai.cons F7 (ai.cons xR (ai.cons De ai.nil)))
theorem Hj (v:Var) (h:wC v):ak Tryz.prog 27 [.e .var v] [] (.x (.s (cr (gg v)++[10]))) []:=by
 obtain ⟨h1,h2,h3,h4,h5⟩:=h
 have a1:=hO.1 h1; have a2:=hO.1 h2; have a3:=hO.1 h3; have a4:=hO.1 h4
 have l1:=jY _ a1.1 a1.2; have l2:=jY _ a2.1 a2.2; have l3:=jY _ a3.1 a3.2
 have pa:pIn (cP (bX v.init.a v.init.b))=true:=by simp only [pIn,ab,decide_eq_true_eq]; exact tc
 have pb:pIn (cQ (bX v.init.a v.init.b))=true:=by simp only [pIn,ab,decide_eq_true_eq]; exact sX
 have l4:=(gX pa).1; have l5:=(gX pb).1
 have l6:(df (cP (bX v.init.a v.init.b)) (cQ (bX v.init.a v.init.b))).length≤20:=by
  unfold df; split <;> (simp only [ag,ah,aj]; omega)
 refine dg JL Tryz.func27 (let x1:=(bX v.init.a v.init.b); let x2:=[(112:UInt8),111,105,110,116,32]; let x3:=[(98:UInt8),111,111,108,32]; let x4:=[(105:UInt8),110,116,32]; let x5:=(-9223372036854775808:Int); let x6:=(9223372036854775807:Int); let x7:=(5+v.name.length≤9223372036854775807); .need (x5≤v.lo∧v.lo≤x6) (.need (1+(Lib.itoa v.lo).length≤9223372036854775807) (.need (([(32:UInt8)]++Lib.itoa v.lo).length+1≤9223372036854775807) (.need (x5≤v.hi∧v.hi≤x6) (.need (([(32:UInt8)]++Lib.itoa v.lo++[(32:UInt8)]).length+(Lib.itoa v.hi).length≤9223372036854775807) (.need (([(32:UInt8)]++Lib.itoa v.lo++[(32:UInt8)]++Lib.itoa v.hi).length+1≤9223372036854775807) (.ite (v.kind==(2:Int)) (.ite (v.init.a==(1:Int)) (.need x7 (.need ((x3++v.name).length+6≤9223372036854775807) (.ret (.p (.str (x3++v.name++[(32:UInt8),116,114,117,101,10]))) []))) (.need x7 (.need ((x3++v.name).length+7≤9223372036854775807) (.ret (.p (.str (x3++v.name++[(32:UInt8),102,97,108,115,101,10]))) [])))) (.ite (v.kind==(3:Int)) (.need (eC x1=true) (.need (6+v.name.length≤9223372036854775807) (.need ((x2++v.name).length+([(32:UInt8)]++Lib.itoa v.lo++[(32:UInt8)]++Lib.itoa v.hi++[(32:UInt8)]).length≤9223372036854775807) (.need ((x2++v.name++([(32:UInt8)]++Lib.itoa v.lo++[(32:UInt8)]++Lib.itoa v.hi++[(32:UInt8)])).length+(df (cP x1) (cQ x1)).length≤9223372036854775807) (.need ((x2++v.name++([(32:UInt8)]++Lib.itoa v.lo++[(32:UInt8)]++Lib.itoa v.hi++[(32:UInt8)])++df (cP x1) (cQ x1)).length+1≤9223372036854775807) (.ret (.p (.str (x2++v.name++([(32:UInt8)]++Lib.itoa v.lo++[(32:UInt8)]++Lib.itoa v.hi++[(32:UInt8)])++df (cP x1) (cQ x1)++[(10:UInt8)]))) [])))))) (.need (4+v.name.length≤9223372036854775807) (.need ((x4++v.name).length+([(32:UInt8)]++Lib.itoa v.lo++[(32:UInt8)]++Lib.itoa v.hi++[(32:UInt8)]).length≤9223372036854775807) (.need (x5≤v.init.a∧v.init.a≤x6) (.need ((x4++v.name++([(32:UInt8)]++Lib.itoa v.lo++[(32:UInt8)]++Lib.itoa v.hi++[(32:UInt8)])).length+(Lib.itoa v.init.a).length≤9223372036854775807) (.need ((x4++v.name++([(32:UInt8)]++Lib.itoa v.lo++[(32:UInt8)]++Lib.itoa v.hi++[(32:UInt8)])++Lib.itoa v.init.a).length+1≤9223372036854775807) (.ret (.p (.str (x4++v.name++([(32:UInt8)]++Lib.itoa v.lo++[(32:UInt8)]++Lib.itoa v.hi++[(32:UInt8)])++Lib.itoa v.init.a++[(10:UInt8)]))) [])))))))))))))) fun Γ=>?_
 conv=>zeta
 refine ⟨a1,by omega,by simp only [ag,ah,aj]; omega,a2,by simp only [ag,ah,aj]; omega,by simp only [ag,ah,aj]; omega,fun hk=>⟨fun hi=>⟨by omega,by simp only [ag,ah,aj]; omega,?_,rfl⟩,fun hi=>⟨by omega,by simp only [ag,ah,aj]; omega,?_,rfl⟩⟩,fun hk=>⟨fun hp=>⟨vo _ _,by omega,by simp only [ag,ah,aj]; omega,by simp only [ag,ah,aj]; omega,by simp only [ag,ah,aj]; omega,?_,rfl⟩,fun hp=>⟨by omega,by simp only [ag,ah,aj]; omega,a3,by simp only [ag,ah,aj]; omega,by simp only [ag,ah,aj]; omega,?_,rfl⟩⟩⟩
 · have e:gg v=[jL,v.name,fm]:=by unfold gg; rw [if_pos (eq_of_beq hk),if_pos (eq_of_beq hi)]
   rw [e,EK]; rfl
 · have e:gg v=[jL,v.name,fS]:=by unfold gg; rw [if_pos (eq_of_beq hk),if_neg (beq_eq_false_iff_ne.1 hi)]
   rw [e,EK]; rfl
 · have e:gg v=[jH,v.name,Lib.itoa v.lo,Lib.itoa v.hi,df (cP (bX v.init.a v.init.b)) (cQ (bX v.init.a v.init.b))]:=by unfold gg; rw [if_neg (beq_eq_false_iff_ne.1 hk),if_pos (eq_of_beq hp)]
   rw [e,Fb]; rfl
 · have e:gg v=[nJ,v.name,Lib.itoa v.lo,Lib.itoa v.hi,Lib.itoa v.init.a]:=by unfold gg; rw [if_neg (beq_eq_false_iff_ne.1 hk),if_neg (beq_eq_false_iff_ne.1 hp)]
   rw [e,Fb]; rfl
def yu:Ent:=(27,fun
 | [.agg [.pd (.str a),.pd (.int .i64 b),.pd (.int .i64 e),.pd (.int .i64 f),.pd (.int .i64 g),.pd (.int .i64 h),.pd (.int .i64 i)]],[]=>some (some (wC (⟨a,b,e,f,⟨g,h,i⟩⟩:Var)),.x (.c (.pd (.str (cr (gg (⟨a,b,e,f,⟨g,h,i⟩⟩:Var))++[10])))),[])
 | _,_=>none)
theorem I6:EntOk Tryz.prog yu:=entOk fun vs ck=>by
 unfold yu; dsimp only; split
 · rename_i a b e f g h i; exact entS fun hp=>Hj (⟨a,b,e,f,⟨g,h,i⟩⟩:Var) hp
 · exact entN
theorem Kj {v:Var} (h:pIn v.init.a=true) (h2:pIn v.init.b=true):gg v=gU v:=by
 obtain ⟨_,m2,m3,_⟩:=kb h h2
 unfold gg gU
 rw [m2,m3]
end Go.Proofs.YtpfidgnkokidoaaGreatDoor
namespace Go.Proofs.YtpfidgnkokidoaaGreatDoor
open Go Go.Ev
set_option maxRecDepth 100000
def db (k:Int):Str:=if 1≤k∧k≤6 then iU k else [63]
def NK:Tree→Tree
 | .ite _ _ b=>b
 | t=>t
theorem F4 (k:Int) (h:¬(1≤k∧k≤6)):ak Tryz.prog 59 [.i k] [] (.x (.s (db k))) []:=by
 refine dg bH Tryz.func59 (Tree.ite (decide (k<1)||decide (k>6)) (Tree.ret (.x (.s [63])) []) (NK (exec Tryz.prog cF Tryz.f59 (aH Tryz.f59) 1000 [PI.code []] (cL Tryz.f59.ntmps [.i k] [])))) fun Γ=>?_
 refine ⟨fun _=>⟨?_,rfl⟩,fun hc=>?_⟩
 · unfold db; rw [if_neg h]
 · rw [aI,decide_eq_false_iff_not,decide_eq_false_iff_not] at hc
   exact absurd ⟨by omega,by omega⟩ h
theorem Na:ak Tryz.prog 59 [.i 1] [] (.x (.s (db 1))) []:=by
 refine dg bH Tryz.func59 (.ite false (.ret (.p (.str [63])) []) (.need ((0:Int)≤IntKind.wrap .i64 ((1:Int) - 1)∧IntKind.wrap .i64 ((1:Int) - 1)<(↑(6:Nat):Int)) (.ret (.p (.str [98,97,115,105,99])) []))) fun Γ=>⟨fun h=>absurd h (by decide),fun _=>⟨by decide,rfl,rfl⟩⟩
theorem M1:ak Tryz.prog 59 [.i 2] [] (.x (.s (db 2))) []:=by
 refine dg bH Tryz.func59 (.ite false (.ret (.p (.str [63])) []) (.need ((0:Int)≤IntKind.wrap .i64 ((2:Int) - 1)∧IntKind.wrap .i64 ((2:Int) - 1)<(↑(6:Nat):Int)) (.ret (.p (.str [111,110,101])) []))) fun Γ=>⟨fun h=>absurd h (by decide),fun _=>⟨by decide,rfl,rfl⟩⟩
theorem Mm:ak Tryz.prog 59 [.i 3] [] (.x (.s (db 3))) []:=by
 refine dg bH Tryz.func59 (.ite false (.ret (.p (.str [63])) []) (.need ((0:Int)≤IntKind.wrap .i64 ((3:Int) - 1)∧IntKind.wrap .i64 ((3:Int) - 1)<(↑(6:Nat):Int)) (.ret (.p (.str [98,111,116,104])) []))) fun Γ=>⟨fun h=>absurd h (by decide),fun _=>⟨by decide,rfl,rfl⟩⟩
theorem Mg:ak Tryz.prog 59 [.i 4] [] (.x (.s (db 4))) []:=by
 refine dg bH Tryz.func59 (.ite false (.ret (.p (.str [63])) []) (.need ((0:Int)≤IntKind.wrap .i64 ((4:Int) - 1)∧IntKind.wrap .i64 ((4:Int) - 1)<(↑(6:Nat):Int)) (.ret (.p (.str [102,105,110,97,108])) []))) fun Γ=>⟨fun h=>absurd h (by decide),fun _=>⟨by decide,rfl,rfl⟩⟩
theorem Mt:ak Tryz.prog 59 [.i 5] [] (.x (.s (db 5))) []:=by
 refine dg bH Tryz.func59 (.ite false (.ret (.p (.str [63])) []) (.need ((0:Int)≤IntKind.wrap .i64 ((5:Int) - 1)∧IntKind.wrap .i64 ((5:Int) - 1)<(↑(6:Nat):Int)) (.ret (.p (.str [115,104,97,108,108,111,119])) []))) fun Γ=>⟨fun h=>absurd h (by decide),fun _=>⟨by decide,rfl,rfl⟩⟩
theorem Np:ak Tryz.prog 59 [.i 6] [] (.x (.s (db 6))) []:=by
 refine dg bH Tryz.func59 (.ite false (.ret (.p (.str [63])) []) (.need ((0:Int)≤IntKind.wrap .i64 ((6:Int) - 1)∧IntKind.wrap .i64 ((6:Int) - 1)<(↑(6:Nat):Int)) (.ret (.p (.str [100,101,101,112])) []))) fun Γ=>⟨fun h=>absurd h (by decide),fun _=>⟨by decide,rfl,rfl⟩⟩
theorem Es (k:Int):ak Tryz.prog 59 [.i k] [] (.x (.s (db k))) []:=by
 by_cases h:1≤k∧k≤6
 · have:k=1∨k=2∨k=3∨k=4∨k=5∨k=6:=by omega
   rcases this with rfl | rfl | rfl | rfl | rfl | rfl
   · exact Na
   · exact M1
   · exact Mm
   · exact Mg
   · exact Mt
   · exact Np
 · exact F4 k h
def vg:Ent:=(59,fun
 | [.c (.pd (.int .i64 k))],[]=>some (none,.x (.c (.pd (.str (db k)))),[])
 | _,_=>none)
theorem HB:EntOk Tryz.prog vg:=entOk fun vs ck=>by
 unfold vg; dsimp only; split
 · rename_i k; exact entS fun hp=>Es k
 · exact entN
end Go.Proofs.YtpfidgnkokidoaaGreatDoor
namespace Go.Proofs.YtpfidgnkokidoaaGreatDoor
open Go Go.Ev
set_option maxRecDepth 100000
def wq (l:List Deed):Int:=if dy l=true then 0 else 1
def wu (l:List Cell):Int:=if cS l=true then 0 else 1
theorem JG (l:List Cell):ak Tryz.prog 61 [.l .cell l] [] (.tup [.s (bL l),.i (wu l)]) []:=by
 cases h:cS l
 · have e1:bL l=[]:=by unfold bL; rw [if_neg (by rw [h]; decide)]
   have e2:wu l=1:=by unfold wu; rw [if_neg (by rw [h]; decide)]
   rw [e1,e2]; exact JP l h
 · have e2:wu l=0:=by unfold wu; rw [if_pos h]
   have e1:bL l=fA l:=by unfold bL; rw [if_pos h]
   rw [e1,e2]; exact Dk l h
def Fa:Ent:=(61,fun
 | [.c (.pd (.lst .cell l))],[]=>some (none,.tup [.c (.pd (.str (bL l))),.c (.pd (.int .i64 (wu l)))],[])
 | _,_=>none)
theorem Nq:EntOk Tryz.prog Fa:=entOk fun vs ck=>by
 unfold Fa; dsimp only; split
 · rename_i l; exact entS fun hp=>JG l
 · exact entN
theorem Ks (l:List Deed):ak Tryz.prog 60 [.l .deed l] [] (.tup [.s (aU l),.i (wq l)]) []:=by
 cases h:dy l
 · have e1:aU l=[]:=by unfold aU; rw [if_neg (by rw [h]; decide)]
   have e2:wq l=1:=by unfold wq; rw [if_neg (by rw [h]; decide)]
   rw [e1,e2]; exact NP l h
 · have e2:wq l=0:=by unfold wq; rw [if_pos h]
   have e1:aU l=gz l:=by unfold aU; rw [if_pos h]
   rw [e1,e2]; exact OU l h
def Ef:Ent:=(60,fun
 | [.c (.pd (.lst .deed l))],[]=>some (none,.tup [.c (.pd (.str (aU l))),.c (.pd (.int .i64 (wq l)))],[])
 | _,_=>none)
theorem MT:EntOk Tryz.prog Ef:=entOk fun vs ck=>by
 unfold Ef; dsimp only; split
 · rename_i l; exact entS fun hp=>Ks l
 · exact entN
def vz:Cfg:=⟨bu,[FR,vg,Fa,Ef,nV]⟩
theorem qP:ai Tryz.prog vz.tab:=(ai.cons LQ (ai.cons HB (ai.cons Nq (ai.cons MT (ai.cons u7 ai.nil)))))
end Go.Proofs.YtpfidgnkokidoaaGreatDoor
namespace Go.Proofs.YtpfidgnkokidoaaGreatDoor
open Go Go.Ev
set_option maxRecDepth 100000
variable (tr:List Tran) (i:Int) (a:Str)
def jv (t:Tran):Str:=a++[32,111,110,32]++orS t.event++[32]++orS (bL t.guard)++[32]++orS t.dst++[32]++orS (aU t.acts)++[10]
def iL (a:Str) (i:Int):List Tran→Str
 | []=>[]
 | t::r=>if t.src=i then jv a t++iL a i r else iL a i r
theorem G7 {tr:List Tran} {k:Nat} (h:k<tr.length):ETy.get .tran tr k∈tr:=List.mem_of_getElem? (ETy.getElem?_get (t:=.tran) h)
abbrev zXv1:List PI:=[.code [1,1,1,1,1,1,1,1,1,0,1,0,0],.inLoop [1,1,1,1,1,1,1,1,1,0,1,0,0],.inBlock 0,.code [1,1,1,1,1,1,1,1,1,1]]
theorem HN (k:Nat) (o:Str) (Γ:Ctx) (hk:¬k<tr.length):J Tryz.prog 28 (aH Tryz.f28) Γ (Eq2 (.x (.s (o++iL a i (tr.drop k)))) []) zXv1 ({ n:=130,fr:=[(8,.p (.str o)),(1,.i i),(4,.p (.str [])),(7,.p (.str a)),(84,.p (.lst .tran tr)),(85,.i tr.length),(86,.i k)],ck:=[] }):=by
 refine jg qP Tryz.func28 (let x4:=[(32:UInt8),111,110,32]; let x2:=(Tran.event (ETy.get .tran tr k)); let x3:=(bL (Tran.guard (ETy.get .tran tr k))); let x6:=(Tran.dst (ETy.get .tran tr k)); let x7:=(aU (Tran.acts (ETy.get .tran tr k))); let x1:=(a++x4++orS x2++[(32:UInt8)]++orS x3++[(32:UInt8)]++orS x6++[(32:UInt8)]++orS x7++[(10:UInt8)]); let x5:List PI:=zXv1; let x8:=(IntKind.wrap .i64 ((k:Int)+1)); .ite (decide ((k:Int)<(tr.length:Int))) (.need (inRg k tr.length) (.ite (Tran.src (ETy.get .tran tr k) != i) (.stop x5 { n:=130,fr:=[(8,.p (.str o)),(1,.i i),(4,.p (.str [])),(7,.p (.str a)),(84,.p (.lst .tran tr)),(85,.i tr.length),(86,.i x8)],ck:=[] }) (.need (a.length+4≤9223372036854775807) (.need ((a++x4).length+(orS x2).length≤9223372036854775807) (.need ((a++x4++orS x2).length+1≤9223372036854775807) (.need ((a++x4++orS x2++[(32:UInt8)]).length+(orS x3).length≤9223372036854775807) (.need ((a++x4++orS x2++[(32:UInt8)]++orS x3).length+1≤9223372036854775807) (.need ((a++x4++orS x2++[(32:UInt8)]++orS x3++[(32:UInt8)]).length+(orS x6).length≤9223372036854775807) (.need ((a++x4++orS x2++[(32:UInt8)]++orS x3++[(32:UInt8)]++orS x6).length+1≤9223372036854775807) (.need ((a++x4++orS x2++[(32:UInt8)]++orS x3++[(32:UInt8)]++orS x6++[(32:UInt8)]).length+(orS x7).length≤9223372036854775807) (.need ((a++x4++orS x2++[(32:UInt8)]++orS x3++[(32:UInt8)]++orS x6++[(32:UInt8)]++orS x7).length+1≤9223372036854775807) (.need (o.length+x1.length≤9223372036854775807) (.stop x5 { n:=130,fr:=[(8,.p (.str (o++x1))),(1,.i i),(4,.p (.str [])),(7,.p (.str a)),(84,.p (.lst .tran tr)),(85,.i tr.length),(86,.i x8)],ck:=[] }))))))))))))) (.ret (.p (.str o)) [])) ?_
 conv=>zeta
 refine ⟨fun h=>absurd (of_decide_eq_true h) (by omega),fun _=>⟨?_,rfl⟩⟩
 rw [List.drop_eq_nil_of_le (by omega)]
 show SV.x (.s o)=SV.x (.s (o++[]))
 rw [bt]
theorem Mr (M:Nat) (Γ:Ctx) (hM:∀ t∈tr,(jv a t).length≤M) (hl:tr.length≤1000000):∀ (n k:Nat) (o:Str),tr.length - k≤n→o.length+M * n≤9223372036854775807 →
 J Tryz.prog 28 (aH Tryz.f28) Γ (Eq2 (.x (.s (o++iL a i (tr.drop k)))) []) zXv1 ({ n:=130,fr:=[(8,.p (.str o)),(1,.i i),(4,.p (.str [])),(7,.p (.str a)),(84,.p (.lst .tran tr)),(85,.i tr.length),(86,.i k)],ck:=[] }):=by
 intro n
 induction n with
 | zero=>intro k o hn _; exact HN tr i a k o Γ (by omega)
 | succ n ih =>
   intro k o hn ho
   by_cases hk:k<tr.length
   · have hm:=hM _ (G7 hk)
     have hmul:M * (n+1)=M * n+M:=Nat.mul_succ M n
     have hw:IntKind.wrap .i64 ((k:Int)+1)=((k+1:Nat):Int):=dY (by omega)
     have hm2:=hm
     unfold jv at hm2
     simp only [ag,ah,aj] at hm2
     refine jg qP Tryz.func28 (let x4:=[(32:UInt8),111,110,32]; let x2:=(Tran.event (ETy.get .tran tr k)); let x3:=(bL (Tran.guard (ETy.get .tran tr k))); let x6:=(Tran.dst (ETy.get .tran tr k)); let x7:=(aU (Tran.acts (ETy.get .tran tr k))); let x1:=(a++x4++orS x2++[(32:UInt8)]++orS x3++[(32:UInt8)]++orS x6++[(32:UInt8)]++orS x7++[(10:UInt8)]); let x5:List PI:=zXv1; let x8:=(IntKind.wrap .i64 ((k:Int)+1)); .ite (decide ((k:Int)<(tr.length:Int))) (.need (inRg k tr.length) (.ite (Tran.src (ETy.get .tran tr k) != i) (.stop x5 { n:=130,fr:=[(8,.p (.str o)),(1,.i i),(4,.p (.str [])),(7,.p (.str a)),(84,.p (.lst .tran tr)),(85,.i tr.length),(86,.i x8)],ck:=[] }) (.need (a.length+4≤9223372036854775807) (.need ((a++x4).length+(orS x2).length≤9223372036854775807) (.need ((a++x4++orS x2).length+1≤9223372036854775807) (.need ((a++x4++orS x2++[(32:UInt8)]).length+(orS x3).length≤9223372036854775807) (.need ((a++x4++orS x2++[(32:UInt8)]++orS x3).length+1≤9223372036854775807) (.need ((a++x4++orS x2++[(32:UInt8)]++orS x3++[(32:UInt8)]).length+(orS x6).length≤9223372036854775807) (.need ((a++x4++orS x2++[(32:UInt8)]++orS x3++[(32:UInt8)]++orS x6).length+1≤9223372036854775807) (.need ((a++x4++orS x2++[(32:UInt8)]++orS x3++[(32:UInt8)]++orS x6++[(32:UInt8)]).length+(orS x7).length≤9223372036854775807) (.need ((a++x4++orS x2++[(32:UInt8)]++orS x3++[(32:UInt8)]++orS x6++[(32:UInt8)]++orS x7).length+1≤9223372036854775807) (.need (o.length+x1.length≤9223372036854775807) (.stop x5 { n:=130,fr:=[(8,.p (.str (o++x1))),(1,.i i),(4,.p (.str [])),(7,.p (.str a)),(84,.p (.lst .tran tr)),(85,.i tr.length),(86,.i x8)],ck:=[] }))))))))))))) (.ret (.p (.str o)) [])) ?_
     conv=>zeta
     rw [hw,bY (t:=.tran) hk]
     refine ⟨fun _=>⟨⟨by omega,by omega⟩,fun hs=>?_,fun hs=>⟨by omega,?_,?_,?_,?_,?_,?_,?_,?_,?_,?_⟩⟩,fun h=>absurd (of_decide_eq_false h) (by omega)⟩
     · have e:iL a i (ETy.get .tran tr k::tr.drop (k+1))=iL a i (tr.drop (k+1)):=by
        rw [iL,if_neg (by simpa using hs)]
       rw [e]
       exact ih (k+1) o (by omega) (by omega)
     all_goals
      first
      | (simp only [ag,ah,aj]; omega)
      | skip
     have e:iL a i (ETy.get .tran tr k::tr.drop (k+1))=jv a (ETy.get .tran tr k)++iL a i (tr.drop (k+1)):=by
      rw [iL,if_pos (by simpa using hs)]
     rw [e,← aX]
     exact ih (k+1) (o++jv a (ETy.get .tran tr k)) (by omega) (by rw [ag]; omega)
   · exact HN tr i a k o Γ hk
end Go.Proofs.YtpfidgnkokidoaaGreatDoor
