/- Plain: what is read is small. Conditions: none. Contracts: the document's points read. Conditions: sizes. Contracts: the document's reader of charts: states. Conditions: sizes. Contracts: the document's reader of charts: a head's lines. Conditions: sizes. Contracts: charts told: words, variables. Conditions: sizes. Contracts: charts told: a state's first word. Conditions: none. Contracts: charts told: guards and blocks, told or not. Conditions: none. Contracts: charts told: a state's lines. Conditions: sizes. -/
import Derived.Test.YtpfidgnkokidoaaGreatDoorYe
import Derived.Test.YtpfidgnkokidoaaGreatDoorShelfi
import Derived.Test.YtpfidgnkokidoaaGreatDoorWd
import Derived.Test.YtpfidgnkokidoaaGreatDoorXb
import Derived.Test.YtpfidgnkokidoaaGreatDoorWh
import Derived.Test.YtpfidgnkokidoaaGreatDoorWp
import Derived.Test.YtpfidgnkokidoaaGreatDoorUh
import Derived.Test.YtpfidgnkokidoaaGreatDoorMr
import Derived.Test.YtpfidgnkokidoaaGreatDoorMf
import Derived.Test.YtpfidgnkokidoaaGreatDoorUq
import Derived.Test.YtpfidgnkokidoaaGreatDoorWo
import Derived.Test.YtpfidgnkokidoaaGreatDoorWj
import Derived.Test.YtpfidgnkokidoaaGreatDoorWr
import Derived.Test.YtpfidgnkokidoaaGreatDoorNd
namespace Go.Proofs.YtpfidgnkokidoaaGreatDoor
open Go Go.Ev
set_option maxRecDepth 100000
def j7 (l:List Deed):Prop:=∀ d∈l,d.expr.length≤32
theorem j7.nil:j7 []:=by intro d hd; cases hd
theorem vQ (s:Str):(aS s).1.length≤32:=by
 unfold aS
 repeat' split
 all_goals (first | exact bt _ | (show (cK s).out.length≤32; omega))
theorem Iw {s:Str} {d:Deed} (h:ft s=some d):d.expr.length≤32:=by
 have h2:=vQ (b8 s)
 unfold ft at h
 repeat' split at h
 all_goals first
  | (cases h; done)
  | (simp only [aa] at h; subst h; first | exact bt _ | exact h2)
theorem sH:∀ (ps:List Str) (l:List Deed),readAll ps=some l→j7 l
 | [],l,h=>by simp only [readAll,aa] at h; subst h; exact j7.nil
 | p :: r,l,h=>by
   simp only [readAll] at h
   split at h
   · rename_i d m h1 h2
     simp only [aa] at h; subst h
     intro x hx
     rcases aO.1 hx with rfl | hx
     · exact Iw h1
     · exact sH r m h2 x hx
   · cases h
theorem pJ (s:Str):j7 (aM s).1:=by
 unfold aM
 repeat' split
 all_goals first
  | exact j7.nil
  | exact sH _ _ (by assumption)
structure Sm (c:Chart):Prop where
 stat:∀ s∈c.states,j7 s.entry∧j7 s.leave
 tran:∀ t∈c.trans,t.guard.length≤32∧j7 t.acts
theorem iB {p:Prop} {i:Decidable p} {a b:Option Chart} {c:Chart} (h:(if p then a else b)=some c):a=some c∨b=some c:=by
 split at h
 · exact .inl h
 · exact .inr h
theorem Sm.add {c:Chart} (h:Sm c) {l:List Ev.Stat} (hl:∀ x∈l,x∈c.states) {s:Ev.Stat} (h1:j7 s.entry) (h2:j7 s.leave):Sm { c with states:=l++[s] }:=⟨fun x hx=>by
 rcases bb.1 hx with hx | hx
 · exact h.1 x (hl x hx)
 · rw [aW.1 hx]; exact ⟨h1,h2⟩,h.2⟩
theorem Sm.line {c c':Chart} {k:Nat} {l:Str} (h:Sm c) (e:dR c k l=some c'):Sm c':=by
 unfold dR at e
 split at e
 · split at e
   · unfold rJ at e
     obtain ⟨_,rfl⟩:=cJ e; exact ⟨h.1,h.2⟩
   · unfold cu at e
     have hst:∀ {kind:Int} {m:Nat} {d:Int} {w:List Str},aN kind m c d w=some c'→Sm c':=fun e=>by
      unfold aN at e; obtain ⟨_,rfl⟩:=cJ e; exact h.add (fun _=>id) j7.nil j7.nil
     rcases iB e with e | e
     · unfold jH at e; obtain ⟨_,rfl⟩:=cJ e; exact ⟨h.1,h.2⟩
     rcases iB e with e | e
     · unfold nG at e; obtain ⟨_,rfl⟩:=cJ e; exact ⟨h.1,h.2⟩
     rcases iB e with e | e
     · unfold kB at e; obtain ⟨_,rfl⟩:=cJ e; exact ⟨h.1,h.2⟩
     rcases iB e with e | e
     · unfold jj at e; obtain ⟨_,rfl⟩:=cJ e; exact ⟨h.1,h.2⟩
     rcases iB e with e | e
     · exact hst e
     rcases iB e with e | e
     · exact hst e
     rcases iB e with e | e
     · exact hst e
     rcases iB e with e | e
     · exact hst e
     rcases iB e with e | e
     · exact hst e
     rcases iB e with e | e
     · exact hst e
     rcases iB e with e | e
     · unfold ix at e
       split at e
       · rename_i s hs
         obtain ⟨_,rfl⟩:=cJ e
         exact h.add (fun _ hx=>List.dropLast_subset _ hx) (pJ _) (h.1 s (List.mem_of_getLast? hs)).2
       · cases e
     rcases iB e with e | e
     · unfold jC at e
       split at e
       · rename_i s hs
         obtain ⟨_,rfl⟩:=cJ e
         exact h.add (fun _ hx=>List.dropLast_subset _ hx) (h.1 s (List.mem_of_getLast? hs)).1 (pJ _)
       · cases e
     rcases iB e with e | e
     · unfold onC at e
       obtain ⟨_,rfl⟩:=cJ e
       refine ⟨h.1,fun t ht=>?_⟩
       rcases bb.1 ht with ht | ht
       · exact h.2 t ht
       · rw [aW.1 ht]
         constructor
         · show (if _ then _ else _:List Cell).length≤32
           split
           · exact bt _
           · exact vQ _
         · show j7 (if _ then _ else _)
           split
           · exact j7.nil
           · exact pJ _
     · cases e
 · cases e
/-! ### plain -/
variable {s:Str} {a b:Int}
theorem Mn (h:oW s (a,b)):ptA s=a∧ptB s=b:=by
 obtain ⟨g1,g2,g3⟩:=kA ⟨(a,b),h⟩
 obtain ⟨k1,k2,k3⟩:=h
 have:=qz g1 g2 k1 k2 (g3.trans k3.symm)
 exact ⟨this.1,this.2⟩
def RpQ (s:Str):Out:=fun v k=>(fB s→v = .tup [.agg [.pd (.int .i64 (ptA s)),.pd (.int .i64 (ptB s))],.c (.pd (.int .i64 0))])∧(¬fB s→v = .tup [.agg [.pd (.int .i64 0),.pd (.int .i64 0)],.c (.pd (.int .i64 1))])∧k=[]
theorem RpQ.no (h:¬fB s):RpQ s (.tup [.agg [.pd (.int .i64 0),.pd (.int .i64 0)],.c (.pd (.int .i64 1))]) []:=⟨fun h'=>absurd h' h,fun _=>rfl,rfl⟩
theorem RpQ.yes (h:oW s (a,b)):RpQ s (.tup [.agg [.pd (.int .i64 a),.pd (.int .i64 b)],.c (.pd (.int .i64 0))]) []:=by
 obtain ⟨t1,t2⟩:=Mn h
 exact ⟨fun _=>by rw [t1,t2],fun h'=>absurd ⟨(a,b),h⟩ h',rfl⟩
/-! ### the walk -/
end Go.Proofs.YtpfidgnkokidoaaGreatDoor
namespace Go.Proofs.YtpfidgnkokidoaaGreatDoor
open Go Go.Ev
set_option maxRecDepth 100000
def vR (q:Int):Nat:=if q=2∨4<q then 2 else 1
def SdQ (c:Chart) (d:Int) (w:List Str) (q:Int):Out:=fun v k=>(q=0→v = .x (.i 0)∧k=DM c)∧(q≠0→(∀ c',aN q (vR q) c d (w.drop 1)=some c'→v = .x (.i 1)∧Rn 5 k (ckD c'))∧(aN q (vR q) c d (w.drop 1)=none→v = .x (.i 2)))
theorem SdQ.none {c:Chart} {d:Int} {w:List Str}:SdQ c d w 0 (.x (.i 0)) (DM c):=⟨fun _=>⟨rfl,rfl⟩,fun h=>absurd rfl h⟩
theorem SdQ.no {c:Chart} {d q:Int} {w:List Str} {k:List Chunk} (hq:q≠0) (h:aN q (vR q) c d (w.drop 1)=Option.none):SdQ c d w q (.x (.i 2)) k:=⟨fun h2=>absurd h2 hq,fun _=>⟨fun c' h2=>(by rw [h] at h2; cases h2),fun _=>rfl⟩⟩
theorem SdQ.yes {c c':Chart} {d q:Int} {w:List Str} {k:List Chunk} (hq:q≠0) (h:aN q (vR q) c d (w.drop 1)=some c') (hk:k=KC c'):SdQ c d w q (.x (.i 1)) k:=⟨fun h2=>absurd h2 hq,fun _=>⟨fun c2 h2=>⟨rfl,by rw [h] at h2; cases h2; exact (IsD.of3 hk).2⟩,fun h2=>(by rw [h] at h2; cases h2)⟩⟩
end Go.Proofs.YtpfidgnkokidoaaGreatDoor
namespace Go.Proofs.YtpfidgnkokidoaaGreatDoor
open Go Go.Ev
set_option maxRecDepth 100000
def Fp (o:Option Chart):Out:=fun v k=>(∀ c',o=some c'→IsD c' v k)∧(o=none→v = .x (.b false))
theorem Fp.yes {o:Option Chart} {c':Chart} {v:SV} {k:List Chunk} (h:o=some c') (hr:IsD c' v k):Fp o v k:=⟨fun c2 h2=>(by rw [h] at h2; cases h2; exact hr),fun h2=>(by rw [h] at h2; cases h2)⟩
theorem Fp.no {o:Option Chart} {k:List Chunk} (h:o=none):Fp o (.x (.b false)) k:=⟨fun c2 h2=>(by rw [h] at h2; cases h2),fun _=>rfl⟩
end Go.Proofs.YtpfidgnkokidoaaGreatDoor
namespace Go.Proofs.YtpfidgnkokidoaaGreatDoor
open Go Go.Ev
set_option maxRecDepth 100000
def tw (n:Int):Bool:=decide (-9223372036854775808≤n)&&decide (n≤9223372036854775807)
theorem iQ {n:Int}:tw n=true↔-9223372036854775808≤n∧n≤9223372036854775807:=by simp [tw]
theorem Jf (s:Str):ak Tryz.prog 62 [.s s] [] (.x (.s (orS s))) []:=by
 refine dg bG Tryz.func62 (.ite (s==[]) (.ret (.p (.str [45])) []) (.ret (.p (.str s)) [])) fun Γ=>⟨fun h=>⟨?_,rfl⟩,fun h=>⟨?_,rfl⟩⟩
 · have e:s=[]:=eq_of_beq h
   unfold orS; rw [if_pos e]; rfl
 · unfold orS; rw [if_neg (by simpa using h)]
def Ed:Ent:=(62,fun
 | [.c (.pd (.str s))],[]=>some (none,.x (.c (.pd (.str (orS s)))),[])
 | _,_=>none)
theorem Mo:EntOk Tryz.prog Ed:=entOk fun vs ck=>by
 unfold Ed; dsimp only; split
 · rename_i s; exact entS fun hp=>Jf s
 · exact entN
def BN (v:Var):Prop:=tw v.lo=true∧tw v.hi=true∧tw v.init.a=true∧tw v.init.b=true∧v.name.length≤281474976710656
def gl (v:Var):List Str :=
 if v.kind=2 then [jP,v.name,if v.init.a=1 then fp else fY]
 else if v.kind=3 then [jL,v.name,Lib.itoa v.lo,Lib.itoa v.hi,db (cP (bY v.init.a v.init.b)) (cR (bY v.init.a v.init.b))]
 else [nZ,v.name,Lib.itoa v.lo,Lib.itoa v.hi,Lib.itoa v.init.a]
theorem EY (a b c:Str):cr [a,b,c]++[10]=a++[32]++b++([32]++c++[10]):=by simp [cr,glue]
theorem FW (a b c d e:Str):cr [a,b,c,d,e]++[10]=a++[32]++b++([32]++c++[32]++d++[32])++e++[10]:=by simp [cr,glue]
def Lo:Cfg:=⟨bx,[eDg,rh,BI]⟩
theorem Ka:ai Tryz.prog Lo.tab:=(ai.cons G0 (ai.cons xe (ai.cons De ai.nil)))
theorem G8 (v:Var) (h:BN v):ak Tryz.prog 27 [.e .var v] [] (.x (.s (cr (gl v)++[10]))) []:=by
 obtain ⟨h1,h2,h3,h4,h5⟩:=h
 have a1:=iQ.1 h1; have a2:=iQ.1 h2; have a3:=iQ.1 h3; have a4:=iQ.1 h4
 have l1:=jZ _ a1.1 a1.2; have l2:=jZ _ a2.1 a2.2; have l3:=jZ _ a3.1 a3.2
 have pa:pIn (cP (bY v.init.a v.init.b))=true:=by simp only [pIn,ab,decide_eq_true_eq]; exact sU
 have pb:pIn (cR (bY v.init.a v.init.b))=true:=by simp only [pIn,ab,decide_eq_true_eq]; exact tm
 have l4:=(hP pa).1; have l5:=(hP pb).1
 have l6:(db (cP (bY v.init.a v.init.b)) (cR (bY v.init.a v.init.b))).length≤20:=by
  unfold db; split <;> (simp only [ag,ah,aj]; omega)
 refine dg Ka Tryz.func27 (let x1:=(bY v.init.a v.init.b); let x2:=[(112:UInt8),111,105,110,116,32]; let x3:=[(98:UInt8),111,111,108,32]; let x4:=[(105:UInt8),110,116,32]; let x5:=(-9223372036854775808:Int); let x6:=(9223372036854775807:Int); let x7:=(5+v.name.length≤9223372036854775807); .need (x5≤v.lo∧v.lo≤x6) (.need (1+(Lib.itoa v.lo).length≤9223372036854775807) (.need (([(32:UInt8)]++Lib.itoa v.lo).length+1≤9223372036854775807) (.need (x5≤v.hi∧v.hi≤x6) (.need (([(32:UInt8)]++Lib.itoa v.lo++[(32:UInt8)]).length+(Lib.itoa v.hi).length≤9223372036854775807) (.need (([(32:UInt8)]++Lib.itoa v.lo++[(32:UInt8)]++Lib.itoa v.hi).length+1≤9223372036854775807) (.ite (v.kind==(2:Int)) (.ite (v.init.a==(1:Int)) (.need x7 (.need ((x3++v.name).length+6≤9223372036854775807) (.ret (.p (.str (x3++v.name++[(32:UInt8),116,114,117,101,10]))) []))) (.need x7 (.need ((x3++v.name).length+7≤9223372036854775807) (.ret (.p (.str (x3++v.name++[(32:UInt8),102,97,108,115,101,10]))) [])))) (.ite (v.kind==(3:Int)) (.need (eE x1=true) (.need (6+v.name.length≤9223372036854775807) (.need ((x2++v.name).length+([(32:UInt8)]++Lib.itoa v.lo++[(32:UInt8)]++Lib.itoa v.hi++[(32:UInt8)]).length≤9223372036854775807) (.need ((x2++v.name++([(32:UInt8)]++Lib.itoa v.lo++[(32:UInt8)]++Lib.itoa v.hi++[(32:UInt8)])).length+(db (cP x1) (cR x1)).length≤9223372036854775807) (.need ((x2++v.name++([(32:UInt8)]++Lib.itoa v.lo++[(32:UInt8)]++Lib.itoa v.hi++[(32:UInt8)])++db (cP x1) (cR x1)).length+1≤9223372036854775807) (.ret (.p (.str (x2++v.name++([(32:UInt8)]++Lib.itoa v.lo++[(32:UInt8)]++Lib.itoa v.hi++[(32:UInt8)])++db (cP x1) (cR x1)++[(10:UInt8)]))) [])))))) (.need (4+v.name.length≤9223372036854775807) (.need ((x4++v.name).length+([(32:UInt8)]++Lib.itoa v.lo++[(32:UInt8)]++Lib.itoa v.hi++[(32:UInt8)]).length≤9223372036854775807) (.need (x5≤v.init.a∧v.init.a≤x6) (.need ((x4++v.name++([(32:UInt8)]++Lib.itoa v.lo++[(32:UInt8)]++Lib.itoa v.hi++[(32:UInt8)])).length+(Lib.itoa v.init.a).length≤9223372036854775807) (.need ((x4++v.name++([(32:UInt8)]++Lib.itoa v.lo++[(32:UInt8)]++Lib.itoa v.hi++[(32:UInt8)])++Lib.itoa v.init.a).length+1≤9223372036854775807) (.ret (.p (.str (x4++v.name++([(32:UInt8)]++Lib.itoa v.lo++[(32:UInt8)]++Lib.itoa v.hi++[(32:UInt8)])++Lib.itoa v.init.a++[(10:UInt8)]))) [])))))))))))))) fun Γ=>?_
 conv=>zeta
 refine ⟨a1,by omega,by simp only [ag,ah,aj]; omega,a2,by simp only [ag,ah,aj]; omega,by simp only [ag,ah,aj]; omega,fun hk=>⟨fun hi=>⟨by omega,by simp only [ag,ah,aj]; omega,?_,rfl⟩,fun hi=>⟨by omega,by simp only [ag,ah,aj]; omega,?_,rfl⟩⟩,fun hk=>⟨fun hp=>⟨vH _ _,by omega,by simp only [ag,ah,aj]; omega,by simp only [ag,ah,aj]; omega,by simp only [ag,ah,aj]; omega,?_,rfl⟩,fun hp=>⟨by omega,by simp only [ag,ah,aj]; omega,a3,by simp only [ag,ah,aj]; omega,by simp only [ag,ah,aj]; omega,?_,rfl⟩⟩⟩
 · have e:gl v=[jP,v.name,fp]:=by unfold gl; rw [if_pos (eq_of_beq hk),if_pos (eq_of_beq hi)]
   rw [e,EY]; rfl
 · have e:gl v=[jP,v.name,fY]:=by unfold gl; rw [if_pos (eq_of_beq hk),if_neg (beq_eq_false_iff_ne.1 hi)]
   rw [e,EY]; rfl
 · have e:gl v=[jL,v.name,Lib.itoa v.lo,Lib.itoa v.hi,db (cP (bY v.init.a v.init.b)) (cR (bY v.init.a v.init.b))]:=by unfold gl; rw [if_neg (beq_eq_false_iff_ne.1 hk),if_pos (eq_of_beq hp)]
   rw [e,FW]; rfl
 · have e:gl v=[nZ,v.name,Lib.itoa v.lo,Lib.itoa v.hi,Lib.itoa v.init.a]:=by unfold gl; rw [if_neg (beq_eq_false_iff_ne.1 hk),if_neg (beq_eq_false_iff_ne.1 hp)]
   rw [e,FW]; rfl
def yK:Ent:=(27,fun
 | [.agg [.pd (.str a),.pd (.int .i64 b),.pd (.int .i64 e),.pd (.int .i64 f),.pd (.int .i64 g),.pd (.int .i64 h),.pd (.int .i64 i)]],[]=>some (some (BN (⟨a,b,e,f,⟨g,h,i⟩⟩:Var)),.x (.c (.pd (.str (cr (gl (⟨a,b,e,f,⟨g,h,i⟩⟩:Var))++[10])))),[])
 | _,_=>none)
theorem Li:EntOk Tryz.prog yK:=entOk fun vs ck=>by
 unfold yK; dsimp only; split
 · rename_i a b e f g h i; exact entS fun hp=>G8 (⟨a,b,e,f,⟨g,h,i⟩⟩:Var) hp
 · exact entN
theorem KW {v:Var} (h:pIn v.init.a=true) (h2:pIn v.init.b=true):gl v=hG v:=by
 obtain ⟨_,m2,m3,_⟩:=kq h h2
 unfold gl hG
 rw [m2,m3]
end Go.Proofs.YtpfidgnkokidoaaGreatDoor
namespace Go.Proofs.YtpfidgnkokidoaaGreatDoor
open Go Go.Ev
set_option maxRecDepth 100000
def da (k:Int):Str:=if 1≤k∧k≤6 then jd k else [63]
def Oc:Tree→Tree
 | .ite _ _ b=>b
 | t=>t
theorem Gu (k:Int) (h:¬(1≤k∧k≤6)):ak Tryz.prog 59 [.i k] [] (.x (.s (da k))) []:=by
 refine dg bG Tryz.func59 (Tree.ite (decide (k<1)||decide (k>6)) (Tree.ret (.x (.s [63])) []) (Oc (exec Tryz.prog cE Tryz.f59 (aI Tryz.f59) 1000 [PI.code []] (cN Tryz.f59.ntmps [.i k] [])))) fun Γ=>?_
 refine ⟨fun _=>⟨?_,rfl⟩,fun hc=>?_⟩
 · unfold da; rw [if_neg h]
 · rw [aJ,decide_eq_false_iff_not,decide_eq_false_iff_not] at hc
   exact absurd ⟨by omega,by omega⟩ h
theorem Mg:ak Tryz.prog 59 [.i 1] [] (.x (.s (da 1))) []:=by
 refine dg bG Tryz.func59 (.ite false (.ret (.p (.str [63])) []) (.need ((0:Int)≤IntKind.wrap .i64 ((1:Int) - 1)∧IntKind.wrap .i64 ((1:Int) - 1)<(↑(6:Nat):Int)) (.ret (.p (.str [98,97,115,105,99])) []))) fun Γ=>⟨fun h=>absurd h (by decide),fun _=>⟨by decide,rfl,rfl⟩⟩
theorem Mv:ak Tryz.prog 59 [.i 2] [] (.x (.s (da 2))) []:=by
 refine dg bG Tryz.func59 (.ite false (.ret (.p (.str [63])) []) (.need ((0:Int)≤IntKind.wrap .i64 ((2:Int) - 1)∧IntKind.wrap .i64 ((2:Int) - 1)<(↑(6:Nat):Int)) (.ret (.p (.str [111,110,101])) []))) fun Γ=>⟨fun h=>absurd h (by decide),fun _=>⟨by decide,rfl,rfl⟩⟩
theorem Nl:ak Tryz.prog 59 [.i 3] [] (.x (.s (da 3))) []:=by
 refine dg bG Tryz.func59 (.ite false (.ret (.p (.str [63])) []) (.need ((0:Int)≤IntKind.wrap .i64 ((3:Int) - 1)∧IntKind.wrap .i64 ((3:Int) - 1)<(↑(6:Nat):Int)) (.ret (.p (.str [98,111,116,104])) []))) fun Γ=>⟨fun h=>absurd h (by decide),fun _=>⟨by decide,rfl,rfl⟩⟩
theorem Mf:ak Tryz.prog 59 [.i 4] [] (.x (.s (da 4))) []:=by
 refine dg bG Tryz.func59 (.ite false (.ret (.p (.str [63])) []) (.need ((0:Int)≤IntKind.wrap .i64 ((4:Int) - 1)∧IntKind.wrap .i64 ((4:Int) - 1)<(↑(6:Nat):Int)) (.ret (.p (.str [102,105,110,97,108])) []))) fun Γ=>⟨fun h=>absurd h (by decide),fun _=>⟨by decide,rfl,rfl⟩⟩
theorem No:ak Tryz.prog 59 [.i 5] [] (.x (.s (da 5))) []:=by
 refine dg bG Tryz.func59 (.ite false (.ret (.p (.str [63])) []) (.need ((0:Int)≤IntKind.wrap .i64 ((5:Int) - 1)∧IntKind.wrap .i64 ((5:Int) - 1)<(↑(6:Nat):Int)) (.ret (.p (.str [115,104,97,108,108,111,119])) []))) fun Γ=>⟨fun h=>absurd h (by decide),fun _=>⟨by decide,rfl,rfl⟩⟩
theorem MP:ak Tryz.prog 59 [.i 6] [] (.x (.s (da 6))) []:=by
 refine dg bG Tryz.func59 (.ite false (.ret (.p (.str [63])) []) (.need ((0:Int)≤IntKind.wrap .i64 ((6:Int) - 1)∧IntKind.wrap .i64 ((6:Int) - 1)<(↑(6:Nat):Int)) (.ret (.p (.str [100,101,101,112])) []))) fun Γ=>⟨fun h=>absurd h (by decide),fun _=>⟨by decide,rfl,rfl⟩⟩
theorem Fi (k:Int):ak Tryz.prog 59 [.i k] [] (.x (.s (da k))) []:=by
 by_cases h:1≤k∧k≤6
 · have:k=1∨k=2∨k=3∨k=4∨k=5∨k=6:=by omega
   rcases this with rfl | rfl | rfl | rfl | rfl | rfl
   · exact Mg
   · exact Mv
   · exact Nl
   · exact Mf
   · exact No
   · exact MP
 · exact Gu k h
def uc:Ent:=(59,fun
 | [.c (.pd (.int .i64 k))],[]=>some (none,.x (.c (.pd (.str (da k)))),[])
 | _,_=>none)
theorem Hg:EntOk Tryz.prog uc:=entOk fun vs ck=>by
 unfold uc; dsimp only; split
 · rename_i k; exact entS fun hp=>Fi k
 · exact entN
end Go.Proofs.YtpfidgnkokidoaaGreatDoor
namespace Go.Proofs.YtpfidgnkokidoaaGreatDoor
open Go Go.Ev
set_option maxRecDepth 100000
def wC (l:List Deed):Int:=if dA l=true then 0 else 1
def wP (l:List Cell):Int:=if cS l=true then 0 else 1
theorem JK (l:List Cell):ak Tryz.prog 61 [.l .cell l] [] (.tup [.s (bN l),.i (wP l)]) []:=by
 cases h:cS l
 · have e1:bN l=[]:=by unfold bN; rw [if_neg (by rw [h]; decide)]
   have e2:wP l=1:=by unfold wP; rw [if_neg (by rw [h]; decide)]
   rw [e1,e2]; exact Jw l h
 · have e2:wP l=0:=by unfold wP; rw [if_pos h]
   have e1:bN l=fD l:=by unfold bN; rw [if_pos h]
   rw [e1,e2]; exact Dm l h
def EX:Ent:=(61,fun
 | [.c (.pd (.lst .cell l))],[]=>some (none,.tup [.c (.pd (.str (bN l))),.c (.pd (.int .i64 (wP l)))],[])
 | _,_=>none)
theorem MT:EntOk Tryz.prog EX:=entOk fun vs ck=>by
 unfold EX; dsimp only; split
 · rename_i l; exact entS fun hp=>JK l
 · exact entN
theorem Ks (l:List Deed):ak Tryz.prog 60 [.l .deed l] [] (.tup [.s (aV l),.i (wC l)]) []:=by
 cases h:dA l
 · have e1:aV l=[]:=by unfold aV; rw [if_neg (by rw [h]; decide)]
   have e2:wC l=1:=by unfold wC; rw [if_neg (by rw [h]; decide)]
   rw [e1,e2]; exact Ol l h
 · have e2:wC l=0:=by unfold wC; rw [if_pos h]
   have e1:aV l=gD l:=by unfold aV; rw [if_pos h]
   rw [e1,e2]; exact Pj l h
def F5:Ent:=(60,fun
 | [.c (.pd (.lst .deed l))],[]=>some (none,.tup [.c (.pd (.str (aV l))),.c (.pd (.int .i64 (wC l)))],[])
 | _,_=>none)
theorem L2:EntOk Tryz.prog F5:=entOk fun vs ck=>by
 unfold F5; dsimp only; split
 · rename_i l; exact entS fun hp=>Ks l
 · exact entN
def uO:Cfg:=⟨bx,[Ed,uc,EX,F5,oM]⟩
theorem qi:ai Tryz.prog uO.tab:=(ai.cons Mo (ai.cons Hg (ai.cons MT (ai.cons L2 (ai.cons uB ai.nil)))))
end Go.Proofs.YtpfidgnkokidoaaGreatDoor
namespace Go.Proofs.YtpfidgnkokidoaaGreatDoor
open Go Go.Ev
set_option maxRecDepth 100000
variable (tr:List Tran) (i:Int) (a:Str)
def jD (t:Tran):Str:=a++[32,111,110,32]++orS t.event++[32]++orS (bN t.guard)++[32]++orS t.dst++[32]++orS (aV t.acts)++[10]
def iK (a:Str) (i:Int):List Tran→Str
 | []=>[]
 | t::r=>if t.src=i then jD a t++iK a i r else iK a i r
theorem Gx {tr:List Tran} {k:Nat} (h:k<tr.length):ETy.get .tran tr k∈tr:=List.mem_of_getElem? (ETy.getElem?_get (t:=.tran) h)
abbrev zXv1:List PI:=[.code [1,1,1,1,1,1,1,1,1,0,1,0,0],.inLoop [1,1,1,1,1,1,1,1,1,0,1,0,0],.inBlock 0,.code [1,1,1,1,1,1,1,1,1,1]]
theorem GH (k:Nat) (o:Str) (Γ:Ctx) (hk:¬k<tr.length):J Tryz.prog 28 (aI Tryz.f28) Γ (Eq2 (.x (.s (o++iK a i (tr.drop k)))) []) zXv1 ({ n:=130,fr:=[(8,.p (.str o)),(1,.i i),(4,.p (.str [])),(7,.p (.str a)),(84,.p (.lst .tran tr)),(85,.i tr.length),(86,.i k)],ck:=[] }):=by
 refine jg qi Tryz.func28 (let x4:=[(32:UInt8),111,110,32]; let x2:=(Tran.event (ETy.get .tran tr k)); let x3:=(bN (Tran.guard (ETy.get .tran tr k))); let x6:=(Tran.dst (ETy.get .tran tr k)); let x7:=(aV (Tran.acts (ETy.get .tran tr k))); let x1:=(a++x4++orS x2++[(32:UInt8)]++orS x3++[(32:UInt8)]++orS x6++[(32:UInt8)]++orS x7++[(10:UInt8)]); let x5:List PI:=zXv1; let x8:=(IntKind.wrap .i64 ((k:Int)+1)); .ite (decide ((k:Int)<(tr.length:Int))) (.need (inRg k tr.length) (.ite (Tran.src (ETy.get .tran tr k) != i) (.stop x5 { n:=130,fr:=[(8,.p (.str o)),(1,.i i),(4,.p (.str [])),(7,.p (.str a)),(84,.p (.lst .tran tr)),(85,.i tr.length),(86,.i x8)],ck:=[] }) (.need (a.length+4≤9223372036854775807) (.need ((a++x4).length+(orS x2).length≤9223372036854775807) (.need ((a++x4++orS x2).length+1≤9223372036854775807) (.need ((a++x4++orS x2++[(32:UInt8)]).length+(orS x3).length≤9223372036854775807) (.need ((a++x4++orS x2++[(32:UInt8)]++orS x3).length+1≤9223372036854775807) (.need ((a++x4++orS x2++[(32:UInt8)]++orS x3++[(32:UInt8)]).length+(orS x6).length≤9223372036854775807) (.need ((a++x4++orS x2++[(32:UInt8)]++orS x3++[(32:UInt8)]++orS x6).length+1≤9223372036854775807) (.need ((a++x4++orS x2++[(32:UInt8)]++orS x3++[(32:UInt8)]++orS x6++[(32:UInt8)]).length+(orS x7).length≤9223372036854775807) (.need ((a++x4++orS x2++[(32:UInt8)]++orS x3++[(32:UInt8)]++orS x6++[(32:UInt8)]++orS x7).length+1≤9223372036854775807) (.need (o.length+x1.length≤9223372036854775807) (.stop x5 { n:=130,fr:=[(8,.p (.str (o++x1))),(1,.i i),(4,.p (.str [])),(7,.p (.str a)),(84,.p (.lst .tran tr)),(85,.i tr.length),(86,.i x8)],ck:=[] }))))))))))))) (.ret (.p (.str o)) [])) ?_
 conv=>zeta
 refine ⟨fun h=>absurd (of_decide_eq_true h) (by omega),fun _=>⟨?_,rfl⟩⟩
 rw [List.drop_eq_nil_of_le (by omega)]
 show SV.x (.s o)=SV.x (.s (o++[]))
 rw [bu]
theorem MJ (M:Nat) (Γ:Ctx) (hM:∀ t∈tr,(jD a t).length≤M) (hl:tr.length≤1000000):∀ (n k:Nat) (o:Str),tr.length - k≤n→o.length+M * n≤9223372036854775807 →
 J Tryz.prog 28 (aI Tryz.f28) Γ (Eq2 (.x (.s (o++iK a i (tr.drop k)))) []) zXv1 ({ n:=130,fr:=[(8,.p (.str o)),(1,.i i),(4,.p (.str [])),(7,.p (.str a)),(84,.p (.lst .tran tr)),(85,.i tr.length),(86,.i k)],ck:=[] }):=by
 intro n
 induction n with
 | zero=>intro k o hn _; exact GH tr i a k o Γ (by omega)
 | succ n ih =>
   intro k o hn ho
   by_cases hk:k<tr.length
   · have hm:=hM _ (Gx hk)
     have hmul:M * (n+1)=M * n+M:=Nat.mul_succ M n
     have hw:IntKind.wrap .i64 ((k:Int)+1)=((k+1:Nat):Int):=ee (by omega)
     have hm2:=hm
     unfold jD at hm2
     simp only [ag,ah,aj] at hm2
     refine jg qi Tryz.func28 (let x4:=[(32:UInt8),111,110,32]; let x2:=(Tran.event (ETy.get .tran tr k)); let x3:=(bN (Tran.guard (ETy.get .tran tr k))); let x6:=(Tran.dst (ETy.get .tran tr k)); let x7:=(aV (Tran.acts (ETy.get .tran tr k))); let x1:=(a++x4++orS x2++[(32:UInt8)]++orS x3++[(32:UInt8)]++orS x6++[(32:UInt8)]++orS x7++[(10:UInt8)]); let x5:List PI:=zXv1; let x8:=(IntKind.wrap .i64 ((k:Int)+1)); .ite (decide ((k:Int)<(tr.length:Int))) (.need (inRg k tr.length) (.ite (Tran.src (ETy.get .tran tr k) != i) (.stop x5 { n:=130,fr:=[(8,.p (.str o)),(1,.i i),(4,.p (.str [])),(7,.p (.str a)),(84,.p (.lst .tran tr)),(85,.i tr.length),(86,.i x8)],ck:=[] }) (.need (a.length+4≤9223372036854775807) (.need ((a++x4).length+(orS x2).length≤9223372036854775807) (.need ((a++x4++orS x2).length+1≤9223372036854775807) (.need ((a++x4++orS x2++[(32:UInt8)]).length+(orS x3).length≤9223372036854775807) (.need ((a++x4++orS x2++[(32:UInt8)]++orS x3).length+1≤9223372036854775807) (.need ((a++x4++orS x2++[(32:UInt8)]++orS x3++[(32:UInt8)]).length+(orS x6).length≤9223372036854775807) (.need ((a++x4++orS x2++[(32:UInt8)]++orS x3++[(32:UInt8)]++orS x6).length+1≤9223372036854775807) (.need ((a++x4++orS x2++[(32:UInt8)]++orS x3++[(32:UInt8)]++orS x6++[(32:UInt8)]).length+(orS x7).length≤9223372036854775807) (.need ((a++x4++orS x2++[(32:UInt8)]++orS x3++[(32:UInt8)]++orS x6++[(32:UInt8)]++orS x7).length+1≤9223372036854775807) (.need (o.length+x1.length≤9223372036854775807) (.stop x5 { n:=130,fr:=[(8,.p (.str (o++x1))),(1,.i i),(4,.p (.str [])),(7,.p (.str a)),(84,.p (.lst .tran tr)),(85,.i tr.length),(86,.i x8)],ck:=[] }))))))))))))) (.ret (.p (.str o)) [])) ?_
     conv=>zeta
     rw [hw,bZ (t:=.tran) hk]
     refine ⟨fun _=>⟨⟨by omega,by omega⟩,fun hs=>?_,fun hs=>⟨by omega,?_,?_,?_,?_,?_,?_,?_,?_,?_,?_⟩⟩,fun h=>absurd (of_decide_eq_false h) (by omega)⟩
     · have e:iK a i (ETy.get .tran tr k::tr.drop (k+1))=iK a i (tr.drop (k+1)):=by
        rw [iK,if_neg (by simpa using hs)]
       rw [e]
       exact ih (k+1) o (by omega) (by omega)
     all_goals
      first
      | (simp only [ag,ah,aj]; omega)
      | skip
     have e:iK a i (ETy.get .tran tr k::tr.drop (k+1))=jD a (ETy.get .tran tr k)++iK a i (tr.drop (k+1)):=by
      rw [iK,if_pos (by simpa using hs)]
     rw [e,← aY]
     exact ih (k+1) (o++jD a (ETy.get .tran tr k)) (by omega) (by rw [ag]; omega)
   · exact GH tr i a k o Γ hk
end Go.Proofs.YtpfidgnkokidoaaGreatDoor
