/- Contracts: the document's kinds. Conditions: none. Contracts: texts' beginnings, events' names; behind the kinds' texts. Conditions: none. Contracts: names, events' names. Conditions: none. Contracts: the kinds of lines, a map. Conditions: none. -/
import Derived.Test.YtlhgnjmdopjpeaaGreatDoorFe
import Derived.Test.YtlhgnjmdopjpeaaGreatDoorKb
import Derived.Lib.AppendIntMem
import Derived.Test.YtlhgnjmdopjpeaaGreatDoorVe
namespace Go.Proofs.YtlhgnjmdopjpeaaGreatDoor
open Go Go.Ev
set_option maxRecDepth 100000
def eK(K:Int→Int×Int):Ent:=(138,fun
 |[.c (.pd (.lst .cell l)),.c (.pd (.int .i64 e)),.c (.pd (.lst .var vs)),.c (.pd (.lst .str ss))],[]=>some (some (ah Tryz.prog 138 [SX.l .cell l,SX.i e,SX.l .var vs,SX.l .str ss] [] (cL (K e)) []),cL (K e),[])
 |_,_=>none)
def eB(B:Int→Int):Ent:=(186,fun
 |[.c (.pd (.lst .cell l)),.c (.pd (.int .i64 e))],[]=>some (some (ah Tryz.prog 186 [SX.l .cell l,SX.i e] [] (.x (.i (B e))) []),.x (.i (B e)),[])
 |_,_=>none)
def Fj(K:Int→Int×Int)(B:Int→Int):Cfg:=⟨aU,[BN,uS,eJn,eK K,eB B]⟩
def Ow(K:Int→Int×Int):Cfg:=⟨aU,[oJ,eK K]⟩
theorem OM{K:Int→Int×Int}(vs:List SX)(ck:List Chunk)(p:Option Prop)(ret:SV)(ck':List Chunk)(h:(eK K).2 vs ck=some (p,ret,ck'))(hp:Holds p):ah Tryz.prog (eK K).1 vs ck ret ck':=by
 unfold eK at h
 simp only at h
 split at h
 · simp only[aa,ae]at h
   obtain⟨rfl,rfl,rfl⟩:=h
   exact hp
 ·simp at h
theorem Sm{B:Int→Int}(vs:List SX)(ck:List Chunk)(p:Option Prop)(ret:SV)(ck':List Chunk)(h:(eB B).2 vs ck=some (p,ret,ck'))(hp:Holds p):ah Tryz.prog (eB B).1 vs ck ret ck':=by
 unfold eB at h
 simp only at h
 split at h
 · simp only[aa,ae]at h
   obtain⟨rfl,rfl,rfl⟩:=h
   exact hp
 ·simp at h
theorem wg{K:Int→Int×Int}{B:Int→Int}:ag Tryz.prog (Fj K B).tab:=ag.cons Ep (ag.cons Je (ag.cons RG (ag.cons OM (ag.cons Sm ag.nil))))
theorem Li{K:Int→Int×Int}:ag Tryz.prog (Ow K).tab:=ag.cons uU (ag.cons OM ag.nil)
theorem qT{l pre post:List Cell}{c:Cell}{front:List Cell}(hq:l=pre++(front++[c])++post):pre.length+front.length<l.length∧ETy.get .cell l (pre.length+front.length)=c:=by
 have he:pre.length+front.length<l.length:=by rw[hq];simp
 refine⟨he,ETy.get_eq (t:=.cell) ?_⟩
 have hx:pre.length+front.length=(pre++front).length:=by simp
 rw[hx,hq,←bD,bD,List.getElem?_append_right (av _),eY];rfl
theorem KP(c:Cell)(h:0≤aV c):c.op≤23:=by
 unfold aV cV at h
 simp only[cond_eq_ite]at h
 repeat' split at h
 all_goals simp_all
 all_goals omega
theorem nT(l:List Cell)(vs:List Var)(ss:List Str)(hl:l.length≤32):∀(t:Tm),t.ok→∀(pre post:List Cell),l=pre++t.flat++post →
 ah Tryz.prog 138 [.l .cell l,.i ((pre.length:Int)+t.flat.length - 1),.l .var vs,.l .str ss] [] (cL (t.kind vs ss)) []
 | .leaf c,h,pre,post,hq=>by
   obtain⟨he,hc⟩:=qT (front:=[]) (pre:=pre) (post:=post) (c:=c) (l:=l) (by rw[hq];simp[Tm.flat])
   have e1:(pre.length:Int)+((Tm.leaf c).flat.length:Int) - 1=((pre.length+([]:List Cell).length:Nat):Int):=by simp[Tm.flat]
   rw[e1]
   generalize pre.length+([]:List Cell).length=e at *
   let K:Int→Int×Int:=fun _=>(0,0)
   let B:Int→Int:=fun _=>0
   refine dg (cfg:=(Fj K B)) wg Tryz.func138 (.need (inRg e l.length) (.ite (cV (Cell.op (ETy.get .cell l e)) (Cell.a (ETy.get .cell l e)) (Cell.name (ETy.get .cell l e))==(0:Int)) (.ret (.tup [.i ((b6 (ETy.get .cell l e) vs ss).1),.i ((b6 (ETy.get .cell l e) vs ss).2)]) []) (.ite (cV (Cell.op (ETy.get .cell l e)) (Cell.a (ETy.get .cell l e)) (Cell.name (ETy.get .cell l e))==(1:Int)) (.need (ah Tryz.prog (138:FuncId) [SX.l .cell l,SX.i (IntKind.wrap .i64 ((e:Int) - 1)),SX.l .var vs,SX.l .str ss] [] (cL (K (IntKind.wrap .i64 ((e:Int) - 1)))) []) (.ite ((K (IntKind.wrap .i64 ((e:Int) - 1))).2 != (0:Int)) (.ret (.tup [.i 0,.i ((K (IntKind.wrap .i64 ((e:Int) - 1))).2)]) []) (.ite (Cell.op (ETy.get .cell l e)==(7:Int)&&(K (IntKind.wrap .i64 ((e:Int) - 1))).1 != (2:Int)) (.ret (.tup [.i ((K (IntKind.wrap .i64 ((e:Int) - 1))).1),.i 0]) []) (.ite (Cell.op (ETy.get .cell l e)==(8:Int)&&(K (IntKind.wrap .i64 ((e:Int) - 1))).1==(2:Int)) (.ret (.tup [.i ((K (IntKind.wrap .i64 ((e:Int) - 1))).1),.i 0]) []) (.ite (decide (Cell.op (ETy.get .cell l e)>(8:Int))&&(K (IntKind.wrap .i64 ((e:Int) - 1))).1==(3:Int)) (.ret (.tup [.i 1,.i 0]) []) (.ret (.tup [.i 0,.i 8]) [])))))) (.need (ah Tryz.prog (186:FuncId) [SX.l .cell l,SX.i (IntKind.wrap .i64 ((e:Int) - 1))] [] (.x (SX.i (B (IntKind.wrap .i64 ((e:Int) - 1))))) []) (.need (ah Tryz.prog (138:FuncId) [SX.l .cell l,SX.i (IntKind.wrap .i64 (B (IntKind.wrap .i64 ((e:Int) - 1)) - (1:Int))),SX.l .var vs,SX.l .str ss] [] (cL (K (IntKind.wrap .i64 (B (IntKind.wrap .i64 ((e:Int) - 1)) - (1:Int))))) []) (.ite ((K (IntKind.wrap .i64 (B (IntKind.wrap .i64 ((e:Int) - 1)) - (1:Int)))).2 != (0:Int)) (.ret (.tup [.i 0,.i ((K (IntKind.wrap .i64 (B (IntKind.wrap .i64 ((e:Int) - 1)) - (1:Int)))).2)]) []) (.need (ah Tryz.prog (138:FuncId) [SX.l .cell l,SX.i (IntKind.wrap .i64 ((e:Int) - 1)),SX.l .var vs,SX.l .str ss] [] (cL (K (IntKind.wrap .i64 ((e:Int) - 1)))) []) (.ite ((K (IntKind.wrap .i64 ((e:Int) - 1))).2 != (0:Int)) (.ret (.tup [.i 0,.i ((K (IntKind.wrap .i64 ((e:Int) - 1))).2)]) []) (.ite ((K (IntKind.wrap .i64 (B (IntKind.wrap .i64 ((e:Int) - 1)) - (1:Int)))).1 != (K (IntKind.wrap .i64 ((e:Int) - 1))).1) (.ret (.tup [.i 0,.i 8]) []) (.ret (.tup [.i ((iP (Cell.op (ETy.get .cell l e)) ((K (IntKind.wrap .i64 (B (IntKind.wrap .i64 ((e:Int) - 1)) - (1:Int)))).1)).1),.i ((iP (Cell.op (ETy.get .cell l e)) ((K (IntKind.wrap .i64 (B (IntKind.wrap .i64 ((e:Int) - 1)) - (1:Int)))).1)).2)]) [])))))))))) fun Γ=>?_
   rw[hc]
   have hw:cV c.op c.a c.name=0:=h
   rw[hw]
   exact⟨⟨by omega,by omega⟩,fun _=>⟨rfl,rfl⟩,fun h=>Bool.noConfusion h⟩
 | .un c t,⟨hw,ht⟩,pre,post,hq=>by
   obtain⟨he,hc⟩:=qT (front:=t.flat) (pre:=pre) (post:=post) (c:=c) (l:=l) hq
   have e1:(pre.length:Int)+((Tm.un c t).flat.length:Int) - 1=((pre.length+t.flat.length:Nat):Int):=by simp only[Tm.flat,au,ax,bJ];omega
   rw[e1]
   have hop:=iQ c (by omega)
   have hw':cV c.op c.a c.name=1:=hw
   have e2:IntKind.wrap .i64 (((pre.length+t.flat.length:Nat):Int) - 1)=(pre.length:Int)+t.flat.length - 1:=by
    have:=t.flat_pos
    rw[cg (by omega) (by omega)];omega
   have ih:=nT l vs ss hl t ht pre ([c]++post) (by rw[hq];simp[Tm.flat])
   rw[←e2]at ih
   generalize pre.length+t.flat.length=e at *
   let K:Int→Int×Int:=fun _=>t.kind vs ss
   let B:Int→Int:=fun _=>0
   refine dg (cfg:=(Fj K B)) wg Tryz.func138 (.need (inRg e l.length) (.ite (cV (Cell.op (ETy.get .cell l e)) (Cell.a (ETy.get .cell l e)) (Cell.name (ETy.get .cell l e))==(0:Int)) (.ret (.tup [.i ((b6 (ETy.get .cell l e) vs ss).1),.i ((b6 (ETy.get .cell l e) vs ss).2)]) []) (.ite (cV (Cell.op (ETy.get .cell l e)) (Cell.a (ETy.get .cell l e)) (Cell.name (ETy.get .cell l e))==(1:Int)) (.need (ah Tryz.prog (138:FuncId) [SX.l .cell l,SX.i (IntKind.wrap .i64 ((e:Int) - 1)),SX.l .var vs,SX.l .str ss] [] (cL (K (IntKind.wrap .i64 ((e:Int) - 1)))) []) (.ite ((K (IntKind.wrap .i64 ((e:Int) - 1))).2 != (0:Int)) (.ret (.tup [.i 0,.i ((K (IntKind.wrap .i64 ((e:Int) - 1))).2)]) []) (.ite (Cell.op (ETy.get .cell l e)==(7:Int)&&(K (IntKind.wrap .i64 ((e:Int) - 1))).1 != (2:Int)) (.ret (.tup [.i ((K (IntKind.wrap .i64 ((e:Int) - 1))).1),.i 0]) []) (.ite (Cell.op (ETy.get .cell l e)==(8:Int)&&(K (IntKind.wrap .i64 ((e:Int) - 1))).1==(2:Int)) (.ret (.tup [.i ((K (IntKind.wrap .i64 ((e:Int) - 1))).1),.i 0]) []) (.ite (decide (Cell.op (ETy.get .cell l e)>(8:Int))&&(K (IntKind.wrap .i64 ((e:Int) - 1))).1==(3:Int)) (.ret (.tup [.i 1,.i 0]) []) (.ret (.tup [.i 0,.i 8]) [])))))) (.need (ah Tryz.prog (186:FuncId) [SX.l .cell l,SX.i (IntKind.wrap .i64 ((e:Int) - 1))] [] (.x (SX.i (B (IntKind.wrap .i64 ((e:Int) - 1))))) []) (.need (ah Tryz.prog (138:FuncId) [SX.l .cell l,SX.i (IntKind.wrap .i64 (B (IntKind.wrap .i64 ((e:Int) - 1)) - (1:Int))),SX.l .var vs,SX.l .str ss] [] (cL (K (IntKind.wrap .i64 (B (IntKind.wrap .i64 ((e:Int) - 1)) - (1:Int))))) []) (.ite ((K (IntKind.wrap .i64 (B (IntKind.wrap .i64 ((e:Int) - 1)) - (1:Int)))).2 != (0:Int)) (.ret (.tup [.i 0,.i ((K (IntKind.wrap .i64 (B (IntKind.wrap .i64 ((e:Int) - 1)) - (1:Int)))).2)]) []) (.need (ah Tryz.prog (138:FuncId) [SX.l .cell l,SX.i (IntKind.wrap .i64 ((e:Int) - 1)),SX.l .var vs,SX.l .str ss] [] (cL (K (IntKind.wrap .i64 ((e:Int) - 1)))) []) (.ite ((K (IntKind.wrap .i64 ((e:Int) - 1))).2 != (0:Int)) (.ret (.tup [.i 0,.i ((K (IntKind.wrap .i64 ((e:Int) - 1))).2)]) []) (.ite ((K (IntKind.wrap .i64 (B (IntKind.wrap .i64 ((e:Int) - 1)) - (1:Int)))).1 != (K (IntKind.wrap .i64 ((e:Int) - 1))).1) (.ret (.tup [.i 0,.i 8]) []) (.ret (.tup [.i ((iP (Cell.op (ETy.get .cell l e)) ((K (IntKind.wrap .i64 (B (IntKind.wrap .i64 ((e:Int) - 1)) - (1:Int)))).1)).1),.i ((iP (Cell.op (ETy.get .cell l e)) ((K (IntKind.wrap .i64 (B (IntKind.wrap .i64 ((e:Int) - 1)) - (1:Int)))).1)).2)]) [])))))))))) fun Γ=>?_
   rw[hc,hw']
   refine⟨⟨by omega,by omega⟩,fun h=>Bool.noConfusion h,fun _=>⟨fun _=>⟨ih,?_⟩,fun h=>Bool.noConfusion h⟩⟩
   simp only[Tm.kind,K]
   have hone:=t.kind_one vs ss
   generalize t.kind vs ss=kf at *
   obtain⟨k1,k2⟩:=kf
   refine⟨fun h=>⟨?_,rfl⟩,fun h=>?_⟩
   · have h':(k2 != 0)=true:=h
     simp only[h',cond_true,cL]
   · have h':(k2 != 0)=false:=h
     have h0:k2=0:=by simpa using h'
     have hk:=hone.1 h0
     have hu:=Sh c.op k1 (by omega) (by omega) hk.1 hk.2
     simp only[h',cond_false,←hu]
     refine⟨fun q1=>⟨?_,rfl⟩,fun q1=>⟨fun q2=>⟨?_,rfl⟩,fun q2=>⟨fun q3=>⟨?_,rfl⟩,fun q3=>⟨?_,rfl⟩⟩⟩⟩ <;> simp only[OW, *,cond_true,cond_false,cL]
 | .bin c t u,⟨hw,ht,hu⟩,pre,post,hq=>by
   obtain⟨he,hc⟩:=qT (front:=t.flat++u.flat) (pre:=pre) (post:=post) (c:=c) (l:=l) hq
   have e1:(pre.length:Int)+((Tm.bin c t u).flat.length:Int) - 1=((pre.length+(t.flat++u.flat).length:Nat):Int):=by simp only[Tm.flat,au,ax,bJ];omega
   rw[e1]
   have hop:=iQ c (by omega)
   have hw':cV c.op c.a c.name=2:=hw
   have htp:=t.flat_pos
   have hup:=u.flat_pos
   have hq1:l=pre++t.flat++(u.flat++[c]++post):=by rw[hq];simp[Tm.flat]
   have hq2:l=(pre++t.flat)++u.flat++([c]++post):=by rw[hq];simp[Tm.flat]
   have e2:IntKind.wrap .i64 (((pre.length+(t.flat++u.flat).length:Nat):Int) - 1)=((pre++t.flat).length:Int)+u.flat.length - 1:=by
    simp only[au]at he ⊢
    rw[cg (by omega) (by omega)];omega
   have e3:IntKind.wrap .i64 (((pre++t.flat).length:Int) - 1)=(pre.length:Int)+t.flat.length - 1:=by
    simp only[au]at he ⊢
    rw[cg (by omega) (by omega)];omega
   have ih1:=nT l vs ss hl t ht pre (u.flat++[c]++post) hq1
   have ih2:=nT l vs ss hl u hu (pre++t.flat) ([c]++post) hq2
   have hbeg:=E6 l u hu (pre++t.flat) ([c]++post) hq2 hl
   have hne:IntKind.wrap .i64 (((pre++t.flat).length:Int) - 1)≠IntKind.wrap .i64 (((pre.length+(t.flat++u.flat).length:Nat):Int) - 1):=by
    rw[e2,e3];simp only[au];omega
   rw[←e3]at ih1
   rw[←e2]at ih2 hbeg
   generalize pre.length+(t.flat++u.flat).length=e at *
   generalize (pre++t.flat).length=x at *
   let K:Int→Int×Int:=fun i=>if i=IntKind.wrap .i64 ((x:Int) - 1)then t.kind vs ss else u.kind vs ss
   let B:Int→Int:=fun _=>(x:Int)
   have k1:K (IntKind.wrap .i64 ((x:Int) - 1))=t.kind vs ss:=if_pos rfl
   have k2:K (IntKind.wrap .i64 ((e:Int) - 1))=u.kind vs ss:=if_neg (Ne.symm hne)
   refine dg (cfg:=(Fj K B)) wg Tryz.func138 (.need (inRg e l.length) (.ite (cV (Cell.op (ETy.get .cell l e)) (Cell.a (ETy.get .cell l e)) (Cell.name (ETy.get .cell l e))==(0:Int)) (.ret (.tup [.i ((b6 (ETy.get .cell l e) vs ss).1),.i ((b6 (ETy.get .cell l e) vs ss).2)]) []) (.ite (cV (Cell.op (ETy.get .cell l e)) (Cell.a (ETy.get .cell l e)) (Cell.name (ETy.get .cell l e))==(1:Int)) (.need (ah Tryz.prog (138:FuncId) [SX.l .cell l,SX.i (IntKind.wrap .i64 ((e:Int) - 1)),SX.l .var vs,SX.l .str ss] [] (cL (K (IntKind.wrap .i64 ((e:Int) - 1)))) []) (.ite ((K (IntKind.wrap .i64 ((e:Int) - 1))).2 != (0:Int)) (.ret (.tup [.i 0,.i ((K (IntKind.wrap .i64 ((e:Int) - 1))).2)]) []) (.ite (Cell.op (ETy.get .cell l e)==(7:Int)&&(K (IntKind.wrap .i64 ((e:Int) - 1))).1 != (2:Int)) (.ret (.tup [.i ((K (IntKind.wrap .i64 ((e:Int) - 1))).1),.i 0]) []) (.ite (Cell.op (ETy.get .cell l e)==(8:Int)&&(K (IntKind.wrap .i64 ((e:Int) - 1))).1==(2:Int)) (.ret (.tup [.i ((K (IntKind.wrap .i64 ((e:Int) - 1))).1),.i 0]) []) (.ite (decide (Cell.op (ETy.get .cell l e)>(8:Int))&&(K (IntKind.wrap .i64 ((e:Int) - 1))).1==(3:Int)) (.ret (.tup [.i 1,.i 0]) []) (.ret (.tup [.i 0,.i 8]) [])))))) (.need (ah Tryz.prog (186:FuncId) [SX.l .cell l,SX.i (IntKind.wrap .i64 ((e:Int) - 1))] [] (.x (SX.i (B (IntKind.wrap .i64 ((e:Int) - 1))))) []) (.need (ah Tryz.prog (138:FuncId) [SX.l .cell l,SX.i (IntKind.wrap .i64 (B (IntKind.wrap .i64 ((e:Int) - 1)) - (1:Int))),SX.l .var vs,SX.l .str ss] [] (cL (K (IntKind.wrap .i64 (B (IntKind.wrap .i64 ((e:Int) - 1)) - (1:Int))))) []) (.ite ((K (IntKind.wrap .i64 (B (IntKind.wrap .i64 ((e:Int) - 1)) - (1:Int)))).2 != (0:Int)) (.ret (.tup [.i 0,.i ((K (IntKind.wrap .i64 (B (IntKind.wrap .i64 ((e:Int) - 1)) - (1:Int)))).2)]) []) (.need (ah Tryz.prog (138:FuncId) [SX.l .cell l,SX.i (IntKind.wrap .i64 ((e:Int) - 1)),SX.l .var vs,SX.l .str ss] [] (cL (K (IntKind.wrap .i64 ((e:Int) - 1)))) []) (.ite ((K (IntKind.wrap .i64 ((e:Int) - 1))).2 != (0:Int)) (.ret (.tup [.i 0,.i ((K (IntKind.wrap .i64 ((e:Int) - 1))).2)]) []) (.ite ((K (IntKind.wrap .i64 (B (IntKind.wrap .i64 ((e:Int) - 1)) - (1:Int)))).1 != (K (IntKind.wrap .i64 ((e:Int) - 1))).1) (.ret (.tup [.i 0,.i 8]) []) (.ret (.tup [.i ((iP (Cell.op (ETy.get .cell l e)) ((K (IntKind.wrap .i64 (B (IntKind.wrap .i64 ((e:Int) - 1)) - (1:Int)))).1)).1),.i ((iP (Cell.op (ETy.get .cell l e)) ((K (IntKind.wrap .i64 (B (IntKind.wrap .i64 ((e:Int) - 1)) - (1:Int)))).1)).2)]) [])))))))))) fun Γ=>?_
   have hB:B (IntKind.wrap .i64 ((e:Int) - 1))=(x:Int):=rfl
   rw[hc,hw',hB,k1,k2]
   refine⟨⟨by omega,by omega⟩,fun h=>Bool.noConfusion h,fun _=>⟨fun h=>Bool.noConfusion h,fun _=>⟨hbeg,ih1,?_⟩⟩⟩
   simp only[Tm.kind]
   have hone:=t.kind_one vs ss
   have hone2:=u.kind_one vs ss
   clear_value K B
   generalize t.kind vs ss=kf at *
   generalize u.kind vs ss=kg at *
   obtain⟨a1,a2⟩:=kf
   obtain⟨b1,b2⟩:=kg
   refine⟨fun h=>⟨?_,rfl⟩,fun h=>⟨ih2,fun h3=>⟨?_,rfl⟩,fun h3=>?_⟩⟩
   · have h':(a2 != 0)=true:=h
     simp only[h',cond_true,cL]
   · have h':(a2 != 0)=false:=h
     have h3':(b2 != 0)=true:=h3
     simp only[h',h3',cond_true,cond_false,cL]
   · have h':(a2 != 0)=false:=h
     have h3':(b2 != 0)=false:=h3
     have h0:a2=0:=by simpa using h'
     have h0':b2=0:=by simpa using h3'
     have hk:=hone.1 h0
     have hk2:=hone2.1 h0'
     have hop':c.op≤23:=KP c (by omega)
     have hb:=O3 c.op a1 b1 (by omega) hop' hk.1 hk.2 hk2.1 hk2.2
     simp only[h',h3',cond_false,←hb]
     refine⟨fun q1=>⟨?_,rfl⟩,fun q1=>⟨?_,rfl⟩⟩ <;> simp only[HO,q1,cond_true,cond_false,cL]
theorem wX(l:List Cell)(vs:List Var)(ss:List Str):ah Tryz.prog 96 [.l .cell l,.l .var vs,.l .str ss] [] (cL (cm l vs ss)) []:=by
 let K:Int→Int×Int:=fun _=>cm l vs ss
 refine dg (cfg:=(Ow K)) Li Tryz.func96 (.ite (!dH l) (.ret (.tup [.i 0,.i 1]) []) (.need (ah Tryz.prog (138:FuncId) [SX.l .cell l,SX.i (IntKind.wrap .i64 ((l.length:Int) - 1)),SX.l .var vs,SX.l .str ss] [] (cL (K (IntKind.wrap .i64 ((l.length:Int) - 1)))) []) (.ret (.tup [.i ((K (IntKind.wrap .i64 ((l.length:Int) - 1))).1),.i ((K (IntKind.wrap .i64 ((l.length:Int) - 1))).2)]) []))) fun Γ=>?_
 refine⟨fun h=>⟨by simp only[cm,h,cond_true,cL],rfl⟩,fun h=>?_⟩
 have h':dH l=true:=by simpa using h
 obtain⟨h32,t,ht,hq⟩:=Nv h'
 have hk:cm l vs ss=t.kind vs ss:=by rw[←hq];exact GI vs ss ht (by rw[hq];exact h32)
 have htp:=t.flat_pos
 have ih:=nT l vs ss h32 t ht [] [] (by rw[cd,aO,hq])
 have e:((([]:List Cell).length:Nat):Int)+t.flat.length - 1=IntKind.wrap .i64 ((l.length:Int) - 1):=by
  rw[hq]at htp ⊢
  rw[cg (by omega) (by omega)];simp
 rw[e,←hk]at ih
 exact⟨ih,rfl,rfl⟩
def BM:Ent:=(96,fun
 |[.c (.pd (.lst .cell l)),.c (.pd (.lst .var vs)),.c (.pd (.lst .str ss))],[]=>some (none,cL (cm l vs ss),[])
 |_,_=>none)
theorem Eo:EntOk Tryz.prog BM:=entOk fun vs ck=>by
 unfold BM;dsimp only;split
 ·rename_i l vs ss;exact entS fun hp=>wX l vs ss
 ·exact entN
variable(a b:Str)
theorem wD:ah Tryz.prog 269 [.s a,.s b] [] (.x (.b (decide (aE a≥aE b)&&a.take (aE b).toNat==b))) []:=by
 refine dg aX Tryz.func269 (.need (decide (aE a≥aE b)=true→(0:Int)≤aE b∧aE b≤(a.length:Int)) (.ret (.p (.bool (decide (aE a≥aE b)&&(fv a none (some (aE b))).2==b))) [])) fun Γ=>?_
 refine⟨fun h=>?_,rfl,rfl⟩
 have:=of_decide_eq_true h
 have h1:aE b=(b.length:Int):=rfl
 have h2:aE a=(a.length:Int):=rfl
 omega
def eHp:Ent:=(269,fun
 |[.c (.pd (.str a)),.c (.pd (.str b))],[]=>some (none,.x (.c (.pd (.bool (decide (aE a≥aE b)&&a.take (aE b).toNat==b)))),[])
 |_,_=>none)
theorem RB:EntOk Tryz.prog eHp:=entOk fun vs ck=>by
 unfold eHp;dsimp only;split
 ·rename_i a b;exact entS fun hp=>wD a b
 ·exact entN
def Ou:Cfg:=⟨aU,[eHp]⟩
theorem Lg:ag Tryz.prog Ou.tab:=(ag.cons RB ag.nil)
def eR:Bool:=decide (aE a≥aE b)&&a.take (aE b).toNat==b
def eP:Str:=bif eR a b then a.drop (aE b).toNat else a
def iL(s:Str):Bool:=bk (eP s [100,111,110,101,46])
theorem uu:ah Tryz.prog 228 [.s a,.s b] [] (.tup [.s (eP a b),.b (eR a b)]) []:=by
 refine dg Lg Tryz.func228 (.ite (!(decide (aE a≥aE b)&&List.take ((aE b).toNat) a==b)) (.ret (.tup [.p (.str a),.p (.bool false)]) []) (.need ((0:Int)≤aE b∧aE b≤(a.length:Int)) (.ret (.tup [.p (.str ((fv a (some (aE b)) none).2)),.p (.bool true)]) []))) fun Γ=>?_
 refine⟨fun h=>⟨?_,rfl⟩,fun h=>⟨?_,?_,rfl⟩⟩
 · have h':eR a b=false:=by
    have h2:(!eR a b)=true:=h
    simpa using h2
   simp[eP,h']
 · have h':eR a b=true:=by
    have h2:(!eR a b)=false:=h
    simpa using h2
   simp only[eR,af,decide_eq_true_eq]at h'
   have h1:aE b=(b.length:Int):=rfl
   have h2:aE a=(a.length:Int):=rfl
   omega
 · have h':eR a b=true:=by
    have h2:(!eR a b)=false:=h
    simpa using h2
   simp[eP,h',fv]
def Ad:Ent:=(228,fun
 |[.c (.pd (.str a)),.c (.pd (.str b))],[]=>some (none,.tup [.c (.pd (.str (eP a b))),.c (.pd (.bool (eR a b)))],[])
 |_,_=>none)
theorem LM:EntOk Tryz.prog Ad:=entOk fun vs ck=>by
 unfold Ad;dsimp only;split
 ·rename_i a b;exact entS fun hp=>uu a b
 ·exact entN
def Eb:Cfg:=⟨aU,[Ad]⟩
theorem Fb:ag Tryz.prog Eb.tab:=(ag.cons LM ag.nil)
theorem wk:ah Tryz.prog 190 [.s a,.s b] [] (.tup [.s (eP a b),.b (eR a b)]) []:=by
 refine dg Fb Tryz.func190 (.ret (.tup [.p (.str (eP a b)),.p (.bool (eR a b))]) []) fun Γ=>?_
 exact⟨rfl,rfl⟩
def Bz:Ent:=(190,fun
 |[.c (.pd (.str a)),.c (.pd (.str b))],[]=>some (none,.tup [.c (.pd (.str (eP a b))),.c (.pd (.bool (eR a b)))],[])
 |_,_=>none)
theorem El:EntOk Tryz.prog Bz:=entOk fun vs ck=>by
 unfold Bz;dsimp only;split
 ·rename_i a b;exact entS fun hp=>wk a b
 ·exact entN
def Ik:Cfg:=⟨aU,[Bz,ll]⟩
theorem Il:ag Tryz.prog Ik.tab:=(ag.cons El (ag.cons jZ ag.nil))
variable(s:Str)
theorem Gm:ah Tryz.prog 129 [.s s] [] (.x (.b (iL s))) []:=by
 refine dg Il Tryz.func129 (.ret (.p (.bool (bk (eP s [(100:UInt8),111,110,101,46])))) []) fun Γ=>?_
 exact⟨rfl,rfl⟩
def qm:Ent:=(129,fun
 |[.c (.pd (.str s))],[]=>some (none,.x (.c (.pd (.bool (iL s)))),[])
 |_,_=>none)
theorem xN:EntOk Tryz.prog qm:=entOk fun vs ck=>by
 unfold qm;dsimp only;split
 ·rename_i s;exact entS fun hp=>Gm s
 ·exact entN
theorem LH:eP ([100,111,110,101,46]++s) [100,111,110,101,46]=s:=by
 have h:eR ([100,111,110,101,46]++s) [100,111,110,101,46]=true:=by
  simp[eR,aE];omega
 rw[eP,h];rfl
theorem MQ:bk ([100,111,110,101,46]++s)=false:=by
 have:([100,111,110,101,46]++s:Str).any l9=true:=by
  rw[fK]
  have:([100,111,110,101,46]:Str).any l9=true:=by decide
  rw[this];rfl
 rw[bk,this];simp
theorem Gz{s p:Str}(h:eR s p=true):∃r,s=p++r:=by
 simp only[eR,af,beq_iff_eq,decide_eq_true_eq]at h
 refine⟨s.drop (aE p).toNat,?_⟩
 have:=dp (aE p).toNat s
 rw[h.2]at this;exact this.symm
theorem Jr:iL ([100,111,110,101,46]++s)=bk s:=by rw[iL,LH]
theorem L9{s:Str}(h:eR s [100,111,110,101,46]=false):iL s=bk s:=by simp[iL,eP,h]
def Im:Cfg:=⟨aU,[qu]⟩
theorem Io:ag Tryz.prog Im.tab:=(ag.cons oI ag.nil)
theorem wW:ah Tryz.prog 205 [.s s] [] (.x (.b (iL s))) []:=by
 refine dg Io Tryz.func205 (.need (bk s=false∧decide (aE s>(5:Int))=true→(0:Int)≤5∧(5:Int)≤(s.length:Int)) (.need (bk s=false∧(decide (aE s>(5:Int))&&(fv s none (some (5:Int))).2==[100,111,110,101,46])=true→(0:Int)≤5∧(5:Int)≤(s.length:Int)) (.ret (.p (.bool (bk s||decide (aE s>(5:Int))&&(fv s none (some (5:Int))).2==[100,111,110,101,46]&&bk ((fv s (some (5:Int)) none).2)))) []))) fun Γ=>?_
 have hL:aE s=(s.length:Int):=rfl
 refine⟨fun h=>by have:=of_decide_eq_true h.2;omega,fun h=>by simp only[af,decide_eq_true_eq]at h;omega,?_,rfl⟩
 cases hp:eR s [100,111,110,101,46]
 · rw [L9 hp]
   have h5:(decide (aE s>5)&&(fv s none (some 5)).2==[100,111,110,101,46])=false:=by
    cases hb:(decide (aE s>5)&&(fv s none (some 5)).2==[100,111,110,101,46])
    ·rfl
    · exfalso
      simp only[af,decide_eq_true_eq]at hb
      have:eR s [100,111,110,101,46]=true:=by
       simp only[eR,af,decide_eq_true_eq]
       refine⟨?_,hb.2⟩
       have h2:aE [100,111,110,101,46]=5:=rfl
       omega
      rw[this]at hp;cases hp
   rw[h5,br,bN]
 · obtain⟨r,rfl⟩:=Gz hp
   rw[Jr,MQ,bj]
   have hc:(fv ([100,111,110,101,46]++r) (some 5) none).2=r:=rfl
   have hc2:(fv ([100,111,110,101,46]++r) none (some 5)).2=[100,111,110,101,46]:=rfl
   rw[hc,hc2]
   cases r with
   |nil=>rfl
   | cons c r =>
     have:decide (aE ([100,111,110,101,46]++c::r)>5)=true:=decide_eq_true (by
      have:aE ([100,111,110,101,46]++c::r)=((([100,111,110,101,46]++c::r):Str).length:Int):=rfl
      rw[this];simp only[au,ax,bJ];omega)
     rw[this];rfl
def nJ:Ent:=(205,fun
 |[.c (.pd (.str s))],[]=>some (none,.x (.c (.pd (.bool (iL s)))),[])
 |_,_=>none)
theorem BK:EntOk Tryz.prog nJ:=entOk fun vs ck=>by
 unfold nJ;dsimp only;split
 ·rename_i s;exact entS fun hp=>wW s
 ·exact entN
def oV:List (Str×Nat):=[([101,118,101,110,116],76),([105,110,116],77),([98,111,111,108],78),([112,111,105,110,116],79),([98,97,115,105,99],80),([98,111,116,104],81),([102,105,110,97,108],82),([111,110,101],83),([115,104,97,108,108,111,119],84),([100,101,101,112],85),([101,110,116,114,121],86),([101,120,105,116],87),([111,110],88)]
theorem GM:ah Tryz.prog 41 [] [] (.x (.p (.tbl oV))) []:=by
 refine dg aX Tryz.func41 (.stop [.ops [1,0] 0,.code [1,1]] {n:=3,fr:=[(0,.p (.v (Value.map none)))],ck:=[]}) fun Γ=>?_
 refine J.makeTbl (d:=1) (n:=13) (l:=oV.map fun p=>(bs p.1,p.2)) (by kernel_rfl) ?_
 have e:keyed (oV.map fun p=>(bs p.1,p.2))=oV:=by decide
 rw[e]
 refine jg aX Tryz.func41 (.ret (.p (PD.tbl [([(101:UInt8),118,101,110,116],76),([(105:UInt8),110,116],77),([(98:UInt8),111,111,108],78),([(112:UInt8),111,105,110,116],79),([(98:UInt8),97,115,105,99],80),([(98:UInt8),111,116,104],81),([(102:UInt8),105,110,97,108],82),([(111:UInt8),110,101],83),([(115:UInt8),104,97,108,108,111,119],84),([(100:UInt8),101,101,112],85),([(101:UInt8),110,116,114,121],86),([(101:UInt8),120,105,116],87),([(111:UInt8),110],88)])) []) ?_
 exact⟨rfl,rfl⟩
def uF:Ent:=(41,fun
 |[],[]=>some (none,.x (.c (.pd (.tbl oV))),[])
 |_,_=>none)
theorem I5:EntOk Tryz.prog uF:=entOk fun vs ck=>by
 unfold uF;dsimp only;split
 ·exact entS fun hp=>GM
 ·exact entN
end Go.Proofs.YtlhgnjmdopjpeaaGreatDoor
