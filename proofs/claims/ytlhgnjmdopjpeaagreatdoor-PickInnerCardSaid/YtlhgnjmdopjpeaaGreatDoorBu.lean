/- Contracts: the law PickInner. Conditions: sizes. -/
import Derived.Test.YtlhgnjmdopjpeaaGreatDoorBv
namespace Go.Proofs.YtlhgnjmdopjpeaaGreatDoor
open Go Go.Ev
set_option maxRecDepth 100000
abbrev zJ7Bu:=J Tryz.prog 7 (ar Tryz.f7)
def jI:Cfg:=⟨aU,[BC,Bx,oO,kh,oK,oD,wy,uH,nI,rT,wu,uM]⟩
theorem gQ:ag Tryz.prog jI.tab:=(ag.cons wx (ag.cons wo (ag.cons qz (ag.cons mU (ag.cons qv (ag.cons ql (ag.cons wz (ag.cons BE (ag.cons BH (ag.cons F6 (ag.cons wv (ag.cons Ja ag.nil))))))))))))
section
variable{Γ:Ctx}{Q:Out}{c:Chart}{p s out m lv ls:List Int}{vs:List Val}{ev:Str}{i j q:Nat}{t x:Int}
abbrev zBu1(a:Chart):List Chunk:=[.cells [.pd (.str a.name),.pd (.lst .str a.events),.pd (.lst .var a.vars),.pd (.lst .stat a.states),.pd (.lst .tran a.trans)] 27]
abbrev zBu3:List PI:=[.ops [1,1,1,1,1,0,1,0,0,1,1,0,0,1,1,1,1,0,1,0,0,1,1,0,0,1,1,0,0,1,1,0,0,1] 6,.inBlock 5,.code [1,1,1,1,1,0,1,0,0,1,1,0,0,1,1,1,1,0,1,0,0,1,1,0,0,1,1,0,0,1,1,1],.inLoop [1,1,1,1,1,0,1,0,0,1,1,0,0,1,1,1,1,0,1,0,0,1,1,0,0,1,1,0,0],.inBlock 4,.inBlock 3,.code [1,1,1,1,1,0,1,0,0,1,1,0,0,1,1,1,1,0,1,0,0,1,1,1],.inLoop [1,1,1,1,1,0,1,0,0,1,1,0,0,1,1,1,1,0,1,0,0],.inBlock 2,.code [1,1,1,1,1,0,1,0,0,1,1,0,0,1,1,1,1,1],.inBlock 1,.code [1,1,1,1,1,0,1,0,0,1,1,1],.inLoop [1,1,1,1,1,0,1,0,0],.inBlock 0,.code [1,1,1,1,1,1]]
abbrev zBu4:List PI:=[.ops [1,1,1,1,1,0,1,0,0,1,1,0,0,1,1,1,1,0,1,0,0,1,1,0,0,1,1,0,0,1,1,0,0,1] 5,.inBlock 5,.code [1,1,1,1,1,0,1,0,0,1,1,0,0,1,1,1,1,0,1,0,0,1,1,0,0,1,1,0,0,1,1,1],.inLoop [1,1,1,1,1,0,1,0,0,1,1,0,0,1,1,1,1,0,1,0,0,1,1,0,0,1,1,0,0],.inBlock 4,.inBlock 3,.code [1,1,1,1,1,0,1,0,0,1,1,0,0,1,1,1,1,0,1,0,0,1,1,1],.inLoop [1,1,1,1,1,0,1,0,0,1,1,0,0,1,1,1,1,0,1,0,0],.inBlock 2,.code [1,1,1,1,1,0,1,0,0,1,1,0,0,1,1,1,1,1],.inBlock 1,.code [1,1,1,1,1,0,1,0,0,1,1,1],.inLoop [1,1,1,1,1,0,1,0,0],.inBlock 0,.code [1,1,1,1,1,1]]
theorem Sv(h:zJ7Bu Γ Q zBu3 ({n:=99,fr:=[(8,.p (.lst .int out)),(9,.p (.lst .int m)),(3,.x (.c (.loc 0 0))),(6,.p (.bool false)),(7,.p (.lst .int s)),(43,.p (.lst .int lv)),(44,.i lv.length),(45,.i i),(12,.i t),(70,.p (.lst .int out)),(71,.i out.length),(72,.i j),(15,.i x),(79,.p (.lst .int ls)),(80,.i ls.length),(81,.i q),(17,.i (ETy.get .int ls q)),(86,.p (.bool true)),(87,.grd 86 false (.agg [.pd (.str c.name),.pd (.lst .str c.events),.pd (.lst .var c.vars),.pd (.lst .stat c.states),.pd (.lst .tran c.trans)])),(88,.grd 86 false (.p (.lst .int s))),(89,.grd 86 false (.i x)),(90,.grd 86 false (.c (.pd (.bool false))))],ck:=(zBu1 c)})):zJ7Bu Γ Q zBu4 ({n:=99,fr:=[(8,.p (.lst .int out)),(9,.p (.lst .int m)),(3,.x (.c (.loc 0 0))),(6,.p (.bool false)),(7,.p (.lst .int s)),(43,.p (.lst .int lv)),(44,.i lv.length),(45,.i i),(12,.i t),(70,.p (.lst .int out)),(71,.i out.length),(72,.i j),(15,.i x),(79,.p (.lst .int ls)),(80,.i ls.length),(81,.i q),(17,.i (ETy.get .int ls q)),(86,.p (.bool true)),(87,.grd 86 false (.agg [.pd (.str c.name),.pd (.lst .str c.events),.pd (.lst .var c.vars),.pd (.lst .stat c.states),.pd (.lst .tran c.trans)])),(88,.grd 86 false (.p (.lst .int s))),(89,.grd 86 false (.i x))],ck:=(zBu1 c)}):=J.off 1 5 (by kernel_rfl) h
abbrev zBu5:List PI:=[.ops [1,1,1,1,1,0,1,0,0,1,1,0,0,1,1,1,1,0,1,0,0,1,1,0,0,1,1,0,0,1,1,0,0,1] 7,.inBlock 5,.code [1,1,1,1,1,0,1,0,0,1,1,0,0,1,1,1,1,0,1,0,0,1,1,0,0,1,1,0,0,1,1,1],.inLoop [1,1,1,1,1,0,1,0,0,1,1,0,0,1,1,1,1,0,1,0,0,1,1,0,0,1,1,0,0],.inBlock 4,.inBlock 3,.code [1,1,1,1,1,0,1,0,0,1,1,0,0,1,1,1,1,0,1,0,0,1,1,1],.inLoop [1,1,1,1,1,0,1,0,0,1,1,0,0,1,1,1,1,0,1,0,0],.inBlock 2,.code [1,1,1,1,1,0,1,0,0,1,1,0,0,1,1,1,1,1],.inBlock 1,.code [1,1,1,1,1,0,1,0,0,1,1,1],.inLoop [1,1,1,1,1,0,1,0,0],.inBlock 0,.code [1,1,1,1,1,1]]
theorem Sw(h:zJ7Bu Γ Q [.ops [1,1,1,1,1,0,1,0,0,1,1,0,0,1,1,1,1,0,1,0,0,1,1,0,0,1,1,0,0,1,1,0,0,1] 8,.inBlock 5,.code [1,1,1,1,1,0,1,0,0,1,1,0,0,1,1,1,1,0,1,0,0,1,1,0,0,1,1,0,0,1,1,1],.inLoop [1,1,1,1,1,0,1,0,0,1,1,0,0,1,1,1,1,0,1,0,0,1,1,0,0,1,1,0,0],.inBlock 4,.inBlock 3,.code [1,1,1,1,1,0,1,0,0,1,1,0,0,1,1,1,1,0,1,0,0,1,1,1],.inLoop [1,1,1,1,1,0,1,0,0,1,1,0,0,1,1,1,1,0,1,0,0],.inBlock 2,.code [1,1,1,1,1,0,1,0,0,1,1,0,0,1,1,1,1,1],.inBlock 1,.code [1,1,1,1,1,0,1,0,0,1,1,1],.inLoop [1,1,1,1,1,0,1,0,0],.inBlock 0,.code [1,1,1,1,1,1]] ({n:=99,fr:=[(8,.p (.lst .int out)),(9,.p (.lst .int m)),(3,.x (.c (.loc 0 0))),(6,.p (.bool false)),(7,.p (.lst .int s)),(43,.p (.lst .int lv)),(44,.i lv.length),(45,.i i),(12,.i t),(70,.p (.lst .int out)),(71,.i out.length),(72,.i j),(15,.i x),(79,.p (.lst .int ls)),(80,.i ls.length),(81,.i q),(86,.p (.bool true)),(90,.grd 86 false (.p (.bool false))),(91,.grd 86 false (.i (ETy.get .int ls q))),(92,.grd 86 false (.c (.pd (.bool false))))],ck:=(zBu1 c)})):zJ7Bu Γ Q zBu5 ({n:=99,fr:=[(8,.p (.lst .int out)),(9,.p (.lst .int m)),(3,.x (.c (.loc 0 0))),(6,.p (.bool false)),(7,.p (.lst .int s)),(43,.p (.lst .int lv)),(44,.i lv.length),(45,.i i),(12,.i t),(70,.p (.lst .int out)),(71,.i out.length),(72,.i j),(15,.i x),(79,.p (.lst .int ls)),(80,.i ls.length),(81,.i q),(86,.p (.bool true)),(90,.grd 86 false (.p (.bool false))),(91,.grd 86 false (.i (ETy.get .int ls q)))],ck:=(zBu1 c)}):=J.off 1 7 (by kernel_rfl) h
theorem Su(hp:Valid c∧(0≤x∧x<(c.trans.length:Int))∧(s.length≤1000∧∀y∈s,0≤y∧y<(c.states.length:Int)))(h:zJ7Bu Γ Q zBu3 ({n:=99,fr:=[(8,.p (.lst .int out)),(9,.p (.lst .int m)),(3,.x (.c (.loc 0 0))),(6,.p (.bool false)),(7,.p (.lst .int s)),(43,.p (.lst .int lv)),(44,.i lv.length),(45,.i i),(12,.i t),(70,.p (.lst .int out)),(71,.i out.length),(72,.i j),(15,.i x),(79,.p (.lst .int ls)),(80,.i ls.length),(81,.i q),(17,.i (ETy.get .int ls q)),(86,.p (.bool false)),(87,.x (.agg [.pd (.str c.name),.pd (.lst .str c.events),.pd (.lst .var c.vars),.pd (.lst .stat c.states),.pd (.lst .tran c.trans)])),(88,.p (.lst .int s)),(89,.i x),(90,.p (.lst .int ((eM c.states (ETy.get .tran c.trans x.toNat) s))))],ck:=(zBu1 c)})):zJ7Bu Γ Q zBu4 ({n:=99,fr:=[(8,.p (.lst .int out)),(9,.p (.lst .int m)),(3,.x (.c (.loc 0 0))),(6,.p (.bool false)),(7,.p (.lst .int s)),(43,.p (.lst .int lv)),(44,.i lv.length),(45,.i i),(12,.i t),(70,.p (.lst .int out)),(71,.i out.length),(72,.i j),(15,.i x),(79,.p (.lst .int ls)),(80,.i ls.length),(81,.i q),(17,.i (ETy.get .int ls q)),(86,.p (.bool false)),(87,.grd 86 false (.agg [.pd (.str c.name),.pd (.lst .str c.events),.pd (.lst .var c.vars),.pd (.lst .stat c.states),.pd (.lst .tran c.trans)])),(88,.grd 86 false (.p (.lst .int s))),(89,.grd 86 false (.i x))],ck:=(zBu1 c)}) :=
 J.on (cfg:=jI) gQ (q:=some (Valid c∧(0≤x∧x<(c.trans.length:Int))∧(s.length≤1000∧∀y∈s,0≤y∧y<(c.states.length:Int)))) (by kernel_rfl) hp h
end
abbrev zBu2:List PI:=[.code [1,1,1,1,1,0,1,0,0,1,1,0,0,1,1,1,1,0,1,0,0,1,1,0,0,1,1,0,0],.inLoop [1,1,1,1,1,0,1,0,0,1,1,0,0,1,1,1,1,0,1,0,0,1,1,0,0,1,1,0,0],.inBlock 4,.inBlock 3,.code [1,1,1,1,1,0,1,0,0,1,1,0,0,1,1,1,1,0,1,0,0,1,1,1],.inLoop [1,1,1,1,1,0,1,0,0,1,1,0,0,1,1,1,1,0,1,0,0],.inBlock 2,.code [1,1,1,1,1,0,1,0,0,1,1,0,0,1,1,1,1,1],.inBlock 1,.code [1,1,1,1,1,0,1,0,0,1,1,1],.inLoop [1,1,1,1,1,0,1,0,0],.inBlock 0,.code [1,1,1,1,1,1]]
abbrev zBu6:List PI:=[.code [1,1,1,1,1,0,1,0,0,1,1,0,0,1,1,1,1,0,1,0,0],.inLoop [1,1,1,1,1,0,1,0,0,1,1,0,0,1,1,1,1,0,1,0,0],.inBlock 2,.code [1,1,1,1,1,0,1,0,0,1,1,0,0,1,1,1,1,1],.inBlock 1,.code [1,1,1,1,1,0,1,0,0,1,1,1],.inLoop [1,1,1,1,1,0,1,0,0],.inBlock 0,.code [1,1,1,1,1,1]]
theorem MG (Γ:Ctx) (Q:Out) (c:Chart) (p s out m lv ls:List Int) (vs:List Val) (ev:Str) (i j:Nat) (t x:Int) (b2:Bool) (hp:Valid c∧(0≤x∧x<(c.trans.length:Int))∧(s.length≤1000∧∀y∈s,0≤y∧y<(c.states.length:Int))) (hl:ls.length≤maxLen)
 (H:zJ7Bu Γ Q zBu6 ({n:=99,fr:=[(8,.p (.lst .int out)),(9,.p (.lst .int m)),(3,.x (.c (.loc 0 0))),(6,.p (.bool false)),(7,.p (.lst .int s)),(43,.p (.lst .int lv)),(44,.i lv.length),(45,.i i),(12,.i t),(13,.p (.bool b2)),(70,.p (.lst .int out)),(71,.i out.length),(72,.i ((IntKind.wrap .i64 ((j:Int)+1))))],ck:=(zBu1 c)})):∀(n q:Nat) (b:Bool),ls.length - q≤n→q≤ls.length→b2=(b||(ls.drop q).any fun y=>inB (eM c.states (ETy.get .tran c.trans x.toNat) s) y) →
 zJ7Bu Γ Q zBu2 ({n:=99,fr:=[(8,.p (.lst .int out)),(9,.p (.lst .int m)),(3,.x (.c (.loc 0 0))),(6,.p (.bool false)),(7,.p (.lst .int s)),(43,.p (.lst .int lv)),(44,.i lv.length),(45,.i i),(12,.i t),(13,.p (.bool b)),(70,.p (.lst .int out)),(71,.i out.length),(72,.i j),(15,.i x),(79,.p (.lst .int ls)),(80,.i ((ls.length:Int))),(81,.i ((q:Int)))],ck:=(zBu1 c)}):=by
 intro n
 induction n with
 |zero=>?_
 |succ n ih=>?_
 all_goals
  intro q b hn hq hb
  cases b
  · refine jg gQ Tryz.func7 (let x1:List Chunk:=(zBu1 c);let x2:List Nat:=[1,1,1,1,1,0,1,0,0,1,1,0,0,1,1,1,1,0,1,0,0];let x3:List Nat:=[1,1,1,1,1,0,1,0,0,1,1,0,0,1,1,1,1,1];.ite (decide ((q:Int)<(ls.length:Int))) (.need (inRg q ls.length) (.stop [.ops [1,1,1,1,1,0,1,0,0,1,1,0,0,1,1,1,1,0,1,0,0,1,1,0,0,1,1,0,0,1,1,0,0,1] 5,.inBlock 5,.code [1,1,1,1,1,0,1,0,0,1,1,0,0,1,1,1,1,0,1,0,0,1,1,0,0,1,1,0,0,1,1,1],.inLoop [1,1,1,1,1,0,1,0,0,1,1,0,0,1,1,1,1,0,1,0,0,1,1,0,0,1,1,0,0],.inBlock 4,.inBlock 3,.code [1,1,1,1,1,0,1,0,0,1,1,0,0,1,1,1,1,0,1,0,0,1,1,1],.inLoop x2,.inBlock 2,.code x3,.inBlock 1,.code [1,1,1,1,1,0,1,0,0,1,1,1],.inLoop [1,1,1,1,1,0,1,0,0],.inBlock 0,.code [1,1,1,1,1,1]] {n:=99,fr:=[(8,.p (.lst .int out)),(9,.p (.lst .int m)),(3,.x (.c (.loc 0 0))),(6,.p (.bool false)),(7,.p (.lst .int s)),(43,.p (.lst .int lv)),(44,.i lv.length),(45,.i i),(12,.i t),(70,.p (.lst .int out)),(71,.i out.length),(72,.i j),(15,.i x),(79,.p (.lst .int ls)),(80,.i ls.length),(81,.i q),(17,.i (ETy.get .int ls q)),(86,.p (.bool false)),(87,.grd 86 false (.agg [.pd (.str c.name),.pd (.lst .str c.events),.pd (.lst .var c.vars),.pd (.lst .stat c.states),.pd (.lst .tran c.trans)])),(88,.grd 86 false (.p (.lst .int s))),(89,.grd 86 false (.i x))],ck:=x1})) (.stop [.code x2,.inLoop x2,.inBlock 2,.code x3,.inBlock 1,.code [1,1,1,1,1,0,1,0,0,1,1,1],.inLoop [1,1,1,1,1,0,1,0,0],.inBlock 0,.code [1,1,1,1,1,1]] {n:=99,fr:=[(8,.p (.lst .int out)),(9,.p (.lst .int m)),(3,.x (.c (.loc 0 0))),(6,.p (.bool false)),(7,.p (.lst .int s)),(43,.p (.lst .int lv)),(44,.i lv.length),(45,.i i),(12,.i t),(13,.p (.bool false)),(70,.p (.lst .int out)),(71,.i out.length),(72,.i (IntKind.wrap .i64 ((j:Int)+1)))],ck:=x1})) ?_
    conv=>zeta
    refine⟨fun hlt=>?_,fun hge=>?_⟩
    · have hq':q<ls.length:=by have:=of_decide_eq_true hlt;omega
      refine⟨⟨by omega,by omega⟩,Su hp ?_⟩
      refine jg gQ Tryz.func7 (.stop zBu2 {n:=99,fr:=[(8,.p (.lst .int out)),(9,.p (.lst .int m)),(3,.x (.c (.loc 0 0))),(6,.p (.bool false)),(7,.p (.lst .int s)),(43,.p (.lst .int lv)),(44,.i lv.length),(45,.i i),(12,.i t),(70,.p (.lst .int out)),(71,.i out.length),(72,.i j),(15,.i x),(79,.p (.lst .int ls)),(80,.i ls.length),(81,.i (IntKind.wrap .i64 ((q:Int)+1))),(13,.p (.bool (false||inB (eM c.states (ETy.get .tran c.trans (Int.toNat x)) s) (ETy.get .int ls q))))],ck:=(zBu1 c)}) ?_
      rw[bx (t:=.int) hq',cr,←fy]at hb
      rw[aZ (aG hq' hl)]
      first
      |(exfalso;omega)
      | refine J.kn [] (J.frameP (fun p hp=>?_) (ih (q+1) _ (by omega) (by omega) hb))
        simp only[aI,List.not_mem_nil,or_false]at hp
        rcases hp with rfl |rfl |rfl |rfl |rfl |rfl |rfl |rfl |rfl |rfl |rfl |rfl |rfl |rfl |rfl |rfl |rfl <;> repeat (first |exact List.Mem.head _ |apply List.Mem.tail)
    · rw[bS (by have:=of_decide_eq_false hge;omega),List.any_nil,bN]at hb
      rw[hb]at H;exact H
  · refine jg gQ Tryz.func7 (let x1:List Chunk:=(zBu1 c);let x2:List Nat:=[1,1,1,1,1,0,1,0,0,1,1,0,0,1,1,1,1,0,1,0,0];let x3:List Nat:=[1,1,1,1,1,0,1,0,0,1,1,0,0,1,1,1,1,1];.ite (decide ((q:Int)<(ls.length:Int))) (.need (inRg q ls.length) (.stop [.ops [1,1,1,1,1,0,1,0,0,1,1,0,0,1,1,1,1,0,1,0,0,1,1,0,0,1,1,0,0,1,1,0,0,1] 5,.inBlock 5,.code [1,1,1,1,1,0,1,0,0,1,1,0,0,1,1,1,1,0,1,0,0,1,1,0,0,1,1,0,0,1,1,1],.inLoop [1,1,1,1,1,0,1,0,0,1,1,0,0,1,1,1,1,0,1,0,0,1,1,0,0,1,1,0,0],.inBlock 4,.inBlock 3,.code [1,1,1,1,1,0,1,0,0,1,1,0,0,1,1,1,1,0,1,0,0,1,1,1],.inLoop x2,.inBlock 2,.code x3,.inBlock 1,.code [1,1,1,1,1,0,1,0,0,1,1,1],.inLoop [1,1,1,1,1,0,1,0,0],.inBlock 0,.code [1,1,1,1,1,1]] {n:=99,fr:=[(8,.p (.lst .int out)),(9,.p (.lst .int m)),(3,.x (.c (.loc 0 0))),(6,.p (.bool false)),(7,.p (.lst .int s)),(43,.p (.lst .int lv)),(44,.i lv.length),(45,.i i),(12,.i t),(70,.p (.lst .int out)),(71,.i out.length),(72,.i j),(15,.i x),(79,.p (.lst .int ls)),(80,.i ls.length),(81,.i q),(17,.i (ETy.get .int ls q)),(86,.p (.bool true)),(87,.grd 86 false (.agg [.pd (.str c.name),.pd (.lst .str c.events),.pd (.lst .var c.vars),.pd (.lst .stat c.states),.pd (.lst .tran c.trans)])),(88,.grd 86 false (.p (.lst .int s))),(89,.grd 86 false (.i x))],ck:=x1})) (.stop [.code x2,.inLoop x2,.inBlock 2,.code x3,.inBlock 1,.code [1,1,1,1,1,0,1,0,0,1,1,1],.inLoop [1,1,1,1,1,0,1,0,0],.inBlock 0,.code [1,1,1,1,1,1]] {n:=99,fr:=[(8,.p (.lst .int out)),(9,.p (.lst .int m)),(3,.x (.c (.loc 0 0))),(6,.p (.bool false)),(7,.p (.lst .int s)),(43,.p (.lst .int lv)),(44,.i lv.length),(45,.i i),(12,.i t),(13,.p (.bool true)),(70,.p (.lst .int out)),(71,.i out.length),(72,.i (IntKind.wrap .i64 ((j:Int)+1)))],ck:=x1})) ?_
    conv=>zeta
    refine⟨fun hlt=>?_,fun hge=>?_⟩
    · have hq':q<ls.length:=by have:=of_decide_eq_true hlt;omega
      refine⟨⟨by omega,by omega⟩,Sv ?_⟩
      refine jg gQ Tryz.func7 (.stop zBu5 {n:=99,fr:=[(8,.p (.lst .int out)),(9,.p (.lst .int m)),(3,.x (.c (.loc 0 0))),(6,.p (.bool false)),(7,.p (.lst .int s)),(43,.p (.lst .int lv)),(44,.i lv.length),(45,.i i),(12,.i t),(70,.p (.lst .int out)),(71,.i out.length),(72,.i j),(15,.i x),(79,.p (.lst .int ls)),(80,.i ls.length),(81,.i q),(86,.p (.bool true)),(90,.grd 86 false (.p (.bool false))),(91,.grd 86 false (.i (ETy.get .int ls q)))],ck:=(zBu1 c)}) ?_
      refine Sw ?_
      refine jg gQ Tryz.func7 (.stop zBu2 {n:=99,fr:=[(8,.p (.lst .int out)),(9,.p (.lst .int m)),(3,.x (.c (.loc 0 0))),(6,.p (.bool false)),(7,.p (.lst .int s)),(43,.p (.lst .int lv)),(44,.i lv.length),(45,.i i),(12,.i t),(70,.p (.lst .int out)),(71,.i out.length),(72,.i j),(15,.i x),(79,.p (.lst .int ls)),(80,.i ls.length),(81,.i (IntKind.wrap .i64 ((q:Int)+1))),(13,.p (.bool true))],ck:=(zBu1 c)}) ?_
      rw[b9]at hb
      rw[aZ (aG hq' hl)]
      first
      |(exfalso;omega)
      | refine J.kn [] (J.frameP (fun p hp=>?_) (ih (q+1) true (by omega) (by omega) (by rw[b9];exact hb)))
        simp only[aI,List.not_mem_nil,or_false]at hp
        rcases hp with rfl |rfl |rfl |rfl |rfl |rfl |rfl |rfl |rfl |rfl |rfl |rfl |rfl |rfl |rfl |rfl |rfl <;> repeat (first |exact List.Mem.head _ |apply List.Mem.tail)
    · rw[b9]at hb
      rw[hb]at H;exact H
abbrev zBu7:List PI:=[.code [1,1,1,1,1,0,1,0,0],.inLoop [1,1,1,1,1,0,1,0,0],.inBlock 0,.code [1,1,1,1,1,1]]
theorem MF(Γ:Ctx)(Q:Out)(c:Chart)(p s out m lv:List Int)(vs:List Val)(ev:Str)(i:Nat)(t:Int)(v:Valid c)(ht:0≤t∧t<(c.trans.length:Int))(hs:s.length≤1000∧∀y∈s,0≤y∧y<(c.states.length:Int))(ho:∀k∈out,0≤k∧k<(c.trans.length:Int))(hl:out.length≤maxLen)
 (H:zJ7Bu Γ Q zBu7 ({n:=99,fr:=[(8,.p (.lst .int out)),(9,.p (.lst .int m)),(3,.x (.c (.loc 0 0))),(6,.p (.bool false)),(7,.p (.lst .int s)),(43,.p (.lst .int lv)),(44,.i ((lv.length:Int))),(45,.i ((IntKind.wrap .i64 ((i:Int)+1))))],ck:=(zBu1 c)})):∀(n j:Nat) (b:Bool),out.length - j≤n→j≤out.length→(b||(out.drop j).any fun k=>cJ (eM c.states (ETy.get .tran c.trans t.toNat) s) (eM c.states (ETy.get .tran c.trans k.toNat) s))=true →
 zJ7Bu Γ Q zBu6 ({n:=99,fr:=[(8,.p (.lst .int out)),(9,.p (.lst .int m)),(3,.x (.c (.loc 0 0))),(6,.p (.bool false)),(7,.p (.lst .int s)),(43,.p (.lst .int lv)),(44,.i lv.length),(45,.i i),(12,.i t),(13,.p (.bool b)),(70,.p (.lst .int out)),(71,.i out.length),(72,.i ((j:Int)))],ck:=(zBu1 c)}):=by
 intro n
 induction n with
 |zero=>?_
 |succ n ih=>?_
 all_goals
  intro j b hn hj hb
  refine jg gQ Tryz.func7 (let x1:List Chunk:=(zBu1 c);let x2:List Nat:=[1,1,1,1,1,0,1,0,0,1,1,0,0,1,1,1,1,0,1,0,0,1,1,0,0,1,1,0,0];let x3:=(eM c.states (ETy.get .tran c.trans (Int.toNat t)) s);let x4:List Nat:=[1,1,1,1,1,0,1,0,0];.ite (decide ((j:Int)<(out.length:Int))) (.need (inRg j out.length) (.need (Valid c∧((0:Int)≤t∧t<(c.trans.length:Int))∧s.length≤1000∧∀(y:ETy.den .int),y∈s→(0:ETy.den .int)≤y∧y<(c.states.length:Int)) (.stop [.code x2,.inLoop x2,.inBlock 4,.inBlock 3,.code [1,1,1,1,1,0,1,0,0,1,1,0,0,1,1,1,1,0,1,0,0,1,1,1],.inLoop [1,1,1,1,1,0,1,0,0,1,1,0,0,1,1,1,1,0,1,0,0],.inBlock 2,.code [1,1,1,1,1,0,1,0,0,1,1,0,0,1,1,1,1,1],.inBlock 1,.code [1,1,1,1,1,0,1,0,0,1,1,1],.inLoop x4,.inBlock 0,.code [1,1,1,1,1,1]] {n:=99,fr:=[(8,.p (.lst .int out)),(9,.p (.lst .int m)),(3,.x (.c (.loc 0 0))),(6,.p (.bool false)),(7,.p (.lst .int s)),(43,.p (.lst .int lv)),(44,.i lv.length),(45,.i i),(12,.i t),(13,.p (.bool b)),(70,.p (.lst .int out)),(71,.i out.length),(72,.i j),(15,.i (ETy.get .int out j)),(79,.p (.lst .int x3)),(80,.i (↑(x3.length):Int)),(81,.i 0)],ck:=x1}))) (.ite (!b) (.ret (.p (.bool false)) []) (.stop [.code x4,.inLoop x4,.inBlock 0,.code [1,1,1,1,1,1]] {n:=99,fr:=[(8,.p (.lst .int out)),(9,.p (.lst .int m)),(3,.x (.c (.loc 0 0))),(6,.p (.bool false)),(7,.p (.lst .int s)),(43,.p (.lst .int lv)),(44,.i lv.length),(45,.i (IntKind.wrap .i64 ((i:Int)+1)))],ck:=x1}))) ?_
  conv=>zeta
  refine⟨fun hlt=>?_,fun hge=>⟨fun h=>?_,fun _=>H⟩⟩
  · have hj':j<out.length:=by have:=of_decide_eq_true hlt;omega
    have hmem:ETy.get .int out j∈out:=by
     rw[ETy.get_eq (t:=.int) (List.getElem?_eq_getElem hj')];exact aW hj'
    rw[bx (t:=.int) hj',cr,←fy]at hb
    have hll:(eM c.states (ETy.get .tran c.trans t.toNat) s).length≤maxLen:=by
     have h1:(eM c.states (ETy.get .tran c.trans t.toNat) s).length≤s.length:=by
      unfold eM
      split
      ·exact aS _
      ·exact aY _ _
     unfold maxLen;omega
    refine⟨⟨by omega,by omega⟩,⟨v,ht,hs⟩,?_⟩
    refine MG Γ Q c p s out m lv (eM c.states (ETy.get .tran c.trans t.toNat) s) vs ev i j t (ETy.get .int out j) (b||cJ (eM c.states (ETy.get .tran c.trans t.toNat) s) (eM c.states (ETy.get .tran c.trans (ETy.get .int out j).toNat) s)) ⟨v,ho _ hmem,hs⟩ hll ?_ (eM c.states (ETy.get .tran c.trans t.toNat) s).length 0 b (by omega) (by omega) (by rw[cA];rfl)
    rw[aZ (aG hj' hl)]
    first
    |(exfalso;omega)
    |exact ih (j+1) _ (by omega) (by omega) hb
  · exfalso
    rw[bS (by have:=of_decide_eq_false hge;omega),List.any_nil,bN]at hb
    have h':(!b)=true:=h
    rw[hb]at h';cases h'
theorem ME(Γ:Ctx)(c:Chart)(p s out m lv:List Int)(vs:List Val)(ev:Str)(v:Valid c)(hs:s.length≤1000∧∀y∈s,0≤y∧y<(c.states.length:Int))(ho:∀k∈out,0≤k∧k<(c.trans.length:Int))(hl:out.length≤maxLen)(hm:∀k∈m,0≤k∧k<(c.trans.length:Int))(hlv:lv.length≤maxLen)(hy:∀y∈lv,0≤y∧y<(c.states.length:Int))
 (hf:∀y∈lv,firstM c.states c.trans m y<0∨firstM c.states c.trans m y<(c.trans.length:Int)) (hmet:∀y∈lv,0≤firstM c.states c.trans m y→dr c.trans (firstM c.states c.trans m y)=y→firstM c.states c.trans m y ∉ out→∃k∈out,cJ (lvM c.states s c.trans (firstM c.states c.trans m y)) (lvM c.states s c.trans k)=true):∀(n i:Nat),lv.length - i≤n→i≤lv.length →
 zJ7Bu Γ (Eq2 (.x (.b true)) []) zBu7 ({n:=99,fr:=[(8,.p (.lst .int out)),(9,.p (.lst .int m)),(3,.x (.c (.loc 0 0))),(6,.p (.bool false)),(7,.p (.lst .int s)),(43,.p (.lst .int lv)),(44,.i ((lv.length:Int))),(45,.i ((i:Int)))],ck:=(zBu1 c)}):=by
 intro n
 induction n with
 |zero=>?_
 |succ n ih=>?_
 all_goals
  intro i hn hi
  refine jg gQ Tryz.func7 (let x1:List Chunk:=(zBu1 c);let x2:=(firstM c.states c.trans m (ETy.get .int lv i));let x3:=(firstM c.states c.trans m (ETy.get .int lv i)<(0:Int));let x4:List Nat:=[1,1,1,1,1,0,1,0,0,1,1,0,0,1,1,1,1,0,1,0,0];let x5:List Nat:=[1,1,1,1,1,0,1,0,0];.ite (decide ((i:Int)<(lv.length:Int))) (.need (inRg i lv.length) (.need (Valid c∧(∀(k:ETy.den .int),k∈m→(0:ETy.den .int)≤k∧k<(c.trans.length:Int))∧(0:Int)≤ETy.get .int lv i∧ETy.get .int lv i<(c.states.length:Int)) (.need (decide x3=false→(0:Int)≤firstM c.states c.trans m (ETy.get .int lv i)∧firstM c.states c.trans m (ETy.get .int lv i)<(c.trans.length:Int)) (.ite (decide x3||Tran.src (ETy.get .tran c.trans (x2.toNat)) != ETy.get .int lv i||inB out x2) (.stop [.code x5,.inLoop x5,.inBlock 0,.code [1,1,1,1,1,1]] {n:=99,fr:=[(8,.p (.lst .int out)),(9,.p (.lst .int m)),(3,.x (.c (.loc 0 0))),(6,.p (.bool false)),(7,.p (.lst .int s)),(43,.p (.lst .int lv)),(44,.i lv.length),(45,.i (IntKind.wrap .i64 ((i:Int)+1)))],ck:=x1}) (.stop [.code x4,.inLoop x4,.inBlock 2,.code [1,1,1,1,1,0,1,0,0,1,1,0,0,1,1,1,1,1],.inBlock 1,.code [1,1,1,1,1,0,1,0,0,1,1,1],.inLoop x5,.inBlock 0,.code [1,1,1,1,1,1]] {n:=99,fr:=[(8,.p (.lst .int out)),(9,.p (.lst .int m)),(3,.x (.c (.loc 0 0))),(6,.p (.bool false)),(7,.p (.lst .int s)),(43,.p (.lst .int lv)),(44,.i lv.length),(45,.i i),(12,.i x2),(13,.p (.bool false)),(70,.p (.lst .int out)),(71,.i out.length),(72,.i 0)],ck:=x1,kn:=[13]}))))) (.ret (.p (.bool true)) [])) ?_
  conv=>zeta
  refine⟨fun hlt=>?_,fun hge=>⟨rfl,rfl⟩⟩
  have hi':i<lv.length:=by have:=of_decide_eq_true hlt;omega
  have hmem:ETy.get .int lv i∈lv:=by
   rw[ETy.get_eq (t:=.int) (List.getElem?_eq_getElem hi')];exact aW hi'
  have hf1:=hf _ hmem
  have hmt:=hmet _ hmem
  have hy1:=hy _ hmem
  have hnext:zJ7Bu Γ (Eq2 (.x (.b true)) []) zBu7 ({n:=99,fr:=[(8,.p (.lst .int out)),(9,.p (.lst .int m)),(3,.x (.c (.loc 0 0))),(6,.p (.bool false)),(7,.p (.lst .int s)),(43,.p (.lst .int lv)),(44,.i ((lv.length:Int))),(45,.i ((IntKind.wrap .i64 ((i:Int)+1))))],ck:=(zBu1 c)}):=by
   rw[aZ (aG hi' hlv)]
   first
   |(exfalso;omega)
   |exact ih (i+1) (by omega) (by omega)
  refine⟨⟨by omega,by omega⟩,⟨v,hm,hy1⟩,fun h0=>?_,fun h0=>hnext,fun h0=>?_⟩
  · have:=of_decide_eq_false h0
    exact⟨by omega,by omega⟩
  · have h0':(decide (firstM c.states c.trans m (ETy.get .int lv i)<0)||dr c.trans (firstM c.states c.trans m (ETy.get .int lv i)) != ETy.get .int lv i||inB out (firstM c.states c.trans m (ETy.get .int lv i)))=false:=h0
    rw[al,al]at h0'
    have ha:=of_decide_eq_false h0'.1.1
    have hb:dr c.trans (firstM c.states c.trans m (ETy.get .int lv i))=ETy.get .int lv i:=by simpa using h0'.1.2
    have hc:firstM c.states c.trans m (ETy.get .int lv i) ∉ out:=fun h=>by
     rw[(cu _ _).2 h]at h0';exact absurd h0'.2 (by decide)
    obtain⟨k,hk1,hk2⟩:=hmt (by omega) hb hc
    refine J.kn [] ?_
    refine MF Γ _ c p s out m lv vs ev i (firstM c.states c.trans m (ETy.get .int lv i)) v ⟨by omega,by omega⟩ hs ho hl hnext out.length 0 false (by omega) (by omega) ?_
    rw[bj,cA]
    exact bf.2 ⟨k,hk1,hk2⟩
theorem JF(c:Chart)(p:List Int)(vs:List Val)(ev:Str)(h:mO c)(hp:∀b∈p,0≤b∧b≤255)(hv:∀v∈vs,i64 v.a=true):ah Tryz.prog 7 [.e .chart c,.agg [.pd (.lst .byte p),.pd (.lst .val vs)],.s ev] [] (.x (.b true)) []:=by
 have hz:=xj h
 have hb:=C1 h
 have hsz:c.vars.length≤2199023255552∧c.states.length≤2199023255552:=⟨hz.1,by omega⟩
 refine dg gQ Tryz.func7 (let x1:=(dK c.states (chM c.states p));let x2:=(c.vars.length≤2199023255552∧c.states.length≤2199023255552);.ite false (.ret (.p (.bool false)) []) (.need (∀(s:ETy.den .stat),s∈c.states→s.entry.length≤4398046511104∧s.leave.length≤4398046511104) (.ite (!bp c==(0:Int)) (.ret (.p (.bool true)) []) (.need (Tre c.states∧∀(b:ETy.den .byte),b∈p→(0:ETy.den .byte)≤b∧b≤(255:ETy.den .byte)) (.need (x1.length≤100000) (.need (x2∧∀(v:Val),v∈vs→i64 v.a=true) (.need (x1.length≤100000) (.need (x2∧∀(v:Val),v∈vs→i64 v.a=true) (.need (x1.length≤1000∧∀(y:ETy.den .int),y∈dK c.states (chM c.states p)→(0:ETy.den .int)≤y∧y<(c.states.length:Int)) (.stop zBu7 {n:=99,fr:=[(8,.p (.lst .int (gL c x1 vs ev))),(9,.p (.lst .int (j4 c x1 vs ev))),(3,.x (.c (.loc 0 0))),(6,.p (.bool false)),(7,.p (.lst .int x1)),(43,.p (.lst .int (aR c.states x1))),(44,.i (↑((aR c.states x1).length):Int)),(45,.i 0)],ck:=(zBu1 c)})))))))))) fun Γ=>?_
 conv=>zeta
 refine⟨fun h0=>absurd h0 (by decide),fun _=>⟨hb,fun h1=>⟨rfl,rfl⟩,fun h1=>?_⟩⟩
 have h1':(!bp c==0)=false:=h1
 have hck:(bp c==0)=true:=by simpa using h1'
 have hV:=(db c).1 (eq_of_beq hck)
 have tt:=hV.tre
 have hst:=(dP c).1 hV.few
 have hL:=mD tt (mj tt hp)
 have hg:=(kj tt.shp _).2 hL
 have hsm:=km hV hL
 refine⟨⟨tt,hp⟩,by omega,⟨hsz,hv⟩,by omega,⟨hsz,hv⟩,hsm,?_⟩
 generalize dK c.states (chM c.states p)=s at hL hg hsm
 have e:gL c s vs ev=cC c.states s c.trans (bM c s vs ev):=by unfold gL;rw[hck,hg];rfl
 have e2:j4 c s vs ev=bM c s vs ev:=by unfold j4;rw[hck,hg];rfl
 rw[e,e2]
 have hmr:∀k∈bM c s vs ev,0≤k∧k<(c.trans.length:Int):=fun k hk=>by
  obtain⟨n,rfl,h2,_⟩:=ko.1 hk
  omega
 have hl:(cC c.states s c.trans (bM c s vs ev)).length≤c.trans.length:=qR _ _
 have hlv:∀y∈aR c.states s,∃q:Nat,y=(q:Int)∧q<c.states.length:=fun y hy=>by
  obtain⟨q,e,hq,_⟩:=nh hL hy;exact⟨q,e,hq⟩
 have hll:(aR c.states s).length≤s.length:=aY _ _
 refine ME Γ c p s _ _ _ vs ev hV hsm (fun k hk=>hmr k (l6 tt.shp hL hk)) (show(cC c.states s c.trans (bM c s vs ev)).length≤maxLen by unfold maxLen;omega) hmr (by unfold maxLen;omega) (fun y hy=>?_) (fun y hy=>?_) (fun y hy h0 hsrc hno=>?_) (aR c.states s).length 0 (by omega) (by omega)
 · obtain⟨q,rfl,hq⟩:=hlv y hy
   omega
 · obtain⟨q,rfl,hq⟩:=hlv y hy
   by_cases h0:0≤firstM c.states c.trans (bM c s vs ev) (q:Int)
   ·exact .inr (hmr _ (qG tt.shp hq h0).1).2
   ·exact .inl (by omega)
 ·exact(D0 tt hL hy h0 hsrc).resolve_left hno
end Go.Proofs.YtlhgnjmdopjpeaaGreatDoor
