/- Contracts: conf.legal. Conditions: sizes. Contracts: conf: Legal; the document's Active. Conditions: sizes. From a call's contract to a law's row: arguments opened, the row shut. Conditions: each theorem's own. From a row that lists the library's tables to what the walks ask; a world for the witness. Conditions: none. -/
import Derived.Test.YtgfifkhbfdacjaaGreatDoorCe
import Derived.Test.YtgfifkhbfdacjaaGreatDoorVk
import Derived.Test.YtgfifkhbfdacjaaGreatDoorVb
import Derived.ProofKit
import Derived.Deep.Slices
import Derived.SizedLaws
import Derived.Test.YtgfifkhbfdacjaaGreatDoorCards
import Derived.Test.YtgfifkhbfdacjaaGreatDoorTie
import Derived.Deep.DeepHandedRow
import Derived.Lib.LaidTab
import Derived.LaidSub
import Derived.Stop.LaidErr
import Derived.MakeChecks
import Derived.Shelf.Vars
namespace Go.Proofs.YtgfifkhbfdacjaaGreatDoor
open Go Go.Ev
set_option maxRecDepth 100000
abbrev zJ106Cl:=J Tryz.prog 106 (au Tryz.f106)
def l6:Cfg:=⟨aY,[qD,je,jD]⟩
theorem jG:ag Tryz.prog l6.tab:=(ag.cons C5 (ag.cons ka (ag.cons jR ag.nil)))
structure FlagOk (a:List Bool) (s:List Int) (n:Nat):Prop where
 len:a.length=n
 get:∀ j,j<n→ETy.get .bool a j=inB s (j:Int)
theorem Fj (n:Nat):FlagOk (List.replicate n false) [] n:=by
 refine ⟨db,fun j hj=>?_⟩
 rw [ETy.get_eq (t:=.bool) (x:=false) (by rw [List.getElem?_replicate,if_pos hj])]; rfl
theorem Ge {a:List Bool} {s:List Int} {n:Nat} (h:FlagOk a s n) {x:Nat} (hx:x<n):FlagOk (a.set x true) (s++[(x:Int)]) n:=by
 refine ⟨by rw [bt]; exact h.len,fun j hj=>?_⟩
 have e:inB (s++[(x:Int)]) (j:Int)=(inB s (j:Int)||(x:Int)==(j:Int)):=by unfold inB; rw [ez]; simp
 rw [e,← h.get j hj]
 by_cases hxj:x=j
 · subst hxj
   rw [ETy.get_eq (t:=.bool) (x:=true) (by rw [List.getElem?_set_self (by rw [h.len]; exact hx)])]; simp
 · have h1:((x:Int)==(j:Int))=false:=by
    have:¬(x:Int)=(j:Int):=by omega
    simpa using this
   rw [h1,bU]
   have h2:j<a.length:=by rw [h.len]; exact hj
   rw [ETy.get_eq (t:=.bool) (x:=a[j]) (by rw [List.getElem?_set_ne hxj,List.getElem?_eq_getElem h2]),ETy.get_eq (t:=.bool) (List.getElem?_eq_getElem h2)]
variable (c:Chart) (s:List Int) {x:Int} (ks:List Int) {n:Nat}
theorem HM {ks:List Int} {j:Nat} (hj:j<ks.length):fj s (ks.take (j+1))=fj s (ks.take j)+(if inB s (ETy.get .int ks j)=true then 1 else 0):=by
 unfold fj
 rw [ETy.get_eq (t:=.int) (List.getElem?_eq_getElem hj),aU hj,b5,ar]
 cases h:inB s ks[j] <;> simp [h]
theorem Lw:fj s ks≤ks.length:=br _ _
abbrev zCl1 (a:Chart):Chunk:=.cells [.pd (.str a.name),.pd (.lst .str a.events),.pd (.lst .var a.vars),.pd (.lst .stat a.states),.pd (.lst .tran a.trans)] 27
abbrev zCl2:List PI:=[.code [1,1,1,1,0,1,0,0],.inLoop [1,1,1,1,0,1,0,0],.inBlock 2,.code [1,1,1,1,1]]
theorem H6 (v:Ev.Stat) (ks:List Int) (a:List Bool) (k:Nat) (hf:FlagOk a s c.states.length) (hks:∀ y∈ks,0≤y∧y<(c.states.length:Int)) (hl:ks.length≤1000) (Γ:Ctx) (res:Bool)
 (hcont:(v.kind==2&&(fj s ks:Int) != 1||v.kind==3&&(fj s ks:Int) != (ks.length:Int))=false→zJ106Cl Γ (Eq2 (.x (.b res)) []) zCl2 ({ n:=138,fr:=[(2,.x (.c (.loc 0 0))),(4,.p (.bool false)),(5,.x (.c (.own 1))),(49,.p (.lst .stat c.states)),(50,.i c.states.length),(51,.i ((IntKind.wrap .i64 ((k:Int)+1))))],ck:=[zCl1 c,.own 4 .bool a],kn:=[4] }))
 (hstop:(v.kind==2&&(fj s ks:Int) != 1||v.kind==3&&(fj s ks:Int) != (ks.length:Int))=true→res=false):∀ (n j:Nat),ks.length - j≤n→j≤ks.length →
 zJ106Cl Γ (Eq2 (.x (.b res)) []) [.code [1,1,1,1,0,1,0,0,1,1,0,0,1,1,1,1,0,1,0,0],.inLoop [1,1,1,1,0,1,0,0,1,1,0,0,1,1,1,1,0,1,0,0],.inBlock 4,.code [1,1,1,1,0,1,0,0,1,1,0,0,1,1,1,1,1],.inBlock 3,.code [1,1,1,1,0,1,0,0,1,1,1],.inLoop [1,1,1,1,0,1,0,0],.inBlock 2,.code [1,1,1,1,1]] ({ n:=138,fr:=[(2,.x (.c (.loc 0 0))),(4,.p (.bool false)),(5,.x (.c (.own 1))),(49,.p (.lst .stat c.states)),(50,.i c.states.length),(51,.i k),(10,.x (.c (.loc 2 0))),(11,.i ((fj s (ks.take j):Int))),(12,.x (.c (.own 3))),(106,.x (.c (.own 3))),(107,.i ((ks.length:Int))),(108,.i ((j:Int)))],ck:=[zCl1 c,.own 4 .bool a,.cells [.pd (.str v.name),SC.i v.kind,SC.i v.depth,.pd (.str v.initial),.pd (.lst .deed v.entry),.pd (.lst .deed v.leave)] 56,.own 3 .int ks],kn:=[4] }):=by
 have hm:ks.length≤maxLen:=by unfold maxLen; omega
 intro n
 induction n with
 | zero=>?_
 | succ n ih=>?_
 all_goals
  intro j hn hj
  generalize hac:(fj s (ks.take j):Int)=m
  refine jg jG Tryz.func106 (let x3:List Nat:=[1,1,1,1,0,1,0,0,1,1,0,0,1,1,1,1,0,1,0,0]; let x7:List Nat:=[1,1,1,1,0,1,0,0]; let x1:List PI:=[.code x3,.inLoop x3,.inBlock 4,.code [1,1,1,1,0,1,0,0,1,1,0,0,1,1,1,1,1],.inBlock 3,.code [1,1,1,1,0,1,0,0,1,1,1],.inLoop x7,.inBlock 2,.code [1,1,1,1,1]]; let x2:List Chunk:=[zCl1 c,.own 4 .bool a,.cells [.pd (.str v.name),.i v.kind,.i v.depth,.pd (.str v.initial),.pd (.lst .deed v.entry),.pd (.lst .deed v.leave)] 56,.own 3 .int ks]; let x4:Nat×SV:=(49,.p (.lst .stat c.states)); let x5:=(IntKind.wrap .i64 ((j:Int)+1)); let x6:Nat×SV:=(50,.i c.states.length); let x8:Nat×SV:=(2,.x (.c (.loc 0 0))); .ite (decide ((j:Int)<(ks.length:Int))) (.need (inRg j ks.length) (.need (j<ks.length) (.need ((0:Int)≤ETy.get .int ks j∧ETy.get .int ks j<(a.length:Int)) (.need ((ETy.get .int ks j).toNat<a.length) (.ite (ETy.get .bool a ((ETy.get .int ks j).toNat)) (.stop x1 { n:=138,fr:=[x8,(4,.p (.bool false)),(5,.x (.c (.own 1))),x4,x6,(51,.i k),(10,.x (.c (.loc 2 0))),(11,.i (IntKind.wrap .i64 (m+(1:Int)))),(12,.x (.c (.own 3))),(106,.x (.c (.own 3))),(107,.i ks.length),(108,.i x5)],ck:=x2,kn:=[4] }) (.stop x1 { n:=138,fr:=[x8,(4,.p (.bool false)),(5,.x (.c (.own 1))),x4,x6,(51,.i k),(10,.x (.c (.loc 2 0))),(11,.i m),(12,.x (.c (.own 3))),(106,.x (.c (.own 3))),(107,.i ks.length),(108,.i x5)],ck:=x2,kn:=[4] })))))) (.ite (v.kind==(2:Int)&&m != (1:Int)||v.kind==(3:Int)&&m != (ks.length:Int)) (.ret (.p (.bool false)) []) (.stop [.code x7,.inLoop x7,.inBlock 2,.code [1,1,1,1,1]] { n:=138,fr:=[x8,(4,.p (.bool false)),(5,.x (.c (.own 1))),x4,x6,(51,.i (IntKind.wrap .i64 ((k:Int)+1)))],ck:=[zCl1 c,.own 4 .bool a],kn:=[4] }))) ?_
  conv=>zeta
  refine ⟨fun hlt=>?_,fun hge=>?_⟩
  · have hj':j<ks.length:=by have:=of_decide_eq_true hlt; omega
    have hy:=hks (ETy.get .int ks j) (by rw [ETy.get_eq (t:=.int) (List.getElem?_eq_getElem hj')]; exact bo hj')
    have hs:=HM s hj'
    have hle:=Lw s (ks.take j)
    rw [bj] at hle
    have hg:=hf.get (ETy.get .int ks j).toNat (by omega)
    rw [dZ hy.1] at hg
    have key:∀ y:Int,0≤y→y<(c.states.length:Int)→(0≤y∧y<(a.length:Int))∧y.toNat<a.length:=by
     intro y h1 h2
     have hfl:=hf.len
     omega
    have hk2:=key _ hy.1 hy.2
    refine ⟨⟨by omega,by omega⟩,hj',hk2.1,hk2.2,fun hb=>?_,fun hb=>?_⟩
    · rw [if_pos (by rw [← hg]; exact hb)] at hs
      have hw:IntKind.wrap .i64 (m+1)=(fj s (ks.take (j+1)):Int):=by rw [cg (by omega) (by omega)]; omega
      rw [hw,aX (aE hj' hm)]
      first
      | (exfalso; omega)
      | exact ih (j+1) (by omega) (by omega)
    · rw [if_neg (by rw [← hg]; exact fun e=>by rw [show _=false from hb] at e; cases e)] at hs
      have hw:m=(fj s (ks.take (j+1)):Int):=by omega
      rw [hw,aX (aE hj' hm)]
      first
      | (exfalso; omega)
      | exact ih (j+1) (by omega) (by omega)
  · have hje:j=ks.length:=by have:=of_decide_eq_false hge; omega
    subst hje
    rw [aW (aq _)] at hac
    subst hac
    refine ⟨fun hb=>?_,fun hb=>hcont hb⟩
    rw [hstop hb]; exact ⟨rfl,rfl⟩
theorem HF (t:Tre c.states) (s:List Int) (a:List Bool) (hf:FlagOk a s c.states.length) (Γ:Ctx):∀ (n i:Nat),c.states.length - i=n→i≤c.states.length →
 zJ106Cl Γ (Eq2 (.x (.b (oj c.states s n i))) []) zCl2 ({ n:=138,fr:=[(2,.x (.c (.loc 0 0))),(4,.p (.bool false)),(5,.x (.c (.own 1))),(49,.p (.lst .stat c.states)),(50,.i c.states.length),(51,.i ((i:Int)))],ck:=[zCl1 c,.own 4 .bool a],kn:=[4] }):=by
 have hfew:=t.shp.few
 have hm:c.states.length≤maxLen:=by unfold maxLen; omega
 have hfl:=hf.len
 have no:∀ {b:Bool},b=false→¬b=true:=fun h e=>by rw [h] at e; cases e
 intro n
 induction n with
 | zero=>?_
 | succ n ih=>?_
 all_goals
  intro i hn hi
  refine jg jG Tryz.func106 (let x1:=(ETy.get .stat c.states i); let x2:=(Stat.depth x1==(0:Int) && !ETy.get .bool a i); let x3:=(Stat.depth x1>(0:Int)); let x4:=(decide x3&&ETy.get .bool a i); let x5:List Nat:=[1,1,1,1,0,1,0,0,1,1,0,0,1,1,1,1,0,1,0,0]; let x6:List Nat:=[1,1,1,1,0,1,0,0]; .ite (decide ((i:Int)<(c.states.length:Int))) (.need (inRg i c.states.length) (.need ((Stat.depth x1==(0:Int))=true→(0:Int)≤(i:Int)∧(i:Int)<(a.length:Int)) (.need ((Stat.depth x1==(0:Int))=true→i<a.length) (.need (x2=false∧decide x3=true→(0:Int)≤(i:Int)∧(i:Int)<(a.length:Int)) (.need (x2=false∧decide x3=true→i<a.length) (.need (x2=false∧x4=true→c.states.length≤maxLen) (.need (x2=false∧x4=true→(0:Int)≤ba c.states (i:Int)∧ba c.states (i:Int)<(a.length:Int)) (.need (x2=false∧x4=true→(ba c.states (i:Int)).toNat<a.length) (.ite (Stat.depth x1==(0:Int) && !ETy.get .bool a i||decide x3&&ETy.get .bool a i && !ETy.get .bool a ((ba c.states (i:Int)).toNat)) (.ret (.p (.bool false)) []) (.need (inRg i a.length) (.need (i<a.length) (.ite (!ETy.get .bool a i||Stat.kind x1 != (2:Int)&&Stat.kind x1 != (3:Int)) (.stop [.code x6,.inLoop x6,.inBlock 2,.code [1,1,1,1,1]] { n:=138,fr:=[(2,.x (.c (.loc 0 0))),(4,.p (.bool false)),(5,.x (.c (.own 1))),(49,.p (.lst .stat c.states)),(50,.i c.states.length),(51,.i (IntKind.wrap .i64 ((i:Int)+1)))],ck:=[zCl1 c,.own 4 .bool a],kn:=[4] }) (.need (bR c.states (i:Int)=true) (.stop [.code x5,.inLoop x5,.inBlock 4,.code [1,1,1,1,0,1,0,0,1,1,0,0,1,1,1,1,1],.inBlock 3,.code [1,1,1,1,0,1,0,0,1,1,1],.inLoop x6,.inBlock 2,.code [1,1,1,1,1]] { n:=138,fr:=[(2,.x (.c (.loc 0 0))),(4,.p (.bool false)),(5,.x (.c (.own 1))),(49,.p (.lst .stat c.states)),(50,.i c.states.length),(51,.i i),(10,.x (.c (.loc 2 0))),(11,.i 0),(12,.x (.c (.own 3))),(106,.x (.c (.own 3))),(107,.i (↑((bb c.states i).length):Int)),(108,.i 0)],ck:=[zCl1 c,.own 4 .bool a,.cells [.pd (.str (Stat.name x1)),.i (Stat.kind x1),.i (Stat.depth x1),.pd (.str (Stat.initial x1)),.pd (.lst .deed (Stat.entry x1)),.pd (.lst .deed (Stat.leave x1))] 56,.own 3 .int (bb c.states i)],kn:=[4] })))))))))))))) (.ret (.p (.bool true)) [])) ?_
  conv=>zeta
  refine ⟨fun hlt=>?_,fun hge=>?_⟩
 · have:=of_decide_eq_true hlt; omega
 · exact ⟨rfl,rfl⟩
 · have hi':i<c.states.length:=by omega
   have hn2:c.states.length - (i+1)=n:=by omega
   have hi2:i+1≤c.states.length:=by omega
   have hkn:=jW c.states i
   have hkm:(bb c.states i).length≤1000:=by omega
   have hgi:=hf.get i hi'
   have hpar:ba c.states (i:Int)=upM c.states i:=by rw [fY t.right hi',dK t.shp hi']
   have hup:(ETy.get .stat c.states i).depth>0→∃ p:Nat,upM c.states i=(p:Int)∧p<i:=fun h=>Dx t.shp h
   have hpn:∀ {b:Bool},b=false∧(decide ((ETy.get .stat c.states i).depth>0)&&ETy.get .bool a i)=true→0≤ba c.states (i:Int)∧ba c.states (i:Int)<(c.states.length:Int):=fun h=>by
    have h1:=h.2
    rw [af] at h1
    obtain ⟨p,e,hp⟩:=hup (of_decide_eq_true h1.1)
    rw [hpar,e]; omega
   have hG:((ETy.get .stat c.states i).depth==0 && !ETy.get .bool a i||decide ((ETy.get .stat c.states i).depth>0)&&ETy.get .bool a i && !ETy.get .bool a (ba c.states (i:Int)).toNat)=((ETy.get .stat c.states i).depth==0 && !inB s i||decide ((ETy.get .stat c.states i).depth>0)&&inB s i && !inB s (upM c.states i)):=by
    rw [hgi,hpar]
    by_cases hd:(ETy.get .stat c.states i).depth>0
    · obtain ⟨p,e,hp⟩:=hup hd
      rw [e,ai,hf.get p (by omega)]
    · rw [decide_eq_false hd]; simp only [a6]
   rw [oj]
   refine ⟨⟨by omega,by omega⟩,fun _=>⟨by omega,by omega⟩,fun _=>by omega,fun _=>⟨by omega,by omega⟩,fun _=>by omega,fun _=>hm,fun h=>by have:=hpn h; omega,fun h=>by have:=hpn h; omega,fun hg=>?_,fun hg=>⟨⟨by omega,by omega⟩,by omega,fun hh=>?_,fun hh=>⟨fh t.right hi',?_⟩⟩⟩
   · have hg':=hG.symm.trans hg
     have e1:kj c.states s i=false:=by unfold kj; rw [if_pos hg']
     rw [e1,a6]; exact ⟨rfl,rfl⟩
   · have hg':=hG.symm.trans hg
     have hh':(!inB s i||(ETy.get .stat c.states i).kind != 2&&(ETy.get .stat c.states i).kind != 3)=true:=by rw [← hgi]; exact hh
     have e1:kj c.states s i=true:=by unfold kj; rw [if_neg (no hg'),if_pos hh']
     rw [e1,aS,aX (aE hi' hm)]
     exact ih (i+1) hn2 hi2
   · have hg':=hG.symm.trans hg
     have hh':(!inB s i||(ETy.get .stat c.states i).kind != 2&&(ETy.get .stat c.states i).kind != 3)=false:=by rw [← hgi]; exact hh
     have e1:kj c.states s i = !((ETy.get .stat c.states i).kind==2&&(fj s (bb c.states i):Int) != 1||(ETy.get .stat c.states i).kind==3&&(fj s (bb c.states i):Int) != ((bb c.states i).length:Int)):=by unfold kj; rw [if_neg (no hg'),if_neg (no hh')]
     refine H6 c s (ETy.get .stat c.states i) (bb c.states i) a i hf (fun y hy=>?_) hkm Γ _ (fun hb=>?_) (fun hb=>?_) _ 0 (aq _) (aQ _)
     · obtain ⟨q,rfl,e2,_⟩:=qz t hi' hy
       omega
     · rw [e1,hb,cA,aS,aX (aE hi' hm)]
       exact ih (i+1) hn2 hi2
     · rw [e1,hb]; rfl
 · have:=of_decide_eq_false hge; omega
theorem HA {la x n:Int} {b:Bool} (hla : -1≤la) (h:(decide (x≤la)||decide (x≥n)||b)=false):0≤x∧x<n:=by
 rw [ay,ay] at h
 have:=of_decide_eq_false h.1.1
 have:=of_decide_eq_false h.1.2
 omega
theorem iE (h:0≤x∧x<(n:Int)):x.toNat<n:=by omega
abbrev zCl3:List PI:=[.code [1,1,1,0,1,0,0],.inLoop [1,1,1,0,1,0,0],.inBlock 0,.code [1,1,1,1]]
theorem GR (t:Tre c.states) (s:List Int) (hsl:s.length≤maxLen) (Γ:Ctx):∀ (n k:Nat) (la:Int) (a:List Bool),s.length - k≤n→k≤s.length→-1≤la→FlagOk a (s.take k) c.states.length →
 zJ106Cl Γ (Eq2 (.x (.b (nW c.states la (s.drop k)&&oj c.states s c.states.length 0))) []) zCl3 ({ n:=138,fr:=[(2,.x (.c (.loc 0 0))),(4,.p (.bool false)),(5,.x (.c (.own 1))),(6,.i la),(19,.p (.lst .int s)),(20,.i s.length),(21,.i ((k:Int)))],ck:=[zCl1 c,.own 4 .bool a],kn:=[4] }):=by
 have no:∀ {b:Bool},b=false→¬b=true:=fun h e=>by rw [h] at e; cases e
 intro n
 induction n with
 | zero=>?_
 | succ n ih=>?_
 all_goals
  intro k la a hn hk hla hf
  have hfl:=hf.len
  refine jg jG Tryz.func106 (.ite (decide ((k:Int)<(s.length:Int))) (.need (inRg k s.length) (.need ((decide (ETy.get .int s k≤la)||decide (ETy.get .int s k≥(a.length:Int)))=false→(0:Int)≤ETy.get .int s k∧ETy.get .int s k<(c.states.length:Int)) (.ite (decide (ETy.get .int s k≤la)||decide (ETy.get .int s k≥(a.length:Int))||aO (Stat.kind (ETy.get .stat c.states ((ETy.get .int s k).toNat)))) (.ret (.p (.bool false)) []) (.need ((0:Int)≤ETy.get .int s k∧ETy.get .int s k<(a.length:Int)) (.need ((ETy.get .int s k).toNat<a.length) (.stop zCl3 { n:=138,fr:=[(2,.x (.c (.loc 0 0))),(4,.p (.bool false)),(5,.x (.c (.own 1))),(6,.i (ETy.get .int s k)),(19,.p (.lst .int s)),(20,.i s.length),(21,.i (IntKind.wrap .i64 ((k:Int)+1)))],ck:=[zCl1 c,.own 4 .bool (List.set a ((ETy.get .int s k).toNat) true)],kn:=[4] })))))) (.stop zCl2 { n:=138,fr:=[(2,.x (.c (.loc 0 0))),(4,.p (.bool false)),(5,.x (.c (.own 1))),(49,.p (.lst .stat c.states)),(50,.i c.states.length),(51,.i 0)],ck:=[zCl1 c,.own 4 .bool a],kn:=[4] })) ?_
  refine ⟨fun hlt=>?_,fun hge=>?_⟩
  · have hk':k<s.length:=by have:=of_decide_eq_true hlt; omega
    have ht:s.take (k+1)=s.take k++[ETy.get .int s k]:=by
     rw [ETy.get_eq (t:=.int) (List.getElem?_eq_getElem hk')]; exact aU hk'
    rw [bD (t:=.int) (l:=s) hk',nW]
    generalize ETy.get .int s k=x at ht
    rw [hfl]
    have hz:∀ {b:Bool},(decide (x≤la)||decide (x≥(c.states.length:Int))||b)=false→0≤x∧x<(c.states.length:Int):=fun h=>HA hla h
    refine ⟨⟨by omega,by omega⟩,fun h=>hz (b:=false) (by rw [bU]; exact h),fun hg=>?_,fun hg=>⟨hz hg,iE (hz hg),?_⟩⟩
    · rw [if_pos hg,a6]; exact ⟨rfl,rfl⟩
    · have hx:=hz hg
      rw [if_neg (no hg),aX (aE hk' hsl)]
      obtain ⟨q,rfl⟩:=aD hx.1
      rw [ai]
      first
      | (exfalso; omega)
      | exact ih (k+1) _ _ (by omega) (by omega) (by omega) (by rw [ht]; exact Ge hf (Int.ofNat_lt.1 hx.2))
  · have hke:k=s.length:=by have:=of_decide_eq_false hge; omega
    subst hke
    rw [aW (aq _)] at hf
    rw [List.drop_of_length_le (aq _),nW,aS]
    exact HF c t s a hf Γ c.states.length 0 (by omega) (by omega)
theorem yw (t:Tre c.states):ah Tryz.prog 106 [.e .chart c,.l .int s] [] (.x (.b (dF c.states s))) []:=by
 have hfew:=t.shp.few
 refine dg jG Tryz.func106 (.stop [.ops [1,0] 3,.code [1,1]] { n:=138,fr:=[(1,.p (.lst .int s)),(2,.x (.c (.loc 0 0))),(4,.p (.bool false)),(17,.i c.states.length)],ck:=[zCl1 c],kn:=[4] }) fun Γ=>?_
 refine J.make (d:=18) (e:=4) (by1:=1) .bool false c.states.length (by kernel_rfl) rfl rfl (fun H=>.cons (.bool false) .nil) rfl rfl ⟨by omega,by unfold maxLen; omega⟩ ?_
 have rest:∀ a:List Bool,a=List.replicate c.states.length false→zJ106Cl Γ (Eq2 (.x (.b (dF c.states s))) []) [.ops [1,0] 4,.code [1,1]] ({ n:=138,fr:=[(1,.p (.lst .int s)),(2,.x (.c (.loc 0 0))),(4,.p (.bool false)),(17,.i c.states.length),(18,.x (.c (.own 1)))],ck:=[zCl1 c,.own 4 .bool a],kn:=[4] }):=fun a ha=>by
  refine jg jG Tryz.func106 (.stop zCl3 { n:=138,fr:=[(2,.x (.c (.loc 0 0))),(4,.p (.bool false)),(5,.x (.c (.own 1))),(6,.i (-1:Int)),(19,.p (.lst .int s)),(20,.i s.length),(21,.i 0)],ck:=[zCl1 c,.own 4 .bool a],kn:=[4] }) ?_
  refine J.len 19 rfl fun hl=>?_
  exact GR c t s hl Γ s.length 0 (-1) a (by omega) (by omega) (by omega) (by rw [ha]; exact Fj _)
 exact rest _ rfl
def o9:Ent:=(106,fun
 | [.agg [.pd (.str a),.pd (.lst .str b),.pd (.lst .var c),.pd (.lst .stat d),.pd (.lst .tran e)],.c (.pd (.lst .int s))],[]=>some (some (Tre d),.x (.c (.pd (.bool (dF d s)))),[])
 | _,_=>none)
theorem Bc:EntOk Tryz.prog o9:=entOk fun vs ck=>by
 unfold o9; dsimp only; split
 · rename_i a b c d e s; exact entS fun hp=>yw ⟨a,b,c,d,e⟩ s hp
 · exact entN
end Go.Proofs.YtgfifkhbfdacjaaGreatDoor
namespace Go.Proofs.YtgfifkhbfdacjaaGreatDoor
open Go Go.Ev
set_option maxRecDepth 100000
def EW:Cfg:=⟨aY,[oR,o9]⟩
theorem C9:ag Tryz.prog EW.tab:=(ag.cons BG (ag.cons Bc ag.nil))
theorem yi (c:Chart) (s:List Int) (hz:c.vars.length≤2199023255552∧c.states.length≤2199023255552):ah Tryz.prog 45 [.e .chart c,.l .int s] [] (.x (.b (bC c==0&&dF c.states s))) []:=by
 refine dg C9 Tryz.func45 (.need (c.vars.length≤2199023255552∧c.states.length≤2199023255552) (.need ((bC c==(0:Int))=true→Tre c.states) (.ret (.p (.bool (bC c==(0:Int)&&dF c.states s))) []))) fun Γ=>?_
 exact ⟨hz,fun h=>((iB c).1 (eq_of_beq h)).tre,rfl,rfl⟩
def oW:Ent:=(45,fun
 | [.agg [.pd (.str a),.pd (.lst .str b),.pd (.lst .var c),.pd (.lst .stat d),.pd (.lst .tran e)],.c (.pd (.lst .int s))],[]=>some (some (c.length≤2199023255552∧d.length≤2199023255552),.x (.c (.pd (.bool (bC ⟨a,b,c,d,e⟩==0&&dF d s)))),[])
 | _,_=>none)
theorem CC:EntOk Tryz.prog oW:=entOk fun vs ck=>by
 unfold oW; dsimp only; split
 · rename_i a b c d e s; exact entS fun hp=>yi ⟨a,b,c,d,e⟩ s hp
 · exact entN
end Go.Proofs.YtgfifkhbfdacjaaGreatDoor
namespace Go.Ev
open Go.RowKit Go.ChangeShapes Go.WideShapes
def HW (W:World):Mem:=fun k=>W.heap[k]?
def VW (W:World):Vn:=⟨HW W,fun _=>0,fun _=>undef⟩
theorem E6 (W:World):WOk (entry [] (VW W) W) [] (VW W) W where
 ext:=Fr.refl _ _
 imm:=fun _ _ h=>h
 hle:=HLe.refl _
 frz:=fun _ h=>.inl h
 agr:=fun i hi=>absurd hi (Nat.not_lt_zero _)
 own:=fun i c h=>by simp at h
 base:=fun i c b h=>by simp at h
 inj:=fun i j c d b h=>by simp at h
theorem ah.law {P:Program} {f:FuncId} {args:List SX} {b:Bool} (h:ah P f args [] (.x (.c (.pd (.bool b)))) []) {W:World} (hT:fG P (HW W)) {vs:List Value} (hvs:All2 (SX.R (VW W)) args vs) :
 Calls P f vs.toArray W (fun e W'=>e = .returned (.bool b)∧Below W.heap.size W W'):=by
 refine (h W (VW W) vs (E6 W) hT hvs).mono fun e W' hp=>?_
 obtain ⟨v,V',rfl,hr,hw⟩:=hp
 have hr':PR V'.H (.bool b) v:=hr
 cases hr'
 refine ⟨rfl,hw.ext.os,hw.ext.tape,hw.ext.output,hw.ext.size,fun k hk=>hw.ext.block k hk ?_⟩
 rintro ⟨i,c,hc,_⟩
 simp [entry] at hc
section
variable {Hh:Type} {enc:TypeId×Value→Hh} {P:Program} {W:World} {base:Nat} {spare:Nat→Bool} {held:Bool}
theorem Aq {a:Addr} (hs:a.spot=none) {b off:Nat} (hb:a.block=b) (ho:a.off=off) {i:Nat} {u:Value} (h:W.cell? (a.add i)=some u):∃ cells e fr,W.heap[b]?=some (.cells cells e fr)∧cells[off+i]?=some u:=by
 obtain ⟨b',off',sp⟩:=a
 simp only at hs hb ho
 subst hs; subst hb; subst ho
 rw [iu] at h
 unfold World.cell? at h
 split at h
 · rename_i c e fr hb
   exact ⟨c,e,fr,hb,by simpa using h⟩
 · cases h
theorem wA (u:ETy) {Q:u.den→Prop} {t e:TypeId} {fuel:Nat} {v:Value} {x:DataW Hh×List MemPlace} (ht:P.underlying t=some (.slice e)) (hsz:P.cellsOf e=u.size)
 (hel:∀ n cs y,DataW.trod enc P W base spare held n e cs=some y→∃ r,All2 (PR (HW W)) (u.enc r) cs∧Q r) (h:DataW.trod enc P W base spare held fuel t [v]=some x) (hv:∃ rr b0,Cell.okWide P W rr b0 t v) :
 ∃ l:List u.den,PR (HW W) (.lst u l) v∧(∀ r∈l,Q r)∧((x.1.weights P t).all (·≤reachBytes)=true→l.length * P.bytesOf e≤reachBytes):=by
 obtain ⟨rr,b0,hv⟩:=hv
 rcases Go.Deep.open_slice ht h with ⟨hc,rfl⟩ | ⟨a,len,cap,m,n,D,Pl,hc,_,hl,hm,hmm,rfl,hx⟩
 · simp only [dy,and_true] at hc
   subst hc
   exact ⟨[],.emp u none 0 (fun _=>rfl),by simp,fun _=>by simp⟩
 · simp only [dy,and_true] at hc
   subst hc
   have hs:a.spot=none:=by
    simp only [Cell.okWide,ht,Cell.ok] at hv
    exact hv.2.2.2.1
   have hlen:len≤m:=by rw [hmm]; split <;> omega
   letI:Inhabited u.den:=⟨u.dflt⟩
   obtain ⟨f,hf⟩:=Go.Deep.choose_lt (α:=u.den) (n:=len) (p:=fun i r=>(∃ cs,W.cells? base (a.add (i * u.size)) u.size=some cs∧All2 (PR (HW W)) (u.enc r) cs)∧Q r) (fun i hi=>by
    obtain ⟨cs,h1,h2⟩:=hx i (by omega)
    obtain ⟨r,hr,hq⟩:=hel _ _ _ h2
    rw [hsz] at h1
    exact ⟨r,⟨cs,h1,hr⟩,hq⟩)
   have hfl:((List.range len).map f).length=len:=by simp
   refine ⟨(List.range len).map f,?_,?_,?_⟩
   · rcases Nat.eq_zero_or_pos len with h0 | h0
     · subst h0
       exact .emp u (some a) cap (fun h=>by cases h)
     · have hcell:∀ i,i<len→∀ j,j<u.size→∃ w cells e fr,W.heap[a.block]?=some (.cells cells e fr)∧cells[a.off+i * u.size+j]?=some w∧∀ p,(u.enc (f i))[j]?=some p→PR (HW W) p w:=by
        intro i hi j hj
        obtain ⟨cs,h1,h2⟩:=(hf i hi).1
        obtain ⟨_,hl,hc⟩:=World.cells?_some h1
        have h3:=hc j hj
        obtain ⟨w,hw⟩:∃ w,cs[j]?=some w:=⟨cs[j]'(by omega),List.getElem?_eq_getElem (by omega)⟩
        rw [hw] at h3
        have ha:(a.add (i * u.size)).add j=a.add (i * u.size+j):=by rw [Go.Deep.add_add]
        rw [ha] at h3
        obtain ⟨cells,e',fr,hb,h4⟩:=Aq hs rfl rfl h3
        refine ⟨w,cells,e',fr,hb,by rw [dX]; exact h4,fun p hp=>?_⟩
        obtain ⟨w',h5,h6⟩:=h2.get hp
        rw [hw,aa] at h5
        rw [h5]; exact h6
       obtain ⟨_,cells,e',fr,hb,_⟩:=hcell 0 h0 0 u.size_pos
       have hbound:a.off+len * u.size≤cells.size:=by
        obtain ⟨_,cells',e2,fr2,hb',h4,_⟩:=hcell (len - 1) (by omega) (u.size - 1) (by have:=u.size_pos; omega)
        rw [hb] at hb'
        simp only [aa,Obj.cells.injEq] at hb'
        obtain ⟨rfl,_,_⟩:=hb'
        have h5:=(Array.getElem?_eq_some_iff.1 h4).1
        have h6:len * u.size=(len - 1) * u.size+u.size:=by
         have:len=(len - 1)+1:=by omega
         rw [this,cc,Nat.one_mul]; simp
        have:=u.size_pos
        omega
       have key:PR (HW W) (.lst u ((List.range len).map f)) (.slice (some ⟨a.block,a.off,none⟩) ((List.range len).map f).length cap):=by
        refine .lst u _ a.block a.off cap cells e' fr hb (by rw [hfl]; exact hl) hm (by rw [hfl]; exact hbound) ?_
        intro i y hy j p hp w hw
        have hi:i<len:=by have:=(List.getElem?_eq_some_iff.1 hy).1; omega
        simp only [List.getElem?_map,List.getElem?_range hi,bF,aa] at hy
        subst hy
        have hj:j<u.size:=by have:=(List.getElem?_eq_some_iff.1 hp).1; rw [u.enc_length] at this; exact this
        obtain ⟨w',cells',e2,fr2,hb',h4,h5⟩:=hcell i hi j hj
        rw [hb] at hb'
        simp only [aa,Obj.cells.injEq] at hb'
        obtain ⟨rfl,_,_⟩:=hb'
        rw [hw,aa] at h4
        rw [h4]; exact h5 p hp
       rw [hfl] at key
       obtain ⟨b,off,sp⟩:=a
       simp only at hs
       subst hs
       exact key
   · intro r hr
     obtain ⟨i,hi,rfl⟩:=aT.1 hr
     exact (hf i (bz.1 hi)).2
   · intro hw
     simp only [DataW.weights,ht,da,af,decide_eq_true_eq,aN,dE] at hw ⊢
     have:=hw.1
     exact av (bM _ (by omega)) this
end
section
variable {Hh:Type} {enc:TypeId×Value→Hh} {P:Program} {W W':World}
theorem mZ (hl:laidOutB P=true) (hb:Below W.heap.size W W'):∀ {ts:List TypeId} {vs:List Value} {ds:List (DataW Hh)} {p:List MemPlace},(∀ t∈ts,P.readableRec t=true∧t<P.types.size)→(∀ x∈p,x.block<W.heap.size) →
 DataW.TrodAll enc P W 0 (fun _=>true) true ts vs ds p→DataW.TrodAll enc P W' 0 (fun b=>decide (b<W.heap.size)) true ts vs ds p
 | [],_,_,_,_,_,h=>by
   obtain ⟨rfl,rfl,rfl⟩:=trodAll_nil h
   rfl
 | t::ts,_,_,_,hr,hp,h=>by
   obtain ⟨v,vs,d,ds,a,b,rfl,rfl,rfl,h1,h2⟩:=trodAll_cons h
   exact ⟨a,b,Below.trod hl (hr t ax).1 (hr t ax).2 h1 hb (fun x hx=>hp x (cP _ hx)),
    mZ hl hb (fun u hu=>hr u (aI _ hu)) (fun x hx=>hp x (cJ _ hx)) h2,rfl⟩
theorem IE {f:Func} {s:ChangeSpec} {tb:TypeId} {args:Array Value} {ds gs:List (DataW Hh)} {before:List MemPlace} (hl:laidOutB P=true) (hrt:f.resultTypes.toList=[tb]) (hsz:f.resultTypes.size=1) (htb:P.underlying tb=some .bool) (hvars:s.vars=[])
 (hfn:(s.fn Hh ds).results=[.lit (.bool true)]∧(s.fn Hh ds).args=ds∧(s.fn Hh ds).vars=[]) (hpar:∀ t∈f.params.toList,P.readableRec t=true∧t<P.types.size)
 (hW:DataW.Whole enc P f.params.toList s.vars false W args.toList ds gs before) (hb:Below W.heap.size W W'):s.post enc P f false true false false W args (.bool true) W':=by
 have hW':=hW
 obtain ⟨p,q,hA,hV,rfl,hfz,hnd⟩:=hW
 rw [hvars] at hV
 obtain ⟨rfl,rfl⟩:=trodVars_none hV
 rw [aL] at hW' hfz
 have hlt:∀ x∈p,x.block<W.heap.size:=fun x hx=>by simpa using hW'.lt x hx
 refine ⟨ds,[],p,[],p,[],hW',?_,?_,?_,?_,fun h=>Bool.noConfusion h⟩
 · rw [aL,hfn.1,hrt,hsz]
   exact trodAll_mk1 (shut_bool htb _)
 · rw [aL,hfn.2.1]
   exact mZ hl hb hpar hlt hA
 · rw [aL,hfn.2.2,hvars]
   rfl
 · exact World.keptBut_mono (fun x hx=>⟨hx,.inr (.inl hx)⟩) (hb.frame _)
end
end Go.Ev
namespace Go.Proofs.YtgfifkhbfdacjaaGreatDoor
open Go Go.Ev Go.RowKit Go.ChangeShapes Go.WideShapes Go.ChangeAt
set_option maxRecDepth 100000
theorem own:ownKnob Tryz.prog.godebug=none:=by kernel_rfl
theorem laidOut:laidOutB Tryz.prog=true:=by kernel_rfl
theorem yT {P:Program} {W:World} {name:String} {cs:Array Value} (h:W.var? P name=some cs):sJ P (HW W) name cs:=by
 unfold World.var? at h
 cases hg:P.globalNamed name with
 | none=>rw [hg] at h; simp at h
 | some g =>
   rw [hg] at h
   simp only [Option.bind_some] at h
   split at h
   · rename_i c e fr hb
     simp only [aa] at h
     subst h
     exact ⟨g,e,fr,hg,hb⟩
   · cases h
abbrev tE:ByteArray:=⟨#[118,97,108,117,101,32,111,117,116,32,111,102,32,114,97,110,103,101]⟩
abbrev qC:ByteArray:=⟨#[105,110,118,97,108,105,100,32,115,121,110,116,97,120]⟩
theorem Mn (u:TypeId) (h:Tryz.prog.typeName? 3 u=some "*errors.errorString"):u=287 :=
 typeName_ptr_named (nm:="errors.errorString") (by rw [show ("*"++"errors.errorString":String)="*errors.errorString" by kernel_rfl]; kernel_rfl) (by kernel_rfl) (by decide) u (by rw [show ("*"++"errors.errorString":String)="*errors.errorString" by kernel_rfl]; exact h)
theorem Af {W:World} {n:String} {text:List UInt8} {l:List (String×DataW Unit)} (h:laidMetH Tryz.prog l W) (e:(l.filter fun x=>x.1==n)=[(n,.iface "*errors.errorString" (.ptr (.agg [.lit (.string text)])))]) (ht:(Tryz.prog.globals[(Tryz.prog.globalNamed n).getD 0]?).map (·.type)=some 193) (hg:(Tryz.prog.globalNamed n).isSome=true):Gz Tryz.prog (HW W) n:=fun _=>by
 have h1:=laidMetH.filter (fun x=>x.1==n) h
 rw [e,MakeChecks.laidMetH_plain _ _ _ (by rfl)] at h1
 obtain ⟨g,hg⟩:=Option.isSome_iff_exists.1 hg
 rw [hg] at ht
 obtain ⟨a0,s0,hv0, -, -, -⟩:=laid_sentinel h1 hg ht Tryz.underlying193 Mn Tryz.underlying287 Tryz.underlying289 rfl rfl Tryz.underlying9 (by kernel_rfl) (by kernel_rfl)
 exact ⟨_,_,yT hv0⟩
theorem DL {W:World} (h:W.ShapedOpen Tryz.prog):vG Tryz.prog (HW W) "internal/bytealg.MaxLen":=fun _=>by
 obtain ⟨m,hm⟩:∃ m,W.cell? ⟨0,0,none⟩=some (.int .i64 m):=Go.Proofs.cell_of_shapedOpen_int (zero:=#[.int .i64 0]) (t:=3) h (of_decide_eq_true (by kernel_rfl)) (by kernel_rfl) rfl (by kernel_rfl) (by kernel_rfl) Tryz.underlying3
 unfold World.cell? at hm
 split at hm
 · split at hm
   · cases hm
   · rename_i cs e fr hb _
     exact ⟨0,cs,e,fr,m,by kernel_rfl,hb,hm⟩
 · cases hm
theorem ME {W:World} (h:laidMetH Tryz.prog Rows.movesRightRow.laid W) (hs:W.ShapedOpen Tryz.prog):fG Tryz.prog (HW W):=by
 refine ⟨fun _=>?_,Af (text:=qC.data.toList) h (by kernel_rfl) (by kernel_rfl) (by kernel_rfl),Af (text:=tE.data.toList) h (by kernel_rfl) (by kernel_rfl) (by kernel_rfl),DL hs⟩
 have h1:=laidMetH.filter (fun x=>x.1=="internal/strconv.uint64pow10") h
 have e:(Rows.movesRightRow.laid.filter fun x=>x.1=="internal/strconv.uint64pow10")=[("internal/strconv.uint64pow10",Lib.tabData .u64 Lib.pow10Tab)]:=by kernel_rfl
 rw [e] at h1
 have ht:(Tryz.prog.globals[(Tryz.prog.globalNamed "internal/strconv.uint64pow10").getD 0]?).map (·.type)=some 291:=by kernel_rfl
 exact yT (Lib.tabIs_of_head (rest:=[]) (g:=(Tryz.prog.globalNamed "internal/strconv.uint64pow10").getD 0) (by kernel_rfl) ht Tryz.underlying291 Tryz.underlying224 (by kernel_rfl) (by kernel_rfl) h1)
noncomputable def K3:DataW Unit→List Value
 | .lit (.int k z)=>[Value.int k z]
 | .agg [.lit (.int k z),.lit (.int k' z')]=>[Value.int k z,Value.int k' z']
 | _=>[]
noncomputable def G8:DataW Unit→Array Value
 | .agg ds=>(ds.flatMap K3).toArray
 | _=>#[]
noncomputable def qa (name:String) (cs:Array Value) (heap:Array Obj):Array Obj:=heap.modify ((Tryz.prog.globalNamed name).getD 0) fun
 | .cells _ t frozen=>.cells cs t frozen
 | o=>o
noncomputable def nr (name:String) (d:DataW Unit) (heap:Array Obj):Array Obj:=qa name (G8 d) heap
noncomputable def low:Nat:=(World.holding Tryz.prog default ⟨#[],#[],[]⟩).heap.size
noncomputable def Fz (os:Os):World:=World.holding Tryz.prog os ⟨#[.cells #[.string tE] 289,.cells #[.string qC] 289],#[],[]⟩
noncomputable def ni (os:Os):World :=
 { Fz os with heap:=qa "strconv.ErrRange" #[.iface 287 (.pointer (some ⟨low,0,none⟩))] (qa "strconv.ErrSyntax" #[.iface 287 (.pointer (some ⟨low+1,0,none⟩))] (nr "unicode/utf8.first" Rows.laid_unicode_utf8_first (nr "unicode/utf8.acceptRanges" Rows.laid_unicode_utf8_acceptRanges (nr "internal/strconv.uint64pow10" Rows.laid_internal_strconv_uint64pow10 (nr "math/bits.deBruijn64tab" Rows.laid_math_bits_deBruijn64tab (nr "math/bits.deBruijn32tab" Rows.laid_math_bits_deBruijn32tab (Fz os).heap)))))) }
end Go.Proofs.YtgfifkhbfdacjaaGreatDoor
