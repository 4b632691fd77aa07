/- Contracts: conf.legal. Conditions: sizes. -/
import Derived.Test.YtcopfgbbjdefbaaGreatDoorCd
import Derived.Test.YtcopfgbbjdefbaaGreatDoorVk
namespace Go.Proofs.YtcopfgbbjdefbaaGreatDoor
open Go Go.Ev
set_option maxRecDepth 100000
abbrev zJ34Cl:=J Tryz.prog 34 (aw Tryz.f34)
def k9:Cfg:=⟨bk,[mu,lE,my]⟩
theorem jt:ah Tryz.prog k9.tab:=(ah.cons rX (ah.cons pz (ah.cons su ah.nil)))
structure FlagOk (a:List Bool) (s:List Int) (n:Nat):Prop where
 len:a.length=n
 get:∀ j,j<n→ETy.get .bool a j=inB s (j:Int)
theorem Bt (n:Nat):FlagOk (List.replicate n false) [] n:=by
 refine ⟨cX,fun j hj=>?_⟩
 rw [ETy.get_eq (t:=.bool) (x:=false) (by rw [List.getElem?_replicate,if_pos hj])]; rfl
theorem Eu {a:List Bool} {s:List Int} {n:Nat} (h:FlagOk a s n) {x:Nat} (hx:x<n):FlagOk (a.set x true) (s++[(x:Int)]) n:=by
 refine ⟨by rw [bo]; exact h.len,fun j hj=>?_⟩
 have e:inB (s++[(x:Int)]) (j:Int)=(inB s (j:Int)||(x:Int)==(j:Int)):=by unfold inB; rw [dX]; simp
 rw [e,← h.get j hj]
 by_cases hxj:x=j
 · subst hxj
   rw [ETy.get_eq (t:=.bool) (x:=true) (by rw [List.getElem?_set_self (by rw [h.len]; exact hx)])]; simp
 · have h1:((x:Int)==(j:Int))=false:=by
    have:¬(x:Int)=(j:Int):=by omega
    simpa using this
   rw [h1,bQ]
   have h2:j<a.length:=by rw [h.len]; exact hj
   rw [ETy.get_eq (t:=.bool) (x:=a[j]) (by rw [List.getElem?_set_ne hxj,List.getElem?_eq_getElem h2]),ETy.get_eq (t:=.bool) (List.getElem?_eq_getElem h2)]
variable (c:Chart) (s:List Int) {x:Int} (ks:List Int) {n:Nat}
theorem DP {ks:List Int} {j:Nat} (hj:j<ks.length):eN s (ks.take (j+1))=eN s (ks.take j)+(if inB s (ETy.get .int ks j)=true then 1 else 0):=by
 unfold eN
 rw [ETy.get_eq (t:=.int) (List.getElem?_eq_getElem hj),aR hj,bU,an]
 cases h:inB s ks[j] <;> simp [h]
theorem I4:eN s ks≤ks.length:=bn _ _
abbrev zCl1 (a:Chart):Chunk:=.cells [.pd (.str a.name),.pd (.lst .str a.events),.pd (.lst .var a.vars),.pd (.lst .stat a.states),.pd (.lst .tran a.trans)] 27
abbrev zCl2:List PI:=[.code [1,1,1,1,0,1,0,0],.inLoop [1,1,1,1,0,1,0,0],.inBlock 2,.code [1,1,1,1,1]]
theorem Ez (v:Ev.Stat) (ks:List Int) (a:List Bool) (k:Nat) (hf:FlagOk a s c.states.length) (hks:∀ y∈ks,0≤y∧y<(c.states.length:Int)) (hl:ks.length≤1000) (Γ:Ctx) (res:Bool)
 (hcont:(v.kind==2&&(eN s ks:Int) != 1||v.kind==3&&(eN s ks:Int) != (ks.length:Int))=false→zJ34Cl Γ (Eq2 (.x (.b res)) []) zCl2 ({ n:=138,fr:=[(2,.x (.c (.loc 0 0))),(4,.p (.bool false)),(5,.x (.c (.own 1))),(49,.p (.lst .stat c.states)),(50,.i c.states.length),(51,.i ((IntKind.wrap .i64 ((k:Int)+1))))],ck:=[zCl1 c,.own 4 .bool a],kn:=[4] }))
 (hstop:(v.kind==2&&(eN s ks:Int) != 1||v.kind==3&&(eN s ks:Int) != (ks.length:Int))=true→res=false):∀ (n j:Nat),ks.length - j≤n→j≤ks.length →
 zJ34Cl Γ (Eq2 (.x (.b res)) []) [.code [1,1,1,1,0,1,0,0,1,1,0,0,1,1,1,1,0,1,0,0],.inLoop [1,1,1,1,0,1,0,0,1,1,0,0,1,1,1,1,0,1,0,0],.inBlock 4,.code [1,1,1,1,0,1,0,0,1,1,0,0,1,1,1,1,1],.inBlock 3,.code [1,1,1,1,0,1,0,0,1,1,1],.inLoop [1,1,1,1,0,1,0,0],.inBlock 2,.code [1,1,1,1,1]] ({ n:=138,fr:=[(2,.x (.c (.loc 0 0))),(4,.p (.bool false)),(5,.x (.c (.own 1))),(49,.p (.lst .stat c.states)),(50,.i c.states.length),(51,.i k),(10,.x (.c (.loc 2 0))),(11,.i ((eN s (ks.take j):Int))),(12,.x (.c (.own 3))),(106,.x (.c (.own 3))),(107,.i ((ks.length:Int))),(108,.i ((j:Int)))],ck:=[zCl1 c,.own 4 .bool a,.cells [.pd (.str v.name),SC.i v.kind,SC.i v.depth,.pd (.str v.initial),.pd (.lst .deed v.entry),.pd (.lst .deed v.leave)] 42,.own 3 .int ks],kn:=[4] }):=by
 have hm:ks.length≤maxLen:=by unfold maxLen; omega
 intro n
 induction n with
 | zero=>?_
 | succ n ih=>?_
 all_goals
  intro j hn hj
  generalize hac:(eN s (ks.take j):Int)=m
  refine jg jt Tryz.func34 (let x3:List Nat:=[1,1,1,1,0,1,0,0,1,1,0,0,1,1,1,1,0,1,0,0]; let x7:List Nat:=[1,1,1,1,0,1,0,0]; let x1:List PI:=[.code x3,.inLoop x3,.inBlock 4,.code [1,1,1,1,0,1,0,0,1,1,0,0,1,1,1,1,1],.inBlock 3,.code [1,1,1,1,0,1,0,0,1,1,1],.inLoop x7,.inBlock 2,.code [1,1,1,1,1]]; let x2:List Chunk:=[zCl1 c,.own 4 .bool a,.cells [.pd (.str v.name),.i v.kind,.i v.depth,.pd (.str v.initial),.pd (.lst .deed v.entry),.pd (.lst .deed v.leave)] 42,.own 3 .int ks]; let x4:Nat×SV:=(49,.p (.lst .stat c.states)); let x5:=(IntKind.wrap .i64 ((j:Int)+1)); let x6:Nat×SV:=(50,.i c.states.length); let x8:Nat×SV:=(2,.x (.c (.loc 0 0))); .ite (decide ((j:Int)<(ks.length:Int))) (.need (inRg j ks.length) (.need (j<ks.length) (.need ((0:Int)≤ETy.get .int ks j∧ETy.get .int ks j<(a.length:Int)) (.need ((ETy.get .int ks j).toNat<a.length) (.ite (ETy.get .bool a ((ETy.get .int ks j).toNat)) (.stop x1 { n:=138,fr:=[x8,(4,.p (.bool false)),(5,.x (.c (.own 1))),x4,x6,(51,.i k),(10,.x (.c (.loc 2 0))),(11,.i (IntKind.wrap .i64 (m+(1:Int)))),(12,.x (.c (.own 3))),(106,.x (.c (.own 3))),(107,.i ks.length),(108,.i x5)],ck:=x2,kn:=[4] }) (.stop x1 { n:=138,fr:=[x8,(4,.p (.bool false)),(5,.x (.c (.own 1))),x4,x6,(51,.i k),(10,.x (.c (.loc 2 0))),(11,.i m),(12,.x (.c (.own 3))),(106,.x (.c (.own 3))),(107,.i ks.length),(108,.i x5)],ck:=x2,kn:=[4] })))))) (.ite (v.kind==(2:Int)&&m != (1:Int)||v.kind==(3:Int)&&m != (ks.length:Int)) (.ret (.p (.bool false)) []) (.stop [.code x7,.inLoop x7,.inBlock 2,.code [1,1,1,1,1]] { n:=138,fr:=[x8,(4,.p (.bool false)),(5,.x (.c (.own 1))),x4,x6,(51,.i (IntKind.wrap .i64 ((k:Int)+1)))],ck:=[zCl1 c,.own 4 .bool a],kn:=[4] }))) ?_
  conv=>zeta
  refine ⟨fun hlt=>?_,fun hge=>?_⟩
  · have hj':j<ks.length:=by have:=of_decide_eq_true hlt; omega
    have hy:=hks (ETy.get .int ks j) (by rw [ETy.get_eq (t:=.int) (List.getElem?_eq_getElem hj')]; exact bE hj')
    have hs:=DP s hj'
    have hle:=I4 s (ks.take j)
    rw [a7] at hle
    have hg:=hf.get (ETy.get .int ks j).toNat (by omega)
    rw [dR hy.1] at hg
    have key:∀ y:Int,0≤y→y<(c.states.length:Int)→(0≤y∧y<(a.length:Int))∧y.toNat<a.length:=by
     intro y h1 h2
     have hfl:=hf.len
     omega
    have hk2:=key _ hy.1 hy.2
    refine ⟨⟨by omega,by omega⟩,hj',hk2.1,hk2.2,fun hb=>?_,fun hb=>?_⟩
    · rw [if_pos (by rw [← hg]; exact hb)] at hs
      have hw:IntKind.wrap .i64 (m+1)=(eN s (ks.take (j+1)):Int):=by rw [cr (by omega) (by omega)]; omega
      rw [hw,aZ (aE hj' hm)]
      first
      | (exfalso; omega)
      | exact ih (j+1) (by omega) (by omega)
    · rw [if_neg (by rw [← hg]; exact fun e=>by rw [show _=false from hb] at e; cases e)] at hs
      have hw:m=(eN s (ks.take (j+1)):Int):=by omega
      rw [hw,aZ (aE hj' hm)]
      first
      | (exfalso; omega)
      | exact ih (j+1) (by omega) (by omega)
  · have hje:j=ks.length:=by have:=of_decide_eq_false hge; omega
    subst hje
    rw [aW (ar _)] at hac
    subst hac
    refine ⟨fun hb=>?_,fun hb=>hcont hb⟩
    rw [hstop hb]; exact ⟨rfl,rfl⟩
theorem FI (t:Tre c.states) (s:List Int) (a:List Bool) (hf:FlagOk a s c.states.length) (Γ:Ctx):∀ (n i:Nat),c.states.length - i=n→i≤c.states.length →
 zJ34Cl Γ (Eq2 (.x (.b (mw c.states s n i))) []) zCl2 ({ n:=138,fr:=[(2,.x (.c (.loc 0 0))),(4,.p (.bool false)),(5,.x (.c (.own 1))),(49,.p (.lst .stat c.states)),(50,.i c.states.length),(51,.i ((i:Int)))],ck:=[zCl1 c,.own 4 .bool a],kn:=[4] }):=by
 have hfew:=t.shp.few
 have hm:c.states.length≤maxLen:=by unfold maxLen; omega
 have hfl:=hf.len
 have no:∀ {b:Bool},b=false→¬b=true:=fun h e=>by rw [h] at e; cases e
 intro n
 induction n with
 | zero=>?_
 | succ n ih=>?_
 all_goals
  intro i hn hi
  refine jg jt Tryz.func34 (let x1:=(ETy.get .stat c.states i); let x2:=(Stat.depth x1==(0:Int) && !ETy.get .bool a i); let x3:=(Stat.depth x1>(0:Int)); let x4:=(decide x3&&ETy.get .bool a i); let x5:List Nat:=[1,1,1,1,0,1,0,0,1,1,0,0,1,1,1,1,0,1,0,0]; let x6:List Nat:=[1,1,1,1,0,1,0,0]; .ite (decide ((i:Int)<(c.states.length:Int))) (.need (inRg i c.states.length) (.need ((Stat.depth x1==(0:Int))=true→(0:Int)≤(i:Int)∧(i:Int)<(a.length:Int)) (.need ((Stat.depth x1==(0:Int))=true→i<a.length) (.need (x2=false∧decide x3=true→(0:Int)≤(i:Int)∧(i:Int)<(a.length:Int)) (.need (x2=false∧decide x3=true→i<a.length) (.need (x2=false∧x4=true→c.states.length≤maxLen) (.need (x2=false∧x4=true→(0:Int)≤cH c.states (i:Int)∧cH c.states (i:Int)<(a.length:Int)) (.need (x2=false∧x4=true→(cH c.states (i:Int)).toNat<a.length) (.ite (Stat.depth x1==(0:Int) && !ETy.get .bool a i||decide x3&&ETy.get .bool a i && !ETy.get .bool a ((cH c.states (i:Int)).toNat)) (.ret (.p (.bool false)) []) (.need (inRg i a.length) (.need (i<a.length) (.ite (!ETy.get .bool a i||Stat.kind x1 != (2:Int)&&Stat.kind x1 != (3:Int)) (.stop [.code x6,.inLoop x6,.inBlock 2,.code [1,1,1,1,1]] { n:=138,fr:=[(2,.x (.c (.loc 0 0))),(4,.p (.bool false)),(5,.x (.c (.own 1))),(49,.p (.lst .stat c.states)),(50,.i c.states.length),(51,.i (IntKind.wrap .i64 ((i:Int)+1)))],ck:=[zCl1 c,.own 4 .bool a],kn:=[4] }) (.need (b9 c.states (i:Int)=true) (.stop [.code x5,.inLoop x5,.inBlock 4,.code [1,1,1,1,0,1,0,0,1,1,0,0,1,1,1,1,1],.inBlock 3,.code [1,1,1,1,0,1,0,0,1,1,1],.inLoop x6,.inBlock 2,.code [1,1,1,1,1]] { n:=138,fr:=[(2,.x (.c (.loc 0 0))),(4,.p (.bool false)),(5,.x (.c (.own 1))),(49,.p (.lst .stat c.states)),(50,.i c.states.length),(51,.i i),(10,.x (.c (.loc 2 0))),(11,.i 0),(12,.x (.c (.own 3))),(106,.x (.c (.own 3))),(107,.i (↑((br c.states i).length):Int)),(108,.i 0)],ck:=[zCl1 c,.own 4 .bool a,.cells [.pd (.str (Stat.name x1)),.i (Stat.kind x1),.i (Stat.depth x1),.pd (.str (Stat.initial x1)),.pd (.lst .deed (Stat.entry x1)),.pd (.lst .deed (Stat.leave x1))] 42,.own 3 .int (br c.states i)],kn:=[4] })))))))))))))) (.ret (.p (.bool true)) [])) ?_
  conv=>zeta
  refine ⟨fun hlt=>?_,fun hge=>?_⟩
 · have:=of_decide_eq_true hlt; omega
 · exact ⟨rfl,rfl⟩
 · have hi':i<c.states.length:=by omega
   have hn2:c.states.length - (i+1)=n:=by omega
   have hi2:i+1≤c.states.length:=by omega
   have hkn:=kG c.states i
   have hkm:(br c.states i).length≤1000:=by omega
   have hgi:=hf.get i hi'
   have hpar:cH c.states (i:Int)=upM c.states i:=by rw [jI t.right hi',gJ t.shp hi']
   have hup:(ETy.get .stat c.states i).depth>0→∃ p:Nat,upM c.states i=(p:Int)∧p<i:=fun h=>De t.shp h
   have hpn:∀ {b:Bool},b=false∧(decide ((ETy.get .stat c.states i).depth>0)&&ETy.get .bool a i)=true→0≤cH c.states (i:Int)∧cH c.states (i:Int)<(c.states.length:Int):=fun h=>by
    have h1:=h.2
    rw [af] at h1
    obtain ⟨p,e,hp⟩:=hup (of_decide_eq_true h1.1)
    rw [hpar,e]; omega
   have hG:((ETy.get .stat c.states i).depth==0 && !ETy.get .bool a i||decide ((ETy.get .stat c.states i).depth>0)&&ETy.get .bool a i && !ETy.get .bool a (cH c.states (i:Int)).toNat)=((ETy.get .stat c.states i).depth==0 && !inB s i||decide ((ETy.get .stat c.states i).depth>0)&&inB s i && !inB s (upM c.states i)):=by
    rw [hgi,hpar]
    by_cases hd:(ETy.get .stat c.states i).depth>0
    · obtain ⟨p,e,hp⟩:=hup hd
      rw [e,aj,hf.get p (by omega)]
    · rw [decide_eq_false hd]; simp only [bj]
   rw [mw]
   refine ⟨⟨by omega,by omega⟩,fun _=>⟨by omega,by omega⟩,fun _=>by omega,fun _=>⟨by omega,by omega⟩,fun _=>by omega,fun _=>hm,fun h=>by have:=hpn h; omega,fun h=>by have:=hpn h; omega,fun hg=>?_,fun hg=>⟨⟨by omega,by omega⟩,by omega,fun hh=>?_,fun hh=>⟨gT t.right hi',?_⟩⟩⟩
   · have hg':=hG.symm.trans hg
     have e1:jF c.states s i=false:=by unfold jF; rw [if_pos hg']
     rw [e1,bj]; exact ⟨rfl,rfl⟩
   · have hg':=hG.symm.trans hg
     have hh':(!inB s i||(ETy.get .stat c.states i).kind != 2&&(ETy.get .stat c.states i).kind != 3)=true:=by rw [← hgi]; exact hh
     have e1:jF c.states s i=true:=by unfold jF; rw [if_neg (no hg'),if_pos hh']
     rw [e1,aV,aZ (aE hi' hm)]
     exact ih (i+1) hn2 hi2
   · have hg':=hG.symm.trans hg
     have hh':(!inB s i||(ETy.get .stat c.states i).kind != 2&&(ETy.get .stat c.states i).kind != 3)=false:=by rw [← hgi]; exact hh
     have e1:jF c.states s i = !((ETy.get .stat c.states i).kind==2&&(eN s (br c.states i):Int) != 1||(ETy.get .stat c.states i).kind==3&&(eN s (br c.states i):Int) != ((br c.states i).length:Int)):=by unfold jF; rw [if_neg (no hg'),if_neg (no hh')]
     refine Ez c s (ETy.get .stat c.states i) (br c.states i) a i hf (fun y hy=>?_) hkm Γ _ (fun hb=>?_) (fun hb=>?_) _ 0 (ar _) (aP _)
     · obtain ⟨q,rfl,e2,_⟩:=dS t hi' hy
       omega
     · rw [e1,hb,cn,aV,aZ (aE hi' hm)]
       exact ih (i+1) hn2 hi2
     · rw [e1,hb]; rfl
 · have:=of_decide_eq_false hge; omega
theorem EP {la x n:Int} {b:Bool} (hla : -1≤la) (h:(decide (x≤la)||decide (x≥n)||b)=false):0≤x∧x<n:=by
 rw [ay,ay] at h
 have:=of_decide_eq_false h.1.1
 have:=of_decide_eq_false h.1.2
 omega
theorem hU (h:0≤x∧x<(n:Int)):x.toNat<n:=by omega
abbrev zCl3:List PI:=[.code [1,1,1,0,1,0,0],.inLoop [1,1,1,0,1,0,0],.inBlock 0,.code [1,1,1,1]]
theorem D6 (t:Tre c.states) (s:List Int) (hsl:s.length≤maxLen) (Γ:Ctx):∀ (n k:Nat) (la:Int) (a:List Bool),s.length - k≤n→k≤s.length→-1≤la→FlagOk a (s.take k) c.states.length →
 zJ34Cl Γ (Eq2 (.x (.b (mQ c.states la (s.drop k)&&mw c.states s c.states.length 0))) []) zCl3 ({ n:=138,fr:=[(2,.x (.c (.loc 0 0))),(4,.p (.bool false)),(5,.x (.c (.own 1))),(6,.i la),(19,.p (.lst .int s)),(20,.i s.length),(21,.i ((k:Int)))],ck:=[zCl1 c,.own 4 .bool a],kn:=[4] }):=by
 have no:∀ {b:Bool},b=false→¬b=true:=fun h e=>by rw [h] at e; cases e
 intro n
 induction n with
 | zero=>?_
 | succ n ih=>?_
 all_goals
  intro k la a hn hk hla hf
  have hfl:=hf.len
  refine jg jt Tryz.func34 (.ite (decide ((k:Int)<(s.length:Int))) (.need (inRg k s.length) (.need ((decide (ETy.get .int s k≤la)||decide (ETy.get .int s k≥(a.length:Int)))=false→(0:Int)≤ETy.get .int s k∧ETy.get .int s k<(c.states.length:Int)) (.ite (decide (ETy.get .int s k≤la)||decide (ETy.get .int s k≥(a.length:Int))||aY (Stat.kind (ETy.get .stat c.states ((ETy.get .int s k).toNat)))) (.ret (.p (.bool false)) []) (.need ((0:Int)≤ETy.get .int s k∧ETy.get .int s k<(a.length:Int)) (.need ((ETy.get .int s k).toNat<a.length) (.stop zCl3 { n:=138,fr:=[(2,.x (.c (.loc 0 0))),(4,.p (.bool false)),(5,.x (.c (.own 1))),(6,.i (ETy.get .int s k)),(19,.p (.lst .int s)),(20,.i s.length),(21,.i (IntKind.wrap .i64 ((k:Int)+1)))],ck:=[zCl1 c,.own 4 .bool (List.set a ((ETy.get .int s k).toNat) true)],kn:=[4] })))))) (.stop zCl2 { n:=138,fr:=[(2,.x (.c (.loc 0 0))),(4,.p (.bool false)),(5,.x (.c (.own 1))),(49,.p (.lst .stat c.states)),(50,.i c.states.length),(51,.i 0)],ck:=[zCl1 c,.own 4 .bool a],kn:=[4] })) ?_
  refine ⟨fun hlt=>?_,fun hge=>?_⟩
  · have hk':k<s.length:=by have:=of_decide_eq_true hlt; omega
    have ht:s.take (k+1)=s.take k++[ETy.get .int s k]:=by
     rw [ETy.get_eq (t:=.int) (List.getElem?_eq_getElem hk')]; exact aR hk'
    rw [bL (t:=.int) (l:=s) hk',mQ]
    generalize ETy.get .int s k=x at ht
    rw [hfl]
    have hz:∀ {b:Bool},(decide (x≤la)||decide (x≥(c.states.length:Int))||b)=false→0≤x∧x<(c.states.length:Int):=fun h=>EP hla h
    refine ⟨⟨by omega,by omega⟩,fun h=>hz (b:=false) (by rw [bQ]; exact h),fun hg=>?_,fun hg=>⟨hz hg,hU (hz hg),?_⟩⟩
    · rw [if_pos hg,bj]; exact ⟨rfl,rfl⟩
    · have hx:=hz hg
      rw [if_neg (no hg),aZ (aE hk' hsl)]
      obtain ⟨q,rfl⟩:=aF hx.1
      rw [aj]
      first
      | (exfalso; omega)
      | exact ih (k+1) _ _ (by omega) (by omega) (by omega) (by rw [ht]; exact Eu hf (Int.ofNat_lt.1 hx.2))
  · have hke:k=s.length:=by have:=of_decide_eq_false hge; omega
    subst hke
    rw [aW (ar _)] at hf
    rw [List.drop_of_length_le (ar _),mQ,aV]
    exact FI c t s a hf Γ c.states.length 0 (by omega) (by omega)
theorem vZ (t:Tre c.states):ag Tryz.prog 34 [.e .chart c,.l .int s] [] (.x (.b (cW c.states s))) []:=by
 have hfew:=t.shp.few
 refine dg jt Tryz.func34 (.stop [.ops [1,0] 3,.code [1,1]] { n:=138,fr:=[(1,.p (.lst .int s)),(2,.x (.c (.loc 0 0))),(4,.p (.bool false)),(17,.i c.states.length)],ck:=[zCl1 c],kn:=[4] }) fun Γ=>?_
 refine J.make (d:=18) (e:=4) (by1:=1) .bool false c.states.length (by kernel_rfl) rfl rfl (fun H=>.cons (.bool false) .nil) rfl rfl ⟨by omega,by unfold maxLen; omega⟩ ?_
 have rest:∀ a:List Bool,a=List.replicate c.states.length false→zJ34Cl Γ (Eq2 (.x (.b (cW c.states s))) []) [.ops [1,0] 4,.code [1,1]] ({ n:=138,fr:=[(1,.p (.lst .int s)),(2,.x (.c (.loc 0 0))),(4,.p (.bool false)),(17,.i c.states.length),(18,.x (.c (.own 1)))],ck:=[zCl1 c,.own 4 .bool a],kn:=[4] }):=fun a ha=>by
  refine jg jt Tryz.func34 (.stop zCl3 { n:=138,fr:=[(2,.x (.c (.loc 0 0))),(4,.p (.bool false)),(5,.x (.c (.own 1))),(6,.i (-1:Int)),(19,.p (.lst .int s)),(20,.i s.length),(21,.i 0)],ck:=[zCl1 c,.own 4 .bool a],kn:=[4] }) ?_
  refine J.len 19 rfl fun hl=>?_
  exact D6 c t s hl Γ s.length 0 (-1) a (by omega) (by omega) (by omega) (by rw [ha]; exact Bt _)
 exact rest _ rfl
def oj:Ent:=(34,fun
 | [.agg [.pd (.str a),.pd (.lst .str b),.pd (.lst .var c),.pd (.lst .stat d),.pd (.lst .tran e)],.c (.pd (.lst .int s))],[]=>some (some (Tre d),.x (.c (.pd (.bool (cW d s)))),[])
 | _,_=>none)
theorem yc:EntOk Tryz.prog oj:=entOk fun vs ck=>by
 unfold oj; dsimp only; split
 · rename_i a b c d e s; exact entS fun hp=>vZ ⟨a,b,c,d,e⟩ s hp
 · exact entN
end Go.Proofs.YtcopfgbbjdefbaaGreatDoor
