/- An executor for function bodies of the model over data, part VJ: calls whose truths are all written out, run to their end, with functions looked up in maps and guards that are literal. Conditions: those that the run tells. Contracts: what reads the layer's example. Conditions: none. Contracts: chart.Parse on the layer's example. Conditions: none. -/
import Derived.Test.YtgfifkhbfdacjaaGreatDoorVe
import Derived.Test.YtgfifkhbfdacjaaGreatDoorKb
import Derived.Test.YtgfifkhbfdacjaaGreatDoorFb
import Derived.Test.YtgfifkhbfdacjaaGreatDoorXb
import Derived.Test.YtgfifkhbfdacjaaGreatDoorTq
namespace Go.Ev
open Go.RowKit
def yO (tys:Tys) (fz:Nat) (st:ST):Option ST :=
 match lookup st.fr fz with
 | some (.x (.c (.own n)))=>r6 tys st [n]
 | _=>some st
def oI (P:Program) (cfg:Cfg) (root:Code) (fz:Nat) (p:List Nat) (i:Nat) (st:ST):Option (Option Prop×ST) :=
 match (o4 P root p i st).isSome with
 | true=>match yO cfg.tys fz st with
   | some st1=>match o4 P root p i st1 with
     | some (d,m,kx,_)=>match lookup st1.fr m,bx st1 none kx with
       | some (.x (.c (.pd (.tbl l)))),some (.c (.pd (.str s)))=>match fZ l s with
         | some g=>some (none,{ st1 with fr:=bu d (.x (.c (.fn (.func g) [] []))) st1.fr })
         | none=>none
       | _,_=>none
     | none=>none
   | none=>none
 | false => match pK P root p i st with
   | some (d,b)=>some (none,{ st with fr:=bu d (.x (.b b)) st.fr })
   | none=>match nJ P root p i st with
     | some (d,b)=>some (none,{ st with fr:=bu d (.x (.b b)) st.fr })
     | none=>match Cf P cfg root p i st with
       | some r=>some r
       | none=>match oc root p 1 i st with
         | some st'=>some (none,st')
         | none=>none
def runD (P:Program) (cfg:Cfg) (fn:Func) (root:Code) (fz:Nat):Nat→List PI→ST→List Prop→Option (List Prop×SV×List Chunk)
 | 0,_,_,_=>none
 | n + 1,todo,st,a=>match (exec P cfg fn root 1000 todo st).walk a with
   | (a',.ret v ck)=>some (a',v,ck)
   | (a',.stop (.ops p i::k) st')=>match oI P cfg root fz p i st' with
     | some (none,st2)=>runD P cfg fn root fz n (.ops p (i+1)::k) st2 a'
     | some (some q,st2)=>runD P cfg fn root fz n (.ops p (i+1)::k) st2 (q::a')
     | none=>runD P cfg fn root fz n (.ops p i::k) st' a'
   | (a',.stop todo' st')=>runD P cfg fn root fz n todo' st' a'
   | _=>none
section
variable {P:Program} {cfg:Cfg} {Γ:Ctx} {Q:Out} {f:FuncId} {fn:Func} {root:Code}
theorem lh (ht:ag P cfg.tab) {fz:Nat} {p:List Nat} {i:Nat} {k:List PI} {st st':ST} {q:Option Prop} (h:oI P cfg root fz p i st=some (q,st')) (hq:Holds q) (hk:J P f root Γ Q (.ops p (i+1)::k) st'):J P f root Γ Q (.ops p i::k) st:=by
 unfold oI at h
 split at h
 · split at h
   · rename_i st1 hz
     have hj:J P f root Γ Q (.ops p i::k) st1:=by
      split at h
      · rename_i d m kx et hl
        split at h
        · rename_i l s hm hs
          split at h
          · rename_i g hg
            simp only [aa,ae] at h
            obtain ⟨rfl,rfl⟩:=h
            refine J.lookup (zv:=.nilFunc) (z:=.v .nilFunc) hl hm hs rfl (fun hn=>by rw [hg] at hn; cases hn) ?_
            rw [hg]; exact hk
          · cases h
        · cases h
      · cases h
     unfold yO at hz
     split at hz
     · exact J.freeze cfg.tys _ hz hj
     · simp only [aa] at hz
       subst hz; exact hj
   · cases h
 · split at h
   · rename_i d b hf
     simp only [aa,ae] at h
     obtain ⟨rfl,rfl⟩:=h
     exact J.fnNil hf hk
   · split at h
     · rename_i d b hf
       simp only [aa,ae] at h
       obtain ⟨rfl,rfl⟩:=h
       exact J.ptrNil hf hk
     · split at h
       · rename_i r hr
         simp only [aa] at h
         subst h
         exact J.on ht hr hq hk
       · split at h
         · rename_i st2 ho
           simp only [aa,ae] at h
           obtain ⟨rfl,rfl⟩:=h
           exact J.off 1 i ho hk
         · cases h
theorem kR (ht:ag P cfg.tab) (hf:P.funcs[f]?=some fn) {fz:Nat}:∀ (n:Nat) {todo:List PI} {st:ST} {a ps:List Prop} {v:SV} {ck:List Chunk},runD P cfg fn root fz n todo st a=some (ps,v,ck)→cZ ps→Q v ck→J P f root Γ Q todo st∧cZ a
 | 0,_,_,_,_,_,_,h,_,_=>by cases h
 | n + 1,todo,st,a,ps,v,ck,h,hp,hq=>by
   simp only [runD] at h
   have back:∀ {a':List Prop} {todo':List PI} {st':ST},(exec P cfg fn root 1000 todo st).walk a=(a',.stop todo' st')→J P f root Γ Q todo' st'∧cZ a'→J P f root Γ Q todo st∧cZ a:=fun he hj=>by
    obtain ⟨h1,h2⟩:=Tree.walk_J (Q:=Q) (Γ:=Γ) (P:=P) (f:=f) (root:=root) he hj.2 hj.1
    exact ⟨J.go ht hf 1000 rfl h1,h2⟩
   split at h
   · rename_i a' v' ck' he
     simp only [aa,ae] at h
     obtain ⟨rfl,rfl,rfl⟩:=h
     obtain ⟨h1,h2⟩:=Tree.walk_J (Q:=Q) (Γ:=Γ) (P:=P) (f:=f) (root:=root) he hp hq
     exact ⟨J.go ht hf 1000 rfl h1,h2⟩
   · rename_i a' p i k st' he
     refine back he ?_
     split at h
     · rename_i st2 hs
       have h3:=kR ht hf n h hp hq
       exact ⟨lh ht hs trivial h3.1,h3.2⟩
     · rename_i q st2 hs
       have h3:=kR ht hf n h hp hq
       exact ⟨lh ht hs h3.2.1 h3.1,h3.2.2⟩
     · exact kR ht hf n h hp hq
   · rename_i a' todo' st' _ he
     exact back he (kR ht hf n h hp hq)
   · cases h
def runE (P:Program) (cfg:Cfg) (fn:Func) (root:Code) (fz:Nat):Nat→List PI→ST→List Prop→Option (List Prop×List PI×ST)
 | 0,todo,st,a=>some (a,todo,st)
 | n + 1,todo,st,a=>match (exec P cfg fn root 1000 todo st).walk a with
   | (a',.stop (.ops p i::k) st')=>match oI P cfg root fz p i st' with
     | some (none,st2)=>runE P cfg fn root fz n (.ops p (i+1)::k) st2 a'
     | some (some q,st2)=>runE P cfg fn root fz n (.ops p (i+1)::k) st2 (q::a')
     | none=>none
   | (a',.stop todo' st')=>runE P cfg fn root fz n todo' st' a'
   | _=>none
theorem mv (ht:ag P cfg.tab) (hf:P.funcs[f]?=some fn) {fz:Nat}:∀ (n:Nat) {todo todo':List PI} {st st':ST} {a ps:List Prop},runE P cfg fn root fz n todo st a=some (ps,todo',st')→cZ ps→J P f root Γ Q todo' st'→J P f root Γ Q todo st∧cZ a
 | 0,_,_,_,_,_,_,h,hp,hj=>by
   simp only [runE,aa,ae] at h
   obtain ⟨rfl,rfl,rfl⟩:=h; exact ⟨hj,hp⟩
 | n + 1,todo,_,st,_,a,ps,h,hp,hj=>by
   simp only [runE] at h
   have back:∀ {a':List Prop} {todo':List PI} {st':ST},(exec P cfg fn root 1000 todo st).walk a=(a',.stop todo' st')→J P f root Γ Q todo' st'∧cZ a'→J P f root Γ Q todo st∧cZ a:=fun he hj=>by
    obtain ⟨h1,h2⟩:=Tree.walk_J (Q:=Q) (Γ:=Γ) (P:=P) (f:=f) (root:=root) he hj.2 hj.1
    exact ⟨J.go ht hf 1000 rfl h1,h2⟩
   split at h
   · rename_i a' p i k st' he
     refine back he ?_
     split at h
     · rename_i st2 hs
       have h3:=mv ht hf n h hp hj
       exact ⟨lh ht hs trivial h3.1,h3.2⟩
     · rename_i q st2 hs
       have h3:=mv ht hf n h hp hj
       exact ⟨lh ht hs h3.2.1 h3.1,h3.2.2⟩
     · cases h
   · rename_i a' todo' st' _ he
     exact back he (mv ht hf n h hp hj)
   · cases h
theorem J.runE (ht:ag P cfg.tab) (hf:P.funcs[f]?=some fn) (fz n:Nat) {todo todo':List PI} {st st':ST} (ps:List Prop) (h:runE P cfg fn root fz n todo st []=some (ps,todo',st')) (hp:cZ ps) (hj:J P f root Γ Q todo' st'):J P f root Γ Q todo st:=(mv ht hf n h hp hj).1
theorem ah.runD {args:List SX} {ck:List Chunk} {ret:SV} {ck':List Chunk} (ht:ag P cfg.tab) (hf:P.funcs[f]?=some fn) (hb:fn.body.isSome=true) (hn:Nat.ble args.length fn.ntmps=true) (fz n:Nat) (ps:List Prop)
 (he:runD P cfg fn (au fn) fz n [.code []] (fx fn.ntmps args ck) []=some (ps,ret,ck')) (hp:cZ ps):ah P f args ck ret ck' :=
 ah.of hf hb hn fun Γ=>(kR (Q:=Eq2 ret ck') ht hf n he hp ⟨rfl,rfl⟩).1
noncomputable def sS (P:Program) (cfg:Cfg) (fn:Func) (fz n:Nat) (f:FuncId):Ent:=(f,fun vs ck=>bif Nat.ble vs.length fn.ntmps then
 (match runD P cfg fn (au fn) fz n [.code []] (fx fn.ntmps vs ck) [] with
  | some ([],ret,ck')=>some (none,ret,ck')
  | some (p::ps,ret,ck')=>some (some (cZ (p::ps)),ret,ck')
  | none=>none) else none)
theorem B2 {fz n:Nat} (ht:ag P cfg.tab) (hf:P.funcs[f]?=some fn) (hb:fn.body.isSome=true) {vs:List SX} {ck:List Chunk} {p:Option Prop} {ret:SV} {ck':List Chunk} (h:(sS P cfg fn fz n f).2 vs ck=some (p,ret,ck')) (hp:Holds p):ah P f vs ck ret ck':=by
 simp only [sS] at h
 cases hn:Nat.ble vs.length fn.ntmps
 · rw [hn,cond_false] at h; cases h
 · rw [hn,cond_true] at h
   split at h
   · rename_i he
     simp only [aa,ae] at h
     obtain ⟨rfl,rfl,rfl⟩:=h
     exact ah.runD ht hf hb hn fz n _ he trivial
   · rename_i he
     simp only [aa,ae] at h
     obtain ⟨rfl,rfl,rfl⟩:=h
     exact ah.runD ht hf hb hn fz n _ he hp
   · cases h
end
end Go.Ev
namespace Go.Proofs.YtgfifkhbfdacjaaGreatDoor
open Go Go.Ev
set_option maxRecDepth 100000
def exW:Str:=[99,104,97,114,116,32,99,10,101,118,101,110,116,32,103,111,10,111,110,101,32,114,32,97,10,32,98,97,115,105,99,32,97,10,32,32,111,110,32,103,111,32,45,32,104,32,45,10,32,111,110,101,32,98,32,99,10,32,32,98,97,115,105,99,32,99,10,32,32,98,97,115,105,99,32,100,10,32,100,101,101,112,32,104,32,97,10]
noncomputable section
def rHs:Nat×(List SX→List Chunk→Option (Option Prop×SV×List Chunk)):=gd Tryz.prog bK Tryz.f167 30 167
variable (vs:List SX) (ck:List Chunk)
theorem Lu (p:Option Prop) (ret:SV) (ck':List Chunk) (h:rHs.2 vs ck=some (p,ret,ck')) (hp:Holds p):ah Tryz.prog rHs.1 vs ck ret ck':=ff aR Tryz.func167 (by kernel_rfl) h hp
def Ja:Cfg:=⟨aY,[rHs]⟩
theorem Ht:ag Tryz.prog Ja.tab:=(ag.cons Lu ag.nil)
def GZ:Nat×(List SX→List Chunk→Option (Option Prop×SV×List Chunk)):=gd Tryz.prog Ja Tryz.f125 30 125
theorem JU (p:Option Prop) (ret:SV) (ck':List Chunk) (h:GZ.2 vs ck=some (p,ret,ck')) (hp:Holds p):ah Tryz.prog GZ.1 vs ck ret ck':=ff Ht Tryz.func125 (by kernel_rfl) h hp
def IU:Cfg:=⟨aY,[GZ]⟩
theorem Ga:ag Tryz.prog IU.tab:=(ag.cons JU ag.nil)
def rTs:Nat×(List SX→List Chunk→Option (Option Prop×SV×List Chunk)):=gd Tryz.prog IU Tryz.f61 30 61
theorem Mg (p:Option Prop) (ret:SV) (ck':List Chunk) (h:rTs.2 vs ck=some (p,ret,ck')) (hp:Holds p):ah Tryz.prog rTs.1 vs ck ret ck':=ff Ga Tryz.func61 (by kernel_rfl) h hp
def wE:Cfg:=⟨aY,[jq]⟩
theorem tK:ag Tryz.prog wE.tab:=(ag.cons ir ag.nil)
def rHd:Nat×(List SX→List Chunk→Option (Option Prop×SV×List Chunk)):=gd Tryz.prog wE Tryz.f153 30 153
theorem L8 (p:Option Prop) (ret:SV) (ck':List Chunk) (h:rHd.2 vs ck=some (p,ret,ck')) (hp:Holds p):ah Tryz.prog rHd.1 vs ck ret ck':=ff tK Tryz.func153 (by kernel_rfl) h hp
def DD:Cfg:=⟨aY,[rHd]⟩
theorem CZ:ag Tryz.prog DD.tab:=(ag.cons L8 ag.nil)
def GQ:Nat×(List SX→List Chunk→Option (Option Prop×SV×List Chunk)):=gd Tryz.prog DD Tryz.f111 30 111
theorem Kh (p:Option Prop) (ret:SV) (ck':List Chunk) (h:GQ.2 vs ck=some (p,ret,ck')) (hp:Holds p):ah Tryz.prog GQ.1 vs ck ret ck':=ff CZ Tryz.func111 (by kernel_rfl) h hp
def F3:Nat×(List SX→List Chunk→Option (Option Prop×SV×List Chunk)):=gd Tryz.prog wE Tryz.f158 30 158
theorem K5 (p:Option Prop) (ret:SV) (ck':List Chunk) (h:F3.2 vs ck=some (p,ret,ck')) (hp:Holds p):ah Tryz.prog F3.1 vs ck ret ck':=ff tK Tryz.func158 (by kernel_rfl) h hp
def rQ:Cfg:=⟨aY,[F3]⟩
theorem oq:ag Tryz.prog rQ.tab:=(ag.cons K5 ag.nil)
def Hc:Nat×(List SX→List Chunk→Option (Option Prop×SV×List Chunk)):=gd Tryz.prog rQ Tryz.f118 30 118
theorem J3 (p:Option Prop) (ret:SV) (ck':List Chunk) (h:Hc.2 vs ck=some (p,ret,ck')) (hp:Holds p):ah Tryz.prog Hc.1 vs ck ret ck':=ff oq Tryz.func118 (by kernel_rfl) h hp
def Hn:Nat×(List SX→List Chunk→Option (Option Prop×SV×List Chunk)):=gd Tryz.prog rQ Tryz.f115 30 115
theorem Kt (p:Option Prop) (ret:SV) (ck':List Chunk) (h:Hn.2 vs ck=some (p,ret,ck')) (hp:Holds p):ah Tryz.prog Hn.1 vs ck ret ck':=ff oq Tryz.func115 (by kernel_rfl) h hp
def Hl:Nat×(List SX→List Chunk→Option (Option Prop×SV×List Chunk)):=gd Tryz.prog rQ Tryz.f120 30 120
theorem J6 (p:Option Prop) (ret:SV) (ck':List Chunk) (h:Hl.2 vs ck=some (p,ret,ck')) (hp:Holds p):ah Tryz.prog Hl.1 vs ck ret ck':=ff oq Tryz.func120 (by kernel_rfl) h hp
def FH:Nat×(List SX→List Chunk→Option (Option Prop×SV×List Chunk)):=gd Tryz.prog bK Tryz.f159 30 159
theorem Jz (p:Option Prop) (ret:SV) (ck':List Chunk) (h:FH.2 vs ck=some (p,ret,ck')) (hp:Holds p):ah Tryz.prog FH.1 vs ck ret ck':=ff aR Tryz.func159 (by kernel_rfl) h hp
def EB:Cfg:=⟨aY,[FH,oC,jq]⟩
theorem Ff:ag Tryz.prog EB.tab:=(ag.cons Jz (ag.cons tN (ag.cons ir ag.nil)))
def rOn:Nat×(List SX→List Chunk→Option (Option Prop×SV×List Chunk)):=sS Tryz.prog EB Tryz.f123 999 30 123
theorem LW (p:Option Prop) (ret:SV) (ck':List Chunk) (h:rOn.2 vs ck=some (p,ret,ck')) (hp:Holds p):ah Tryz.prog rOn.1 vs ck ret ck':=B2 Ff Tryz.func123 (by kernel_rfl) h hp
def Mh:Cfg:=⟨aY,[q9,rTs,oF,B1,jq,GQ,Hc,Hn,Hl,rOn]⟩
theorem fg:ag Tryz.prog Mh.tab:=(ag.cons CK (ag.cons Mg (ag.cons AI (ag.cons JK (ag.cons ir (ag.cons Kh (ag.cons J3 (ag.cons Kt (ag.cons J6 (ag.cons LW ag.nil))))))))))
end
end Go.Proofs.YtgfifkhbfdacjaaGreatDoor
namespace Go.Proofs.YtgfifkhbfdacjaaGreatDoor
open Go Go.Ev
set_option maxRecDepth 100000
abbrev zJ31Eq:=J Tryz.prog 31 (au Tryz.f31)
abbrev wkN:SC:=.pd (.v (.slice none 0 0))
variable {Γ:Ctx} (i:Int) {Q:Out} (n:Nat)
def frW:List (Nat×SV):=[(2,.x (.c (.loc 0 0))),(3,.i 0),(4,.i 0),(5,.x (.c (.loc 1 0))),(6,.p (.tbl lU)),(23,.x (.c (.own 2))),(24,.i 9),(25,.i i)]
def ckW (a b c d:SC) (n:Int) (r:List Chunk):List Chunk:=.cells [.pd (.str []),wkN,wkN,wkN,wkN] 27 :: .cells [.pd (.str [99]),a,b,c,d,.pd (.i n)] 88 :: .own 9 .str [[99,104,97,114,116,32,99],[101,118,101,110,116,32,103,111],[111,110,101,32,114,32,97],[32,98,97,115,105,99,32,97],[32,32,111,110,32,103,111,32,45,32,104,32,45],[32,111,110,101,32,98,32,99],[32,32,98,97,115,105,99,32,99],[32,32,98,97,115,105,99,32,100],[32,100,101,101,112,32,104,32,97]]::r
def stW (ck:List Chunk):ST:={ n:=101,fr:=frW i,ck:=ck }
def sR:Ev.Stat:=⟨[114],2,0,[97],[],[]⟩
def sA:Ev.Stat:=⟨[97],1,1,[],[],[]⟩
def sB:Ev.Stat:=⟨[98],2,1,[99],[],[]⟩
def sC:Ev.Stat:=⟨[99],1,2,[],[],[]⟩
def sD:Ev.Stat:=⟨[100],1,2,[],[],[]⟩
def sH:Ev.Stat:=⟨[104],6,1,[97],[],[]⟩
def tG:Tran:=⟨1,[103,111],[],[104],[]⟩
def evW:Chunk:=.own 9 .str [[103,111]]
def oA (l:List Ev.Stat):Chunk:=.own 56 .stat l
def trW:Chunk:=.own 51 .tran [tG]
def ck1:List Chunk:=ckW wkN wkN wkN wkN 0 []
def ck2:List Chunk:=ckW (.own 3) wkN wkN wkN 0 [evW]
def ck3:List Chunk:=ckW (.own 3) wkN (.own 4) wkN 0 [evW,oA [sR]]
def ck4:List Chunk:=ckW (.own 3) wkN (.own 4) wkN 1 [evW,oA [sR,sA]]
def ck5:List Chunk:=ckW (.own 3) wkN (.own 4) (.own 5) 2 [evW,oA [sR,sA],trW]
def ck6:List Chunk:=ckW (.own 3) wkN (.own 5) (.own 4) 1 [evW,trW,oA [sR,sA,sB]]
def ck7:List Chunk:=ckW (.own 3) wkN (.own 5) (.own 4) 2 [evW,trW,oA [sR,sA,sB,sC]]
def ck8:List Chunk:=ckW (.own 3) wkN (.own 5) (.own 4) 2 [evW,trW,oA [sR,sA,sB,sC,sD]]
def ck9:List Chunk:=ckW (.own 3) wkN (.own 5) (.own 4) 1 [evW,trW,oA [sR,sA,sB,sC,sD,sH]]
abbrev wkI:Prop:=0≤i∧i<n
abbrev wkJ:Prop:=0≤i∧i≤n
abbrev wkB (m:Nat):Prop:=n<m
abbrev wkL:Prop:=n≤2097152∧true=true
def tdW:List PI:=[PI.code [1,1,1,1,0,1,0,0],PI.inLoop [1,1,1,1,0,1,0,0],PI.inBlock 0,PI.code [1,1,1,1,1]]
theorem wl0 (h:zJ31Eq Γ Q tdW (stW 1 ck1)):zJ31Eq Γ Q [.code []] (fx (Tryz.f31).ntmps [.s exW] []):=by
 refine J.runE (fn:=Tryz.f31) fg Tryz.func31 10 2 [wkB 1 2,wkI 1 2,true=true→wkB 1 2,true=true→wkI 1 2,true=true→wkB 0 2,true=true→wkI 0 2,wkL 7,wkB 0 9,wkI 0 9,wkB 86 4294967281,cZ [cZ [wkJ 86 87,cZ [true=true→wkJ 86 87]]]] (by kernel_rfl) ?_ h
 repeat' first | exact trivial | decide | constructor | intro _
theorem wl1 (h:zJ31Eq Γ Q tdW (stW 2 ck2)):zJ31Eq Γ Q tdW (stW 1 ck1):=by
 refine J.runE (fn:=Tryz.f31) fg Tryz.func31 10 4 [cZ [room 1 16,wkI 0 1,cZ [true=true→wkI 0 1]],true=true→wkJ 1 2,wkB 0 2,wkI 0 2,wkL 8,wkB 1 9,wkI 1 9] (by kernel_rfl) ?_ h
 repeat' first | exact trivial | decide | constructor | intro _
theorem wl2 (h:zJ31Eq Γ Q tdW (stW 3 ck3)):zJ31Eq Γ Q tdW (stW 2 ck2):=by
 refine J.runE (fn:=Tryz.f31) fg Tryz.func31 10 4 [cZ [cZ [room 1 96,wkI 1 2,wkI 0 2,false=false→wkI 1 2,false=false→wkI 0 2]],true=true→wkJ 1 3,wkB 0 3,wkI 0 3,wkL 7,wkB 2 9,wkI 2 9] (by kernel_rfl) ?_ h
 repeat' first | exact trivial | decide | constructor | intro _
theorem wl3 (h:zJ31Eq Γ Q tdW (stW 4 ck4)):zJ31Eq Γ Q tdW (stW 3 ck3):=by
 refine J.runE (fn:=Tryz.f31) fg Tryz.func31 10 4 [cZ [cZ [room 2 96,wkI 0 1,false=false→wkI 0 1,false=false→wkI 0 1,wkB 0 1,wkI 0 1]],true=true→wkJ 1 2,wkB 0 2,wkI 0 2,wkL 8,wkB 3 9,wkI 3 9] (by kernel_rfl) ?_ h
 repeat' first | exact trivial | decide | constructor | intro _
theorem wl4 (h:zJ31Eq Γ Q tdW (stW 5 ck5)):zJ31Eq Γ Q tdW (stW 4 ck4):=by
 refine J.runE (fn:=Tryz.f31) fg Tryz.func31 10 4 [cZ [room 1 88,wkI 3 4,wkI 2 4,wkI 2 4,wkI 2 4,wkI 1 4,wkI 0 4,wkI 0 4,wkI 0 4,cZ [wkI 1 2,false=false→wkB 1 2,false=false→wkI 1 2]],true=true→wkJ 1 5,wkB 0 5,wkI 0 5,wkL 13,wkB 4 9,wkI 4 9] (by kernel_rfl) ?_ h
 repeat' first | exact trivial | decide | constructor | intro _
theorem wl5 (h:zJ31Eq Γ Q tdW (stW 6 ck6)):zJ31Eq Γ Q tdW (stW 5 ck5):=by
 refine J.runE (fn:=Tryz.f31) fg Tryz.func31 10 4 [cZ [cZ [room 3 96,wkI 1 2,wkI 0 2,false=false→wkI 1 2,false=false→wkI 0 2,wkB 1 2,wkI 1 2]],true=true→wkJ 1 3,wkB 0 3,wkI 0 3,wkL 8,wkB 5 9,wkI 5 9] (by kernel_rfl) ?_ h
 repeat' first | exact trivial | decide | constructor | intro _
theorem wl6 (h:zJ31Eq Γ Q tdW (stW 7 ck7)):zJ31Eq Γ Q tdW (stW 6 ck6):=by
 refine J.runE (fn:=Tryz.f31) fg Tryz.func31 10 4 [cZ [cZ [room 4 96,wkI 0 1,false=false→wkI 0 1,false=false→wkI 0 1,wkB 2 3,wkI 2 3]],true=true→wkJ 1 2,wkB 0 2,wkI 0 2,wkL 9,wkB 6 9,wkI 6 9] (by kernel_rfl) ?_ h
 repeat' first | exact trivial | decide | constructor | intro _
theorem wl7 (h:zJ31Eq Γ Q tdW (stW 8 ck8)):zJ31Eq Γ Q tdW (stW 7 ck7):=by
 refine J.runE (fn:=Tryz.f31) fg Tryz.func31 10 4 [cZ [cZ [room 5 96,wkI 0 1,false=false→wkI 0 1,false=false→wkI 0 1,wkB 3 4,wkI 3 4]],true=true→wkJ 1 2,wkB 0 2,wkI 0 2,wkL 9,wkB 7 9,wkI 7 9] (by kernel_rfl) ?_ h
 repeat' first | exact trivial | decide | constructor | intro _
theorem wl8 (h:zJ31Eq Γ Q tdW (stW 9 ck9)):zJ31Eq Γ Q tdW (stW 8 ck8):=by
 refine J.runE (fn:=Tryz.f31) fg Tryz.func31 10 4 [cZ [cZ [room 6 96,wkI 1 2,wkI 0 2,false=false→wkI 1 2,false=false→wkI 0 2,wkB 4 5,wkI 4 5]],true=true→wkJ 1 3,wkB 0 3,wkI 0 3,wkL 9,wkB 8 9,wkI 8 9] (by kernel_rfl) ?_ h
 repeat' first | exact trivial | decide | constructor | intro _
theorem MD:ah Tryz.prog 31 [.s exW] [] (.tup [.agg [.pd (.str [99]),.own 0,wkN,.own 2,.own 1],.i 0,.i 0]) [evW,trW,oA [sR,sA,sB,sC,sD,sH]]:=by
 refine ah.of Tryz.func31 (by kernel_rfl) (by kernel_rfl) fun Γ=>wl0 (wl1 (wl2 (wl3 (wl4 (wl5 (wl6 (wl7 (wl8 (?_)))))))))
 exact (kR (a:=[]) (fn:=Tryz.f31) (fz:=10) fg Tryz.func31 4 (ps:=[]) (by kernel_rfl) trivial ⟨rfl,rfl⟩).1
def vl:Ent:=(31,fun
 | [.c (.pd (.str s))],[]=>some (some (s=exW),.tup [.agg [.pd (.str [99]),.own 0,.pd (.v (.slice none 0 0)),.own 2,.own 1],.c (.pd (.int .i64 0)),.c (.pd (.int .i64 0))],[.own 9 .str [[103,111]],.own 51 .tran [⟨1,[103,111],[],[104],[]⟩],.own 56 .stat [⟨[114],2,0,[97],[],[]⟩,⟨[97],1,1,[],[],[]⟩,⟨[98],2,1,[99],[],[]⟩,⟨[99],1,2,[],[],[]⟩,⟨[100],1,2,[],[],[]⟩,⟨[104],6,1,[97],[],[]⟩]])
 | _,_=>none)
theorem Hj:EntOk Tryz.prog vl:=entOk fun vs ck=>by
 unfold vl; dsimp only; split
 · rename_i s; exact entS fun hp=>by subst hp; exact MD
 · exact entN
end Go.Proofs.YtgfifkhbfdacjaaGreatDoor
