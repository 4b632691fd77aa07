/- An executor for function bodies of the model over data, part VJ: calls whose truths are all written out, run to their end, with functions looked up in maps and guards that are literal. Conditions: those that the run tells. Contracts: what reads the layer's example. Conditions: none. Contracts: chart.Parse on the layer's example. Conditions: none. No text twice: the program's word and the document's are alike (plain). Conditions: none. Events of transitions: the program's word and the document's are alike (plain). Conditions: states' names differ. A valid chart: its questions one by one; without one of its transitions; its names are found (plain). Conditions: none. -/
import Derived.Test.YtlhgnjmdopjpeaaGreatDoorVe
import Derived.Test.YtlhgnjmdopjpeaaGreatDoorKb
import Derived.Test.YtlhgnjmdopjpeaaGreatDoorFb
import Derived.Test.YtlhgnjmdopjpeaaGreatDoorXb
import Derived.Test.YtlhgnjmdopjpeaaGreatDoorTq
import Derived.Test.YtlhgnjmdopjpeaaGreatDoorTp
import Derived.Test.YtlhgnjmdopjpeaaGreatDoorTj
namespace Go.Ev
open Go.RowKit
def Eu(tys:Tys)(fz:Nat)(st:ST):Option ST :=
 match lookup st.fr fz with
 |some (.x (.c (.own n)))=>tz tys st [n]
 |_=>some st
def o3(P:Program)(cfg:Cfg)(root:Code)(fz:Nat)(p:List Nat)(i:Nat)(st:ST):Option (Option Prop×ST) :=
 match(sg P root p i st).isSome with
 | true=>match Eu cfg.tys fz st with
   | some st1=>match sg P root p i st1 with
     | some (d,m,kx,_)=>match lookup st1.fr m,bt st1 none kx with
       | some (.x (.c (.pd (.tbl l)))),some (.c (.pd (.str s)))=>match iN l s with
         |some g=>some (none,{st1 with fr:=bH d (.x (.c (.fn (.func g) [] []))) st1.fr})
         |none=>none
       |_,_=>none
     |none=>none
   |none=>none
 | false => match tw P root p i st with
   |some (d,b)=>some (none,{st with fr:=bH d (.x (.b b)) st.fr})
   | none=>match rp P root p i st with
     |some (d,b)=>some (none,{st with fr:=bH d (.x (.b b)) st.fr})
     | none=>match GV P cfg root p i st with
       |some r=>some r
       | none=>match q8 root p 1 i st with
         |some st'=>some (none,st')
         |none=>none
def runD(P:Program)(cfg:Cfg)(fn:Func)(root:Code)(fz:Nat):Nat→List PI→ST→List Prop→Option (List Prop×SV×List Chunk)
 |0,_,_,_=>none
 | n + 1,todo,st,a=>match(exec P cfg fn root 1000 todo st).walk a with
   |(a',.ret v ck)=>some (a',v,ck)
   | (a',.stop (.ops p i::k) st')=>match o3 P cfg root fz p i st' with
     |some (none,st2)=>runD P cfg fn root fz n (.ops p (i+1)::k) st2 a'
     |some (some q,st2)=>runD P cfg fn root fz n (.ops p (i+1)::k) st2 (q::a')
     |none=>runD P cfg fn root fz n (.ops p i::k) st' a'
   |(a',.stop todo' st')=>runD P cfg fn root fz n todo' st' a'
   |_=>none
section
variable{P:Program}{cfg:Cfg}{Γ:Ctx}{Q:Out}{f:FuncId}{fn:Func}{root:Code}
theorem kq (ht:ag P cfg.tab) {fz:Nat} {p:List Nat} {i:Nat} {k:List PI} {st st':ST} {q:Option Prop} (h:o3 P cfg root fz p i st=some (q,st')) (hq:Holds q) (hk:J P f root Γ Q (.ops p (i+1)::k) st'):J P f root Γ Q (.ops p i::k) st:=by
 unfold o3 at h
 split at h
 · split at h
   · rename_i st1 hz
     have hj:J P f root Γ Q (.ops p i::k) st1:=by
      split at h
      · rename_i d m kx et hl
        split at h
        · rename_i l s hm hs
          split at h
          · rename_i g hg
            simp only[aa,ae]at h
            obtain⟨rfl,rfl⟩:=h
            refine J.lookup (zv:=.nilFunc) (z:=.v .nilFunc) hl hm hs rfl (fun hn=>by rw[hg]at hn;cases hn) ?_
            rw[hg];exact hk
          ·cases h
        ·cases h
      ·cases h
     unfold Eu at hz
     split at hz
     ·exact J.freeze cfg.tys _ hz hj
     · simp only[aa]at hz
       subst hz;exact hj
   ·cases h
 · split at h
   · rename_i d b hf
     simp only[aa,ae]at h
     obtain⟨rfl,rfl⟩:=h
     exact J.fnNil hf hk
   · split at h
     · rename_i d b hf
       simp only[aa,ae]at h
       obtain⟨rfl,rfl⟩:=h
       exact J.ptrNil hf hk
     · split at h
       · rename_i r hr
         simp only[aa]at h
         subst h
         exact J.on ht hr hq hk
       · split at h
         · rename_i st2 ho
           simp only[aa,ae]at h
           obtain⟨rfl,rfl⟩:=h
           exact J.off 1 i ho hk
         ·cases h
theorem oY(ht:ag P cfg.tab)(hf:P.funcs[f]?=some fn){fz:Nat}:∀(n:Nat) {todo:List PI} {st:ST} {a ps:List Prop} {v:SV} {ck:List Chunk},runD P cfg fn root fz n todo st a=some (ps,v,ck)→dX ps→Q v ck→J P f root Γ Q todo st∧dX a
 |0,_,_,_,_,_,_,h,_,_=>by cases h
 | n + 1,todo,st,a,ps,v,ck,h,hp,hq=>by
   simp only[runD]at h
   have back:∀{a':List Prop} {todo':List PI} {st':ST},(exec P cfg fn root 1000 todo st).walk a=(a',.stop todo' st')→J P f root Γ Q todo' st'∧dX a'→J P f root Γ Q todo st∧dX a:=fun he hj=>by
    obtain⟨h1,h2⟩:=Tree.walk_J (Q:=Q) (Γ:=Γ) (P:=P) (f:=f) (root:=root) he hj.2 hj.1
    exact⟨J.go ht hf 1000 rfl h1,h2⟩
   split at h
   · rename_i a' v' ck' he
     simp only[aa,ae]at h
     obtain⟨rfl,rfl,rfl⟩:=h
     obtain⟨h1,h2⟩:=Tree.walk_J (Q:=Q) (Γ:=Γ) (P:=P) (f:=f) (root:=root) he hp hq
     exact⟨J.go ht hf 1000 rfl h1,h2⟩
   · rename_i a' p i k st' he
     refine back he ?_
     split at h
     · rename_i st2 hs
       have h3:=oY ht hf n h hp hq
       exact⟨kq ht hs trivial h3.1,h3.2⟩
     · rename_i q st2 hs
       have h3:=oY ht hf n h hp hq
       exact⟨kq ht hs h3.2.1 h3.1,h3.2.2⟩
     ·exact oY ht hf n h hp hq
   · rename_i a' todo' st' _ he
     exact back he (oY ht hf n h hp hq)
   ·cases h
def runE(P:Program)(cfg:Cfg)(fn:Func)(root:Code)(fz:Nat):Nat→List PI→ST→List Prop→Option (List Prop×List PI×ST)
 |0,todo,st,a=>some (a,todo,st)
 | n + 1,todo,st,a=>match(exec P cfg fn root 1000 todo st).walk a with
   | (a',.stop (.ops p i::k) st')=>match o3 P cfg root fz p i st' with
     |some (none,st2)=>runE P cfg fn root fz n (.ops p (i+1)::k) st2 a'
     |some (some q,st2)=>runE P cfg fn root fz n (.ops p (i+1)::k) st2 (q::a')
     |none=>none
   |(a',.stop todo' st')=>runE P cfg fn root fz n todo' st' a'
   |_=>none
theorem pM(ht:ag P cfg.tab)(hf:P.funcs[f]?=some fn){fz:Nat}:∀(n:Nat) {todo todo':List PI} {st st':ST} {a ps:List Prop},runE P cfg fn root fz n todo st a=some (ps,todo',st')→dX ps→J P f root Γ Q todo' st'→J P f root Γ Q todo st∧dX a
 | 0,_,_,_,_,_,_,h,hp,hj=>by
   simp only[runE,aa,ae]at h
   obtain⟨rfl,rfl,rfl⟩:=h;exact⟨hj,hp⟩
 | n + 1,todo,_,st,_,a,ps,h,hp,hj=>by
   simp only[runE]at h
   have back:∀{a':List Prop} {todo':List PI} {st':ST},(exec P cfg fn root 1000 todo st).walk a=(a',.stop todo' st')→J P f root Γ Q todo' st'∧dX a'→J P f root Γ Q todo st∧dX a:=fun he hj=>by
    obtain⟨h1,h2⟩:=Tree.walk_J (Q:=Q) (Γ:=Γ) (P:=P) (f:=f) (root:=root) he hj.2 hj.1
    exact⟨J.go ht hf 1000 rfl h1,h2⟩
   split at h
   · rename_i a' p i k st' he
     refine back he ?_
     split at h
     · rename_i st2 hs
       have h3:=pM ht hf n h hp hj
       exact⟨kq ht hs trivial h3.1,h3.2⟩
     · rename_i q st2 hs
       have h3:=pM ht hf n h hp hj
       exact⟨kq ht hs h3.2.1 h3.1,h3.2.2⟩
     ·cases h
   · rename_i a' todo' st' _ he
     exact back he (pM ht hf n h hp hj)
   ·cases h
theorem J.runE(ht:ag P cfg.tab)(hf:P.funcs[f]?=some fn)(fz n:Nat){todo todo':List PI}{st st':ST}(ps:List Prop)(h:runE P cfg fn root fz n todo st []=some (ps,todo',st'))(hp:dX ps)(hj:J P f root Γ Q todo' st'):J P f root Γ Q todo st:=(pM ht hf n h hp hj).1
theorem ah.runD{args:List SX}{ck:List Chunk}{ret:SV}{ck':List Chunk}(ht:ag P cfg.tab)(hf:P.funcs[f]?=some fn)(hb:fn.body.isSome=true)(hn:Nat.ble args.length fn.ntmps=true)(fz n:Nat)(ps:List Prop)
 (he:runD P cfg fn (ar fn) fz n [.code []] (il fn.ntmps args ck) []=some (ps,ret,ck')) (hp:dX ps):ah P f args ck ret ck' :=
 ah.of hf hb hn fun Γ=>(oY (Q:=Eq2 ret ck') ht hf n he hp ⟨rfl,rfl⟩).1
noncomputable def w8(P:Program)(cfg:Cfg)(fn:Func)(fz n:Nat)(f:FuncId):Ent:=(f,fun vs ck=>bif Nat.ble vs.length fn.ntmps then
 (match runD P cfg fn (ar fn) fz n [.code []] (il fn.ntmps vs ck) []with
  |some ([],ret,ck')=>some (none,ret,ck')
  |some (p::ps,ret,ck')=>some (some (dX (p::ps)),ret,ck')
  |none=>none)else none)
theorem Hf{fz n:Nat}(ht:ag P cfg.tab)(hf:P.funcs[f]?=some fn)(hb:fn.body.isSome=true){vs:List SX}{ck:List Chunk}{p:Option Prop}{ret:SV}{ck':List Chunk}(h:(w8 P cfg fn fz n f).2 vs ck=some (p,ret,ck'))(hp:Holds p):ah P f vs ck ret ck':=by
 simp only[w8]at h
 cases hn:Nat.ble vs.length fn.ntmps
 ·rw[hn,cond_false]at h;cases h
 · rw[hn,cond_true]at h
   split at h
   · rename_i he
     simp only[aa,ae]at h
     obtain⟨rfl,rfl,rfl⟩:=h
     exact ah.runD ht hf hb hn fz n _ he trivial
   · rename_i he
     simp only[aa,ae]at h
     obtain⟨rfl,rfl,rfl⟩:=h
     exact ah.runD ht hf hb hn fz n _ he hp
   ·cases h
end
end Go.Ev
namespace Go.Proofs.YtlhgnjmdopjpeaaGreatDoor
open Go Go.Ev
set_option maxRecDepth 100000
def exW:Str:=[99,104,97,114,116,32,99,10,101,118,101,110,116,32,103,111,10,111,110,101,32,114,32,97,10,32,111,110,32,103,111,32,45,32,97,32,45,10,32,98,97,115,105,99,32,97,10,32,32,111,110,32,103,111,32,45,32,45,32,45,10]
noncomputable section
def rHs:Nat×(List SX→List Chunk→Option (Option Prop×SV×List Chunk)):=jl Tryz.prog bR Tryz.f135 30 135
variable(vs:List SX)(ck:List Chunk)
theorem R5(p:Option Prop)(ret:SV)(ck':List Chunk)(h:rHs.2 vs ck=some (p,ret,ck'))(hp:Holds p):ah Tryz.prog rHs.1 vs ck ret ck':=gU aX Tryz.func135 (by kernel_rfl) h hp
def OH:Cfg:=⟨aU,[rHs]⟩
theorem Lt:ag Tryz.prog OH.tab:=(ag.cons R5 ag.nil)
def Nm:Nat×(List SX→List Chunk→Option (Option Prop×SV×List Chunk)):=jl Tryz.prog OH Tryz.f90 30 90
theorem QE(p:Option Prop)(ret:SV)(ck':List Chunk)(h:Nm.2 vs ck=some (p,ret,ck'))(hp:Holds p):ah Tryz.prog Nm.1 vs ck ret ck':=gU Lt Tryz.func90 (by kernel_rfl) h hp
def OI:Cfg:=⟨aU,[Nm]⟩
theorem Lu:ag Tryz.prog OI.tab:=(ag.cons QE ag.nil)
def rTs:Nat×(List SX→List Chunk→Option (Option Prop×SV×List Chunk)):=jl Tryz.prog OI Tryz.f43 30 43
theorem R7(p:Option Prop)(ret:SV)(ck':List Chunk)(h:rTs.2 vs ck=some (p,ret,ck'))(hp:Holds p):ah Tryz.prog rTs.1 vs ck ret ck':=gU Lu Tryz.func43 (by kernel_rfl) h hp
def Bl:Cfg:=⟨aU,[ll]⟩
theorem xI:ag Tryz.prog Bl.tab:=(ag.cons jZ ag.nil)
def rHd:Nat×(List SX→List Chunk→Option (Option Prop×SV×List Chunk)):=jl Tryz.prog Bl Tryz.f121 30 121
theorem R4(p:Option Prop)(ret:SV)(ck':List Chunk)(h:rHd.2 vs ck=some (p,ret,ck'))(hp:Holds p):ah Tryz.prog rHd.1 vs ck ret ck':=gU xI Tryz.func121 (by kernel_rfl) h hp
def IK:Cfg:=⟨aU,[rHd]⟩
theorem IL:ag Tryz.prog IK.tab:=(ag.cons R4 ag.nil)
def Nd:Nat×(List SX→List Chunk→Option (Option Prop×SV×List Chunk)):=jl Tryz.prog IK Tryz.f76 30 76
theorem QA(p:Option Prop)(ret:SV)(ck':List Chunk)(h:Nd.2 vs ck=some (p,ret,ck'))(hp:Holds p):ah Tryz.prog Nd.1 vs ck ret ck':=gU IL Tryz.func76 (by kernel_rfl) h hp
def Nl:Nat×(List SX→List Chunk→Option (Option Prop×SV×List Chunk)):=jl Tryz.prog Bl Tryz.f126 30 126
theorem QD(p:Option Prop)(ret:SV)(ck':List Chunk)(h:Nl.2 vs ck=some (p,ret,ck'))(hp:Holds p):ah Tryz.prog Nl.1 vs ck ret ck':=gU xI Tryz.func126 (by kernel_rfl) h hp
def Bm:Cfg:=⟨aU,[Nl]⟩
theorem xJ:ag Tryz.prog Bm.tab:=(ag.cons QD ag.nil)
def Ni:Nat×(List SX→List Chunk→Option (Option Prop×SV×List Chunk)):=jl Tryz.prog Bm Tryz.f83 30 83
theorem QB(p:Option Prop)(ret:SV)(ck':List Chunk)(h:Ni.2 vs ck=some (p,ret,ck'))(hp:Holds p):ah Tryz.prog Ni.1 vs ck ret ck':=gU xJ Tryz.func83 (by kernel_rfl) h hp
def Nc:Nat×(List SX→List Chunk→Option (Option Prop×SV×List Chunk)):=jl Tryz.prog Bm Tryz.f80 30 80
theorem Qz(p:Option Prop)(ret:SV)(ck':List Chunk)(h:Nc.2 vs ck=some (p,ret,ck'))(hp:Holds p):ah Tryz.prog Nc.1 vs ck ret ck':=gU xJ Tryz.func80 (by kernel_rfl) h hp
def Nj:Nat×(List SX→List Chunk→Option (Option Prop×SV×List Chunk)):=jl Tryz.prog bR Tryz.f127 30 127
theorem QC(p:Option Prop)(ret:SV)(ck':List Chunk)(h:Nj.2 vs ck=some (p,ret,ck'))(hp:Holds p):ah Tryz.prog Nj.1 vs ck ret ck':=gU aX Tryz.func127 (by kernel_rfl) h hp
def IM:Cfg:=⟨aU,[Nj,qm,ll]⟩
theorem IN:ag Tryz.prog IM.tab:=(ag.cons QC (ag.cons xN (ag.cons jZ ag.nil)))
def rOn:Nat×(List SX→List Chunk→Option (Option Prop×SV×List Chunk)):=w8 Tryz.prog IM Tryz.f88 999 30 88
theorem R6(p:Option Prop)(ret:SV)(ck':List Chunk)(h:rOn.2 vs ck=some (p,ret,ck'))(hp:Holds p):ah Tryz.prog rOn.1 vs ck ret ck':=Hf IN Tryz.func88 (by kernel_rfl) h hp
def Ro:Cfg:=⟨aU,[uF,rTs,r4,FS,ll,Nd,Ni,Nc,rOn]⟩
theorem jc:ag Tryz.prog Ro.tab:=(ag.cons I5 (ag.cons R7 (ag.cons Ge (ag.cons Pw (ag.cons jZ (ag.cons QA (ag.cons QB (ag.cons Qz (ag.cons R6 ag.nil)))))))))
end
abbrev zJ23Bq:=J Tryz.prog 23 (ar Tryz.f23)
abbrev wkN:SC:=.pd (.v (.slice none 0 0))
variable{Γ:Ctx}(i:Int){Q:Out}(n:Nat)
def frW:List (Nat×SV):=[(2,.x (.c (.loc 0 0))),(3,.i 0),(4,.i 0),(5,.x (.c (.loc 1 0))),(6,.p (.tbl oV)),(23,.x (.c (.own 2))),(24,.i 6),(25,.i i)]
def ckW(a b c d:SC)(n:Int)(r:List Chunk):List Chunk:=.cells [.pd (.str []),wkN,wkN,wkN,wkN] 27 :: .cells [.pd (.str [99]),a,b,c,d,.pd (.i n)] 72 :: .own 9 .str [[99,104,97,114,116,32,99],[101,118,101,110,116,32,103,111],[111,110,101,32,114,32,97],[32,111,110,32,103,111,32,45,32,97,32,45],[32,98,97,115,105,99,32,97],[32,32,111,110,32,103,111,32,45,32,45,32,45]]::r
def stW(ck:List Chunk):ST:={n:=101,fr:=frW i,ck:=ck}
def sR:Ev.Stat:=⟨[114],2,0,[97],[],[]⟩
def sA:Ev.Stat:=⟨[97],1,1,[],[],[]⟩
def evW:Chunk:=.own 9 .str [[103,111]]
def CR(l:List Ev.Stat):Chunk:=.own 57 .stat l
def Hw(l:List Tran):Chunk:=.own 42 .tran l
def ck1:List Chunk:=ckW wkN wkN wkN wkN 0 []
def ck2:List Chunk:=ckW (.own 3) wkN wkN wkN 0 [evW]
def ck3:List Chunk:=ckW (.own 3) wkN (.own 4) wkN 0 [evW,CR [sR]]
def ck4:List Chunk:=ckW (.own 3) wkN (.own 4) (.own 5) 1 [evW,CR [sR],Hw [⟨0,[103,111],[],[97],[]⟩]]
def ck5:List Chunk:=ckW (.own 3) wkN (.own 5) (.own 4) 1 [evW,Hw [⟨0,[103,111],[],[97],[]⟩],CR [sR,sA]]
def ck6:List Chunk:=ckW (.own 3) wkN (.own 4) (.own 5) 2 [evW,CR [sR,sA],Hw [⟨0,[103,111],[],[97],[]⟩,⟨1,[103,111],[],[],[]⟩]]
abbrev wkI:Prop:=0≤i∧i<n
abbrev wkJ:Prop:=0≤i∧i≤n
abbrev wkB(m:Nat):Prop:=n<m
abbrev wkL:Prop:=n≤2097152∧true=true
def tdW:List PI:=[PI.code [1,1,1,1,0,1,0,0],PI.inLoop [1,1,1,1,0,1,0,0],PI.inBlock 0,PI.code [1,1,1,1,1]]
theorem wl0(h:zJ23Bq Γ Q tdW (stW 1 ck1)):zJ23Bq Γ Q [.code []] (il (Tryz.f23).ntmps [.s exW] []):=by
 refine J.runE (fn:=Tryz.f23) jc Tryz.func23 10 2 [wkB 1 2,wkI 1 2,true=true→wkB 1 2,true=true→wkI 1 2,true=true→wkB 0 2,true=true→wkI 0 2,wkL 7,wkB 0 6,wkI 0 6,wkB 60 4294967281,dX [dX [wkJ 60 61,dX [true=true→wkJ 60 61]]]] (by kernel_rfl) ?_ h
 repeat' first |exact trivial |decide |constructor |intro _
theorem wl1(h:zJ23Bq Γ Q tdW (stW 2 ck2)):zJ23Bq Γ Q tdW (stW 1 ck1):=by
 refine J.runE (fn:=Tryz.f23) jc Tryz.func23 10 4 [dX [room 1 16,wkI 0 1,dX [true=true→wkI 0 1]],true=true→wkJ 1 2,wkB 0 2,wkI 0 2,wkL 8,wkB 1 6,wkI 1 6] (by kernel_rfl) ?_ h
 repeat' first |exact trivial |decide |constructor |intro _
theorem wl2(h:zJ23Bq Γ Q tdW (stW 3 ck3)):zJ23Bq Γ Q tdW (stW 2 ck2):=by
 refine J.runE (fn:=Tryz.f23) jc Tryz.func23 10 4 [dX [dX [room 1 96,wkI 1 2,wkI 0 2,false=false→wkI 1 2,false=false→wkI 0 2]],true=true→wkJ 1 3,wkB 0 3,wkI 0 3,wkL 7,wkB 2 6,wkI 2 6] (by kernel_rfl) ?_ h
 repeat' first |exact trivial |decide |constructor |intro _
theorem wl3(h:zJ23Bq Γ Q tdW (stW 4 ck4)):zJ23Bq Γ Q tdW (stW 3 ck3):=by
 refine J.runE (fn:=Tryz.f23) jc Tryz.func23 10 4 [dX [room 1 88,wkI 3 4,wkI 2 4,wkI 2 4,wkI 2 4,wkI 1 4,wkI 0 4,wkI 0 4,wkI 0 4,dX [wkI 0 1,false=false→wkB 0 1,false=false→wkI 0 1]],true=true→wkJ 1 5,wkB 0 5,wkI 0 5,wkL 12,wkB 3 6,wkI 3 6] (by kernel_rfl) ?_ h
 repeat' first |exact trivial |decide |constructor |intro _
theorem wl4(h:zJ23Bq Γ Q tdW (stW 5 ck5)):zJ23Bq Γ Q tdW (stW 4 ck4):=by
 refine J.runE (fn:=Tryz.f23) jc Tryz.func23 10 4 [dX [dX [room 2 96,wkI 0 1,false=false→wkI 0 1,false=false→wkI 0 1,wkB 0 1,wkI 0 1]],true=true→wkJ 1 2,wkB 0 2,wkI 0 2,wkL 8,wkB 4 6,wkI 4 6] (by kernel_rfl) ?_ h
 repeat' first |exact trivial |decide |constructor |intro _
theorem wl5(h:zJ23Bq Γ Q tdW (stW 6 ck6)):zJ23Bq Γ Q tdW (stW 5 ck5):=by
 refine J.runE (fn:=Tryz.f23) jc Tryz.func23 10 4 [dX [room 2 88,wkI 3 4,wkI 2 4,wkI 1 4,wkI 0 4,wkI 0 4,wkI 0 4,dX [wkI 1 2,false=false→wkB 1 2,false=false→wkI 1 2]],true=true→wkJ 1 5,wkB 0 5,wkI 0 5,wkL 13,wkB 5 6,wkI 5 6] (by kernel_rfl) ?_ h
 repeat' first |exact trivial |decide |constructor |intro _
theorem SA:ah Tryz.prog 23 [.s exW] [] (.tup [.agg [.pd (.str [99]),.own 0,wkN,.own 1,.own 2],.i 0,.i 0]) [evW,CR [sR,sA],Hw [⟨0,[103,111],[],[97],[]⟩,⟨1,[103,111],[],[],[]⟩]]:=by
 refine ah.of Tryz.func23 (by kernel_rfl) (by kernel_rfl) fun Γ=>wl0 (wl1 (wl2 (wl3 (wl4 (wl5 (?_))))))
 exact(oY (a:=[]) (fn:=Tryz.f23) (fz:=10) jc Tryz.func23 4 (ps:=[]) (by kernel_rfl) trivial ⟨rfl,rfl⟩).1
def Am:Ent:=(23,fun
 |[.c (.pd (.str s))],[]=>some (some (s=exW),.tup [.agg [.pd (.str [99]),.own 0,.pd (.v (.slice none 0 0)),.own 1,.own 2],.c (.pd (.int .i64 0)),.c (.pd (.int .i64 0))],[.own 9 .str [[103,111]],.own 57 .stat [⟨[114],2,0,[97],[],[]⟩,⟨[97],1,1,[],[],[]⟩],.own 42 .tran [⟨0,[103,111],[],[97],[]⟩,⟨1,[103,111],[],[],[]⟩]])
 |_,_=>none)
theorem LW:EntOk Tryz.prog Am:=entOk fun vs ck=>by
 unfold Am;dsimp only;split
 ·rename_i s;exact entS fun hp=>by subst hp;exact SA
 ·exact entN
variable(l:List Str)
def tw1(i:Nat):Bool:=(l.take i).any fun y=>ETy.get .str l i==y
def rG(l:List Str):Nat→Nat→Bool
 |0,_=>false
 |n+1,i=>tw1 l i||rG l n (i+1)
def eN:Bool:=rG l l.length 0
theorem OV(l:List Str):∀(n i:Nat),l.length - i=n→(rG l n i=true↔∃k,i≤k∧k<l.length∧tw1 l k=true)
 |0,i,h=>by rw[rG];exact⟨fun h=>(by cases h),fun⟨k,h1,h2,_⟩=>by omega⟩
 | n + 1,i,h=>by
   rw[rG,aN,OV l n (i+1) (by omega)]
   constructor
   · rintro(h1 |⟨k,h1,h2,h3⟩)
     ·exact⟨i,av _,by omega,h1⟩
     ·exact⟨k,by omega,h2,h3⟩
   · rintro⟨k,h1,h2,h3⟩
     by_cases hk:k=i
     ·subst hk;exact .inl h3
     ·exact .inr ⟨k,by omega,h2,h3⟩
theorem yD:eN l=false↔l.Nodup:=by
 unfold eN
 rw[←cG,OV l l.length 0 (by omega),fh,dn]
 constructor
 · intro h i j hi hj hij e
   refine h ⟨j,aS _,hj,?_⟩
   unfold tw1
   rw[bf]
   refine⟨l[i],?_,?_⟩
   ·rw[fB];exact⟨i,by omega,rfl⟩
   ·rw[ETy.get_eq (t:=.str) (List.getElem?_eq_getElem hj),e];exact beq_self_eq_true _
 · rintro h ⟨k,_,h2,h3⟩
   unfold tw1 at h3
   rw[bf]at h3
   obtain⟨y,hy,he⟩:=h3
   obtain⟨i,hi,rfl⟩:=fB.1 hy
   rw[ETy.get_eq (t:=.str) (List.getElem?_eq_getElem h2)]at he
   exact h i k (by omega) h2 (by omega) (eq_of_beq he).symm
theorem N2:(gK l).Pairwise fun x y=>x≤y:=by
 have h:=fW (le:=fun x y:Str=>decide (x≤y)) (fun a b c h1 h2=>decide_eq_true (List.le_trans (of_decide_eq_true h1) (of_decide_eq_true h2))) (fun a b=>by
  rcases List.le_total a b with h |h
  ·rw[decide_eq_true h];rfl
  ·rw[decide_eq_true h,Bool.or_true]) l
 exact h.imp fun h=>of_decide_eq_true h
theorem LF(s:List Str):(dR s).length=s.length↔∀j,j<s.length→Lib.keeps s.toArray j=true:=by
 unfold dR Lib.compact Lib.compactUpTo
 rw[aP]
 constructor
 · intro h j hj
   have h2:((List.range s.length).filter (Lib.keeps s.toArray)).length=(List.range s.length).length:=by rw[h,gx]
   exact(List.length_filter_eq_length_iff.1 h2) j (bL.2 hj)
 · intro h
   rw[eD.2 fun j hj=>h j (bL.1 hj),gx]
theorem JI{s:List Str}(hs:s.Pairwise fun x y=>x≤y):(∀j,j<s.length→Lib.keeps s.toArray j=true)↔s.Nodup:=by
 rw[fh,dn]
 rw[dn]at hs
 constructor
 · intro h i j hi hj hij e
   have h1:=h j hj
   unfold Lib.keeps at h1
   have h2:=of_decide_eq_true h1
   rcases h2 with h2 |h2
   ·omega
   · refine h2 ?_
     rw[getElem!_pos s.toArray j (by simpa using hj),getElem!_pos s.toArray (j - 1) (by simp;omega)]
     simp only[List.getElem_toArray]
     have h3:s[j - 1]≤s[j]:=hs (j - 1) j (by omega) hj (by omega)
     have h4:s[i]≤s[j - 1]:=by
      by_cases h5:i=j - 1
      ·subst h5;exact List.le_refl _
      ·exact hs i (j - 1) hi (by omega) (by omega)
     exact List.le_antisymm (e ▸ h4) h3
 · intro h j hj
   unfold Lib.keeps
   refine decide_eq_true ?_
   by_cases h0:j=0
   ·exact .inl h0
   · refine .inr ?_
     rw[getElem!_pos s.toArray j (by simpa using hj),getElem!_pos s.toArray (j - 1) (by simp;omega)]
     simp only[List.getElem_toArray]
     exact fun e=>h (j - 1) j (by omega) hj (by omega) e.symm
theorem pG:iV l=true↔l.Nodup:=by
 unfold iV
 have h:(((dR (gK l)).length:Int)==((gK l).length:Int))=true↔(dR (gK l)).length=(gK l).length:=by rw[beq_iff_eq];omega
 rw[h,LF,JI (N2 l)]
 exact(fG l _).nodup_iff
theorem wN:iV l = !eN l:=by
 rw[aT,pG,←yD];simp
variable(l:List Ev.Stat)(s n:Str)
theorem Bw:(s==gi++n)=true↔eR s gi=true∧eP s gi=n:=by
 have e5:aE gi=5:=rfl
 have el:aE s=(s.length:Int):=rfl
 rw[beq_iff_eq]
 constructor
 · rintro rfl
   have h:eR (gi++n) gi=true:=by
    unfold eR
    rw[af]
    refine⟨decide_eq_true ?_,?_⟩
    · rw[el,e5,au];show _≥(5:Int);have:gi.length=5:=rfl
      omega
    ·rw[e5];exact beq_iff_eq.2 (List.take_left' rfl)
   refine⟨h,?_⟩
   unfold eP
   rw[h,cond_true,e5];exact List.drop_left' rfl
 · rintro⟨h,hn⟩
   unfold eP at hn
   rw[h,cond_true,e5]at hn
   unfold eR at h
   rw[af,e5]at h
   have h2:s.take 5=gi:=eq_of_beq h.2
   rw[←hn]
   calc s=s.take 5++s.drop 5:=(dp 5 s).symm
    _=_:=by rw[h2];rfl
def jB:Bool:=l.any fun x:Ev.Stat=>(x.kind==2||x.kind==3)&&s==gi++x.name
def nA(c:Chart)(s:Str):Bool:=s==[]||s==qE||c.events.any fun x=>s==x
theorem mA:(aF l n = -1∧∀x∈l,x.name≠n)∨∃k:Nat,aF l n=(k:Int)∧k<l.length∧(ETy.get .stat l k).name=n:=by
 unfold aF
 rcases ij (fun s:Ev.Stat=>s.name==n) l 0 with⟨h1,h2⟩ |⟨k,x,h1,h2,h3⟩
 · refine .inl ⟨h1,fun x hx e=>?_⟩
   have:=List.find?_eq_none.1 h2 x hx
   simp[e]at this
 · refine .inr ⟨k,by rw[ba]at h1;exact h1,(List.getElem?_eq_some_iff.1 h2).1,?_⟩
   rw[ETy.get_eq (t:=.stat) h2]
   have:=List.find?_some h3
   exact eq_of_beq this
theorem MR{l:List Ev.Stat}(hn:(l.map fun s:Ev.Stat=>s.name).Nodup){i j:Nat}(hi:i<l.length)(hj:j<l.length)(h:(ETy.get .stat l i).name=(ETy.get .stat l j).name):i=j:=by
 rw[ETy.get_eq (t:=.stat) (List.getElem?_eq_getElem hi),ETy.get_eq (t:=.stat) (List.getElem?_eq_getElem hj)]at h
 rw[fh,dn]at hn
 rcases Nat.lt_trichotomy i j with h1 |h1 |h1
 ·exact absurd (by rw[List.getElem_map,List.getElem_map];exact h) (hn i j (by simpa using hi) (by simpa using hj) h1)
 ·exact h1
 ·exact absurd (by rw[List.getElem_map,List.getElem_map];exact h.symm) (hn j i (by simpa using hj) (by simpa using hi) h1)
theorem L8{c:Chart}(hn:(c.states.map fun s:Ev.Stat=>s.name).Nodup)(s:Str):jf c s=(nA c s||jB c.states s):=by
 unfold jf
 show(if nA c s=true then true else _)=_
 cases nA c s
 · rw [if_neg (by decide),bj]
   unfold jB
   rw[aT,bf]
   constructor
   · intro h
     simp only[af,decide_eq_true_eq]at h
     obtain⟨⟨h1,h2⟩,h3⟩:=h
     rcases mA c.states (eP s gi)with⟨e,_⟩ |⟨k,e,hk,hx⟩
     ·rw[e]at h2;exact absurd h2 (by decide)
     · rw[e,ai]at h3
       refine⟨ETy.get .stat c.states k,?_,?_⟩
       ·rw[ETy.get_eq (t:=.stat) (List.getElem?_eq_getElem hk)];exact aW hk
       · rw[af]
         exact⟨h3,(Bw s _).2 ⟨h1,hx.symm⟩⟩
   · rintro⟨x,hx,h⟩
     rw[af]at h
     obtain⟨h1,h2⟩:=(Bw s _).1 h.2
     obtain⟨j,hj,rfl⟩:=dy.1 hx
     rcases mA c.states (eP s gi)with⟨e,hno⟩ |⟨k,e,hk,hy⟩
     ·exact absurd h2.symm (hno _ (aW hj))
     · have ej:ETy.get .stat c.states j=c.states[j]:=ETy.get_eq (t:=.stat) (List.getElem?_eq_getElem hj)
       have:k=j:=MR hn hk hj (by rw[hy,ej];exact h2)
       subst this
       rw[e,ai,h1,decide_eq_true (show(k:Int)≥0 by omega),ej]
       exact h.1
 ·rfl
theorem lX{b:Bool}{e:Int}(he:e≠0):b7 b e=0↔b=true:=by
 unfold b7
 cases b
 ·rw[if_neg (by decide)];exact⟨fun h=>absurd h he,fun h=>(by cases h)⟩
 ·rw[if_pos rfl];exact⟨fun _=>rfl,fun _=>rfl⟩
theorem and_zero{e r:Int}:iB e r=0↔e=0∧r=0:=by
 unfold iB
 by_cases h:e=0
 · subst h
   rw[if_neg (by decide)];exact⟨fun h=>⟨rfl,h⟩,fun h=>h.2⟩
 ·rw[if_pos (by simpa using h)];exact⟨fun h2=>absurd h2 h,fun h2=>absurd h2.1 h⟩
theorem vp(f:Nat→Int):∀(m k:Nat),bY f k m=0↔∀j,k≤j→j<k+m→f j=0
 |0,k=>by rw[bY];exact⟨fun _ j h1 h2=>by omega,fun _=>rfl⟩
 | m + 1,k=>by
   rw[bY]
   by_cases h:f k=0
   · rw[h,if_neg (by decide),vp f m (k+1)]
     refine⟨fun h2 j h3 h4=>?_,fun h2 j h3 h4=>h2 j (by omega) (by omega)⟩
     by_cases hj:j=k
     ·subst hj;exact h
     ·exact h2 j (by omega) (by omega)
   · rw[if_pos (by simpa using h)]
     exact⟨fun h2=>absurd h2 h,fun h2=>absurd (h2 k (av _) (by omega)) h⟩
structure Valid (c:Chart):Prop where
 few:jx c=true
 names:∀s∈c.name::c.events++(c.vars.map fun v:Var=>v.name)++c.states.map fun s:Ev.Stat=>s.name,bk s=true
 events:c.events.Nodup
 vars:(c.vars.map fun v:Var=>v.name).Nodup
 states:(c.states.map fun s:Ev.Stat=>s.name).Nodup
 tree:cn c.states=true
 inits:∀k,k<c.states.length→eg c.states k=0
 kinds:∀k,k<c.vars.length→fw (ETy.get .var c.vars k)=0
 blocks:∀k,k<c.states.length→dx c (ETy.get .stat c.states k)=0
 trans:∀k,k<c.trans.length→dk c k (dS c.states) (ETy.get .tran c.trans k)=0
theorem db(c:Chart):bp c=0↔Valid c:=by
 unfold bp q0E q1E q2E q3E q4E q5E q6E q7E
 simp only[and_zero,lX (show(4:Int)≠0 by decide),lX (show(2:Int)≠0 by decide),lX (show(3:Int)≠0 by decide),lX (show(9:Int)≠0 by decide),vp]
 have hn:(!(ic c (c.vars.map fun v:Var=>v.name) (c.states.map fun s:Ev.Stat=>s.name)).any fun s:Str=>!bk s)=true↔∀s∈c.name::c.events++(c.vars.map fun v:Var=>v.name)++c.states.map fun s:Ev.Stat=>s.name,bk s=true:=by
  unfold ic
  rw[px,aK,←cG,bf]
  simp only[List.flatten_cons,List.flatten_nil,aO,List.singleton_append,bD,bO]
  constructor
  · intro h s hs
    cases hb:bk s
    ·exact absurd ⟨s,hs,by rw[hb];rfl⟩ h
    ·rfl
  · rintro h ⟨s,hs,hb⟩
    rw[h s hs]at hb;cases hb
 have ht:kS c (c.vars.map fun v:Var=>v.name) (c.states.map fun s:Ev.Stat=>s.name)=true↔c.events.Nodup∧(c.vars.map fun v:Var=>v.name).Nodup∧(c.states.map fun s:Ev.Stat=>s.name).Nodup:=by
  unfold kS
  rw[af,af,pG,pG,pG,and_assoc]
 rw[hn,ht]
 constructor
 · rintro⟨h0,h1,⟨h2,h3,h4⟩,h5,h6,h7,h8,h9,_⟩
   exact⟨h0,h1,h2,h3,h4,h5,fun k hk=>h6 k (by omega) (by omega),fun k hk=>h7 k (by omega) (by omega),fun k hk=>h8 k (by omega) (by omega),fun k hk=>h9 k (by omega) (by omega)⟩
 · intro v
   exact⟨v.few,v.names,⟨v.events,v.vars,v.states⟩,v.tree,fun k _ hk=>v.inits k (by omega),fun k _ hk=>v.kinds k (by omega),fun k _ hk=>v.blocks k (by omega),fun k _ hk=>v.trans k (by omega),trivial⟩
/-! ### without one of its transitions -/
theorem mE(c:Chart)(i:Nat)(real:List Str)(t:Tran):dk c i real t=0↔gA c i t=false∧jf c t.event=true∧(t.guard=[]∨((cm t.guard c.vars real).2=0∧(cm t.guard c.vars real).1=2))∧fI c t=0:=by
 unfold dk
 cases hb:gA c i t
 · rw [if_neg (by decide)]
   cases he:jf c t.event
   ·rw[if_pos (by decide)];exact⟨fun h=>absurd h (by decide),fun h=>(by cases h.2.1)⟩
   · rw [if_neg (by decide)]
     by_cases hg:t.guard=[]
     · rw[hg,if_neg (by decide)]
       exact⟨fun h=>⟨rfl,rfl,.inl rfl,h⟩,fun h=>h.2.2.2⟩
     · have hp:0<t.guard.length:=List.length_pos_iff.2 hg
       rw[if_pos (decide_eq_true (by omega))]
       by_cases h2:(cm t.guard c.vars real).2=0
       · rw[if_neg (by rw[h2];decide)]
         by_cases h1:(cm t.guard c.vars real).1=2
         · rw[if_neg (by rw[h1];decide)]
           exact⟨fun h=>⟨rfl,rfl,.inr ⟨h2,h1⟩,h⟩,fun h=>h.2.2.2⟩
         · rw[if_pos (by simpa using h1)]
           exact⟨fun h=>absurd h (by decide),fun h=>(h.2.2.1.elim hg fun h=>h1 h.2).elim⟩
       · rw[if_pos (by simpa using h2)]
         exact⟨fun h=>absurd h h2,fun h=>(h.2.2.1.elim hg fun h=>h2 h.1).elim⟩
 ·rw[if_pos rfl];exact⟨fun h=>absurd h (by decide),fun h=>(by cases h.1)⟩
theorem dP(c:Chart):jx c=true↔c.events.length≤12∧c.vars.length≤8∧c.states.length≤40∧c.trans.length≤48:=by
 unfold jx
 simp only[af,decide_eq_true_eq]
 omega
/-! ### its names are found -/
theorem Oc{c:Chart}(v:Valid c){i:Nat}(hi:i<c.trans.length)(h:(ETy.get .tran c.trans i).dst≠[]):0≤aF c.states (ETy.get .tran c.trans i).dst:=by
 have h0:=((mE c i _ _).1 (v.trans i hi)).2.2.2
 unfold fI at h0
 rw[if_pos (by simpa using h)]at h0
 split at h0
 ·exact absurd h0 (by decide)
 · rename_i h2
   have:=of_decide_eq_false (cG _ ▸ h2)
   omega
end Go.Proofs.YtlhgnjmdopjpeaaGreatDoor
