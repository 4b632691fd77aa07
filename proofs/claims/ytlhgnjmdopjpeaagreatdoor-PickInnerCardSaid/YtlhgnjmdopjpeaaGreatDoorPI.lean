/- An executor for function bodies of the model over data, part PI: slices that the call owns: cut short, appended to. Conditions: each operation's own, told as a proposition. -/
import Derived.Test.YtlhgnjmdopjpeaaGreatDoorPH
import Derived.Laws.BytesString
import Derived.Laws.Cells
namespace Go.Ev
open Go.RowKit
structure Src where
 own:Option Nat
 t:ETy
 l:List t.den
def Hn(st:ST):SX→Option Src
 | .c (.own j)=>match st.ck[j]? with
   |some (.own _ t l)=>some ⟨some j,t,l⟩
   |_=>none
 |.c (.pd (.lst t l))=>some ⟨none,t,l⟩
 |_=>none
inductive Head where
 |nil
 |own (k:Nat) (e:TypeId) (t:ETy) (l:List t.den)
def GA(st:ST):SX→Option Head
 | .c (.own k)=>match st.ck[k]? with
   |some (.own e t l)=>some (.own k e t l)
   |_=>none
 |.c (.pd (.v (.slice none 0 0)))=>some .nil
 |_=>none
def eqO(x:Option Nat)(k:Nat):Bool:=match x with |some j=>Nat.beq j k |none=>false
def room(n:Nat)(bytes:Nat):Prop:=n * bytes≤140737488355328∧n≤maxLen
def strOf:List Int→Str
 |[]=>[]
 |n::r=>UInt8.ofNat n.toNat::strOf r
def opX (P : Program) (st:ST):Op→Option (Option Prop×SX×List Chunk)
 | .slice t x none (some h) none=>match bt st none x,P.underlying t,lW (bt st none h)with
   | some (.c (.own k)),some (.slice e0),some m=>match st.ck[k]?,gE P e0 with
     |some (.own e ty l),some _=>bif st.wf then some (some (0≤m∧m≤l.length),.c (.own st.ck.length),cZ (some k) st.ck++[.own e ty (l.take m.toNat)])else none
     |_,_=>none
   |_,_,_=>none
 | .call { callee:=.builtin .append,args:=args,argTypes:=ts} =>
   match args.toList,ts.toList with
   | [x, y], [t,t']=>match(bt st none x).bind (GA st),(bt st none y).bind (Hn st),P.underlying t with
     | some hd,some ⟨so,ty,ly⟩,some (.slice e)=>match P.info? e with
       | some i=>match i.zero with
         | some z =>
           bif Nat.beq t t'&&st.wf&&Nat.beq ty.size i.size&&Nat.beq z.cells.toList.length i.size then
            match hd with
            | .own k ek tk lk=>bif Nat.beq ek e && !eqO so k then
               if h:ty=tk then some (some (room (lk++(h ▸ ly:List tk.den)).length i.bytes),.c (.own st.ck.length),cZ (some k) st.ck++[.own e tk (lk++(h ▸ ly:List tk.den))])else none
              else none
            |.nil=>some (some (room ly.length i.bytes),.c (.own st.ck.length),cZ none st.ck++[.own e ty ly])
           else none
         |none=>none
       |none=>none
     |_,_,_=>none
   |_,_=>none
 | .convert src dst x=>match P.underlying src,P.underlying dst,(bt st none x).bind (Hn st)with
   | some (.slice e),some .string,some ⟨_,.byte,l⟩=>match P.underlying e with
     |some (.int .u8)=>some (none,.c (.pd (.str (strOf l))),st.ck)
     |_=>none
   |_,_,_=>none
 |_=>none
section
variable{Γ:Ctx}{P:Program}{st:ST}{V:Vn}{a:Act}{w:World}
theorem pZ{t ty e:TypeId}{i:TypeInfo}{z:Value}{size:Nat}(ht:P.underlying t=some (.slice e))(hi:P.info? e=some i)(hz:i.zero=some z)
 (hsize:i.size=size) (hzs:z.cells.size=size) (hsz:0<size) {v:Value} {n:Nat} {xs:List Value} (hown:w.ownsRow 0 e size v n xs)
 {ao:Option Addr} {m c:Nat} {news:List Value} (hl:news.length=m * size) (hnone:ao=none→m=0∧c=0) (hnews:∀ad,ao=some ad→∀(j:Nat) u,news[j]?=some u→w.cell? (ad.add j)=some u)
 (h1:∀u∈news,u.oneCell'=true) (h63:n+m≤maxLen) (hbytes:(n+m) * i.bytes≤140737488355328) :
 ∃v' w',(Builtin.append_ #[t,t] ty #[v,.slice ao m c]).run P w = .ok v' w'∧w'.ownsRow 0 e size v' (n+m) (xs++news)∧w.grownBy w' v.ownBlock∧∀b,v'.ownBlock=some b→v.ownBlock=some b∨w.heap.size≤b:=by
 cases ao with
 | none =>
   obtain⟨rfl,rfl⟩:=hnone rfl
   have hn:news=[]:=bE (by simpa using hl)
   subst hn
   refine⟨v,w,?_,by simpa using hown,World.grownBy.refl _ _,fun b hb=>.inl hb⟩
   exact run_append_owned_none (P:=P) w 0 t ty e i size ht hi v n xs hown
 | some ad =>
   obtain⟨v',w',hr,ho,hg,_⟩:=run_append_own (P:=P) w 0 t ty e i z size i.bytes ht hi hz hsize rfl hzs hsz v n xs hown ad m c news hl (hnews ad rfl) h1 h63 hbytes (aS _)
   refine⟨v',w',hr,ho,hg,?_⟩
   rcases hown.2 with⟨rfl,rfl⟩ |⟨g,cap,cur,rfl,hbg,hgg,hnc,hcm,hcs,htake⟩
   · have hx:xs=[]:=bE (by simpa using hown.1)
     subst hx
     obtain⟨v2,w2,hr2,ho2,_,_⟩:=run_append_own (P:=P) w w.heap.size t ty e i z size i.bytes ht hi hz hsize rfl hzs hsz _ 0 [] (World.ownsRow_nil _ _ _ _) ad m c news hl (hnews ad rfl) h1 h63 hbytes (av _)
     rw[hr]at hr2
     simp only[Result.ok.injEq]at hr2
     obtain⟨rfl,rfl⟩:=hr2
     intro b hb
     exact .inr (ho2.lt b hb).1
   · by_cases hroom:n+m≤cap
     · obtain⟨w2,hr2,_,_⟩:=run_append_fits (P:=P) w 0 t ty e i size ht hi hsize g n cap xs hown ad m c news hl (hnews ad rfl) h1 hroom
       rw[hr]at hr2
       simp only[Result.ok.injEq]at hr2
       obtain⟨rfl,rfl⟩:=hr2
       intro b hb
       exact .inl hb
     · have h64:((n+m:Nat):Int)≤9223372036854775807:=by unfold maxLen at h63;omega
       have hr2:=run_append_grow (P:=P) w t ty e i z ht hi hz ⟨g,0,none⟩ n cap xs (by rw[hsize];exact hown.1) (hown.cells (g:=g) rfl) ad m c news (by rw[hsize];exact hl) (hnews ad rfl) (by omega) h64 (growslice_fits (by omega) hbytes)
       rw[hr]at hr2
       simp only[Result.ok.injEq]at hr2
       obtain⟨rfl,rfl⟩:=hr2
       intro b hb
       simp only[Value.ownBlock,aa]at hb
       exact .inr (by omega)
theorem vW (r:Rel Γ st V a w) {sx:SX} {s:Src} (h:Hn st sx=some s) {u:Value} (hu:sx.R V u) :
 ∃ao c us,u = .slice ao s.l.length c∧(ao=none→s.l.length=0∧c=0)∧All2 (PR V.H) (s.l.flatMap s.t.enc) us∧∀ad,ao=some ad→∀(j:Nat) v,us[j]?=some v→w.cell? (ad.add j)=some v:=by
 unfold Hn at h
 split at h
 · rename_i j
   split at h
   · rename_i e t l hck
     simp only[aa]at h;subst h
     obtain⟨xs,h1,h2,h3⟩:=r.wok.own j _ hck
     have hu':u=V.ov j:=hu
     rcases h1.2 with⟨q1,q2⟩ |⟨g,cap,cur,q1,q2⟩
     ·exact⟨none,0,xs,by rw[hu',q1];simp only[q2],fun _=>⟨q2,rfl⟩,h2,fun ad h=>by cases h⟩
     · refine⟨some ⟨g,0,none⟩,cap,xs,by rw[hu',q1],(fun h=>by cases h),h2,fun ad had i v hv=>?_⟩
       simp only[aa]at had
       subst had
       exact h1.cells (g:=g) (by rw[q1];rfl) i v hv
   ·simp at h
 · rename_i t l
   simp only[aa]at h;subst h
   have hu':PR V.H (.lst t l) u:=hu
   cases hu' with
   |emp _ ao cap hn=>exact⟨ao,cap,[],rfl,fun h=>⟨rfl,hn h⟩,.nil,fun ad _ j v hv=>by simp at hv⟩
   | lst _ _ b off cap cells e fr hb hc hm hs hh =>
     have hw:=r.wok.imm _ _ hb
     refine⟨_,cap,(cells.toList.drop off).take (l.length * t.size),rfl,(fun h=>by cases h),All2.of (by rw[lz];simp;omega) fun k p u hp hu=>?_,fun ad had j v hv=>?_⟩
     · have hk:k<l.length * t.size:=by have:=(List.getElem?_eq_some_iff.1 hp).1;rwa[lz]at this
       have hpos:=t.size_pos
       have hq:k / t.size<l.length:=Nat.div_lt_of_lt_mul (by rw[Nat.mul_comm];exact hk)
       have hmod:k % t.size<t.size:=Nat.mod_lt _ hpos
       have hkk:k / t.size * t.size+k % t.size=k:=Nat.div_add_mod' k t.size
       have hx:=ETy.getElem?_get hq
       have hp':(t.enc (t.get l (k / t.size)))[k % t.size]?=some p:=by
        have hlt:k % t.size<(t.enc (t.get l (k / t.size))).length:=by rw[t.enc_length];exact hmod
        have:=mX hx (List.getElem?_eq_getElem hlt)
        rw[hkk,hp]at this
        rw[List.getElem?_eq_getElem hlt,this]
       refine hh _ _ hx _ _ hp' u ?_
       rw[List.getElem?_take,if_pos hk,List.getElem?_drop]at hu
       rw[gG,hkk];simpa using hu
     · simp only[aa]at had
       subst had
       rw[List.getElem?_take]at hv
       split at hv
       · rw[List.getElem?_drop]at hv
         rw[addr_add]
         simp only[World.cell?,hw]
         simpa using hv
       ·cases hv
 ·simp at h
theorem nU{x y:Operand}{t:TypeId}{dst:Option Tmp}{ty:TypeId}{pos:String}{after:Array Edge}{guard:Option (Nat×Bool)}{vx vy v':Value}{w':World}
 (ex:a.eval x=vx) (ey:a.eval y=vy) (hr:(Builtin.append_ #[t,t] ty #[vx,vy]).run P w = .ok v' w') :
 (execOp a.eval ⟨dst,.call {callee:=.builtin .append,args:=#[x,y],argTypes:=#[t,t]},ty,pos,after,guard⟩).run P w = .ok (.value v') w':=by
 simp only[execOp,resolve,Sem.run_bind,run_pure',Result.andThen_ok,invoke,builtin,de,aq,cb,ex,ey,hr]
theorem EN{H:Mem}{ps:List PD}{us:List Value}(h:All2 (PR H) ps us):∀u∈us,u.oneCell'=true:=by
 intro u hu
 obtain⟨i,hi⟩:=List.getElem?_of_mem hu
 obtain⟨p,_,h2⟩:=h.get' hi
 exact h2.one
theorem fold_push:∀(ns:List Int) (b:List UInt8),ns.foldl (fun(r:ByteArray) n=>r.push (UInt8.ofNat n.toNat)) (bs b)=bs (b++strOf ns)
 |[],b=>by simp[strOf]
 | n::r,b=>by
   have e:(bs b).push (UInt8.ofNat n.toNat)=bs (b++[UInt8.ofNat n.toNat]):=by simp[bs,ByteArray.push]
   rw[bT,e,fold_push r,strOf];simp
theorem xr{H:Mem}:∀{l:List Int} {us:List Value},All2 (PR H) (List.flatMap (ETy.enc .byte) l) us→us=l.map (Value.int .u8)
 |[],us,h=>by cases h;rfl
 | n :: r,us,h=>by
   have e:List.flatMap (ETy.enc .byte) (n::r) = .int .u8 n::List.flatMap (ETy.enc .byte) r:=rfl
   rw[e]at h
   cases h with
   | cons h1 h2 =>
     cases h1
     rw[xr h2];rfl
set_option maxHeartbeats 400000 in
theorem yj (r:Rel Γ st V a w) {o:Oper} {p:Option Prop} {sx:SX} {ck':List Chunk} (h:opX P st o.op=some (p,sx,ck')) (hp:Holds p) :
 ∃v w' V',(execOp a.eval o).run P w = .ok (.value v) w'∧sx.R V' v∧Rel Γ {st with ck:=ck'} V' a w':=by
 obtain⟨dst,op,ty,pos,after,guard⟩:=o
 simp only at h
 unfold opX at h
 split at h
 · rename_i t x hi
   split at h
   · rename_i k e0 m hx hu hm
     split at h
     · rename_i e ty' l sz0 hck hsz0
       cases hwf:st.wf
       ·rw[hwf]at h;simp at h
       · rw [hwf]at h
         simp only[cond_true,aa,ae]at h
         obtain⟨rfl,rfl,rfl⟩:=h
         simp only[Holds]at hp
         have e1:a.eval x=V.ov k:=aJ r (g:=none) trivial hx
         obtain⟨kk,e2⟩:=eQ r (g:=none) trivial hm
         obtain⟨xs,hown,hrows,hblk⟩:=r.wok.own k _ hck
         have hle:m.toNat≤l.length:=by omega
         have htl:(l.take m.toNat).length=m.toNat:=by rw[a6];omega
         obtain⟨ao,cp,e3,hcap,hrow⟩:∃ao cp,V.ov k = .slice ao l.length cp∧l.length≤cp∧w.ownsRow 0 e ty'.size (.slice ao m.toNat cp) m.toNat (xs.take (m.toNat * ty'.size)):=by
          have hl:(xs.take (m.toNat * ty'.size)).length=m.toNat * ty'.size:=by
           rw[a6,hown.1];exact dw (bQ _ hle)
          rcases hown.2 with⟨h1,h2⟩ |⟨g,cap,cur,h1,h2,h3,h4,h5,h6,h7⟩
          · have:m.toNat=0:=by omega
            exact⟨none,0,by rw[h1,h2],by omega,by rw[this]at hl ⊢;exact⟨hl,.inl ⟨rfl,rfl⟩⟩⟩
          · refine⟨some ⟨g,0,none⟩,cap,h1,h4,hl,.inr ⟨g,cap,cur,rfl,h2,h3,by omega,h5,h6,?_⟩⟩
            rw[←h7,fc,dw (bQ _ hle)]
         have hrun:=pU (P:=P) (w:=w) (ao:=ao) (n:=l.length) (lo:=none) (hi:=some (.int kk m)) (l:=0) (h:=m.toNat) (cp:=cp) hu hsz0 (CK (.inl ⟨rfl,rfl⟩) (.inr ⟨kk,m,rfl,hp.1,by omega,rfl⟩))
         have hadd:(if cp=0 then ao else Option.map (fun x=>x.add (0 * sz0)) ao)=ao:=by
          split
          ·rfl
          ·cases ao <;> simp[Addr.add]
         rw[hadd]at hrun
         simp only[Nat.sub_zero]at hrun
         obtain⟨V',hag,hH,g1,g2,r'⟩:=r.grow hwf (some k) (c:=.own e ty' (l.take m.toNat)) (v':=.slice ao m.toNat cp) (s':=V.σ k) (w':=w) (row:=(V.ov k).ownBlock) (fun b hb=>⟨k,_,rfl,hck,hb⟩) (World.grownBy.refl _ _) (fun V' hag hH f1 f2=>by
          refine⟨⟨xs.take (m.toNat * ty'.size),by rw[f2,htl];exact hrow,by rw[hH,lU];exact hrows.take _,fun b hb=>?_⟩,fun b hb=>.inl ?_⟩
          ·rw[f2]at hb;rw[f1];exact hblk b (by rw[e3];cases ao with |none=>simp[Value.ownBlock]at hb |some x=>simpa[Value.ownBlock]using hb)
          ·simp only[Chunk.blk,f2]at hb;rw[e3];cases ao with |none=>simp[Value.ownBlock]at hb |some x=>simpa[Value.ownBlock]using hb)
         refine⟨_,w,V',?_,rfl,r'⟩
         rw[g2]
         simp only[execOp,e1,e2,e3,Option.map_none,bu]
         exact bo hrun
     ·simp at h
   ·simp at h
 · rename_i args ts
   split at h
   · rename_i x y t t' hargs hts
     split at h
     · rename_i hd so ty' ly e hx hy hu
       split at h
       · rename_i i hi
         split at h
         · rename_i z hz
           cases hb:(Nat.beq t t'&&st.wf&&Nat.beq ty'.size i.size&&Nat.beq z.cells.toList.length i.size)
           ·rw[hb]at h;simp at h
           · rw [hb] at h
             simp only[cond_true]at h
             simp only[af]at hb
             have q1:=ak hb.1.1.1
             have hwf:=hb.1.1.2
             have q3:=ak hb.1.2
             have q4:=ak hb.2
             have ea:args=#[x,y]:=by cases args;simp_all
             have et:ts=#[t,t']:=by cases ts;simp_all
             subst ea;subst et;subst q1
             simp only[bm]at hx hy
             obtain⟨sx,hx1,hx2⟩:=hx
             obtain⟨sy,hy1,hy2⟩:=hy
             have e1:=aJ r (g:=none) trivial hx1
             obtain⟨ao,c,us,e2,hn,hrows,hcells⟩:=vW r hy2 (aJ r (g:=none) trivial hy1)
             simp only at e2 hn hrows
             have hyl:us.length=ly.length * i.size:=by rw[←hrows.length,lz,q3]
             have hzz:z.cells.size=i.size:=by rw[←cl];exact q4
             have hpos:0<i.size:=by rw[←q3];exact ty'.size_pos
             split at h
             · rename_i k ek tk lk
               cases hb2:(Nat.beq ek e && !eqO so k)
               ·rw[hb2]at h;simp at h
               · rw [hb2]at h
                 simp only[cond_true]at h
                 split at h
                 · rename_i het
                   subst het
                   simp only[aa,ae]at h
                   obtain⟨rfl,rfl,rfl⟩:=h
                   simp only[af]at hb2
                   have p1:=ak hb2.1
                   subst p1
                   simp only[Holds,room]at hp
                   rw[au]at hp
                   have hck:st.ck[k]?=some (.own ek ty' lk)∧sx = .c (.own k):=by
                    unfold GA at hx2
                    split at hx2
                    · split at hx2
                      · rename_i hck
                        simp only[aa,Head.own.injEq]at hx2
                        obtain⟨rfl,rfl,rfl,hh⟩:=hx2
                        exact⟨by rw[hck,eq_of_heq hh],rfl⟩
                      ·simp at hx2
                    ·simp at hx2
                    ·simp at hx2
                   obtain⟨hck,rfl⟩:=hck
                   obtain⟨xs,hown,hxr,hblk⟩:=r.wok.own k _ hck
                   have e1':a.eval x=V.ov k:=e1
                   obtain⟨v',w',hr,ho,hg,hv⟩:=pZ (P:=P) (ty:=ty) hu hi hz rfl hzz hpos (by rw[←q3];exact hown) hyl hn hcells (EN hrows) hp.2 hp.1
                   obtain⟨V',hag,hH,g1,g2,r'⟩:=r.grow hwf (some k) (c:=.own ek ty' (lk++ly)) (v':=v') (s':=v'.ownBlock.getD 0) (fun b hb=>⟨k,_,rfl,hck,hb⟩) hg (fun V' hag hH f1 f2=>by
                    refine⟨⟨xs++us,by rw[f2,au,q3];exact ho,by rw[hH,List.flatMap_append];exact hxr.append hrows,fun b hb=>?_⟩,fun b hb=>hv b ?_⟩
                    ·rw[f2]at hb;rw[f1,hb];rfl
                    ·simpa only[Chunk.blk,f2]using hb)
                   refine⟨v',w',V',nU e1' e2 hr,g2.symm,r'⟩
                 ·simp at h
             · simp only[aa,ae]at h
               obtain⟨rfl,rfl,rfl⟩:=h
               simp only[Holds,room]at hp
               have e1':a.eval x = .slice none 0 0:=by
                unfold GA at hx2
                split at hx2
                ·split at hx2 <;> simp at hx2
                · generalize a.eval x=u at e1 ⊢
                  cases e1;rfl
                ·simp at hx2
               obtain⟨v',w',hr,ho,hg,hv⟩:=pZ (P:=P) (ty:=ty) (n:=0) (xs:=[]) hu hi hz rfl hzz hpos (World.ownsRow_nil w 0 e i.size) hyl hn hcells (EN hrows) (by rw[ba];exact hp.2) (by rw[ba];exact hp.1)
               rw[ba,cd]at ho
               obtain⟨V',hag,hH,g1,g2,r'⟩:=r.grow hwf none (c:=.own e ty' ly) (v':=v') (s':=v'.ownBlock.getD 0) (row:=none) (by simp) hg (fun V' hag hH f1 f2=>by
                refine⟨⟨us,by rw[f2,q3];exact ho,by rw[hH];exact hrows,fun b hb=>?_⟩,fun b hb=>?_⟩
                ·rw[f2]at hb;rw[f1,hb];rfl
                · have:=hv b (by simpa only[Chunk.blk,f2]using hb)
                  simpa[Value.ownBlock]using this)
               refine⟨v',w',V',nU e1' e2 hr,g2.symm,r'⟩
         ·simp at h
       ·simp at h
     ·simp at h
   ·simp at h
 · rename_i src dst' x
   split at h
   · rename_i e so l hs hd hx
     split at h
     · rename_i he
       simp only[aa,ae]at h
       obtain⟨rfl,rfl,rfl⟩:=h
       simp only[bm]at hx
       obtain⟨sx,hx1,hx2⟩:=hx
       obtain⟨ao,c,us,e2,hn,hrows,hcells⟩:=vW r hx2 (aJ r (g:=none) trivial hx1)
       have hu:=xr hrows
       refine⟨.string (bs (strOf l)),w,V,?_,PR.str _,r⟩
       simp only[execOp,e2]
       refine bo ?_
       rw[run_convert_bytes_string w src dst' e _ _ _ hs he hd]
       cases ao with
       | none =>
         have hl:l=[]:=bE (hn rfl).1
         subst hl
         rfl
       | some ad =>
         have hlen:us.length=l.length:=by rw[hu,aP]
         have hld:=run_loadCells_list (P:=P) (w:=w) ad us (hcells ad rfl)
         rw[hlen,hu]at hld
         rw[run_bytesToString w ad l.length c l hld]
         have:=fold_push l []
         rw[cd]at this
         exact congrArg (fun b=>Result.ok (Value.string b) w) this
     ·simp at h
   ·simp at h
 ·simp at h
end
end Go.Ev
