/- Own memory that is frozen by an operation, before it. -/
import Derived.Test.YtcdhlofhhcgohaaGreatxbPu
namespace Go.Proofs.YtcdhlofhhcgohaaGreat
open Go.RowKit
theorem DW_isnil {P:Program} {Q:Exit→St→Prop} {env:Env} {mem:Mem} {nt id:Nat} {t u v:Tmp} {T el:TypeId} {ty1 ty2:TypeId} {pos1 pos2:String} {af1 af2:Array Edge} {yt:TypeId} {n:Bool} {xs:List (List V)} [hu:SlcI P T el]
  (h:Env.at env u = .dat n (.slice xs)) (ht:Nat.blt t nt=true) (hv:Nat.blt v nt=true)
  (k1:xs=[]→Q .normal ⟨(v,.dat true (.bool true))::(t,.nil)::env,mem,nt⟩) (k2:Q .normal ⟨(v,.dat true (.bool false))::(t,.dat n (.slice xs))::env,mem,nt⟩) :
  DW P (.region id #[⟨some t,.move (.tmp u),ty1,pos1,af1,none⟩,⟨some v,.binOp .eql T (.tmp t) (.const (.slice none 0 0)) yt,ty2,pos2,af2,none⟩] false) Q ⟨env,mem,nt⟩:=by
 intro C a hh
 have hr:=hh.env u
 rw[show(St.mk env mem nt).env=env from rfl,h]at hr
 have hsl:∃ b l c,a.tmps.getD u undef = .slice b l c∧(b=none→xs=[]∧l=0∧c=0):=by
  have hr:Rd (C.D n) C.w (.slice xs) (a.tmps.getD u undef):=hr
  generalize a.tmps.getD u undef=x at hr
  cases hr with
  | nil=>exact⟨none,0,0,rfl,fun _=>⟨rfl,rfl,rfl⟩⟩
  | mt a cap hm=>exact⟨some a,0,cap,rfl,fun h=>by cases h⟩
  | slice _ b off cap sz cell=>exact⟨some _,_,_,rfl,fun h=>by cases h⟩
 obtain⟨b,l,c,hval,hnone⟩:=hsl
 have hev:a.eval (.tmp u) = .slice b l c:=hval
 have hlt:t<a.tmps.size:=by rw[hh.size];simpa[Nat.blt_eq]using ht
 refine wp_region_lit (l := [⟨some t,.move (.tmp u),ty1,pos1,af1,none⟩,⟨some v,.binOp .eql T (.tmp t) (.const (.slice none 0 0)) yt,ty2,pos2,af2,none⟩]) ?_
 refine wpList_step fun K hK=>?_
 rw[if_pos (by simp[Region.wanted])]
 refine wp_of_value (w':=C.w) (v := .slice b l c) (by simp[execOp,hev]) (hK _ _ ?_)
 refine wpList_step fun K2 hK2=>?_
 rw[if_pos (by simp[Region.wanted])]
 have hev2:(a.put (some t) (.slice b l c)).eval (.tmp t) = .slice b l c:=by
  show(a.put (some t) (.slice b l c)).tmps.getD t undef=_
  simp[Act.put,hlt]
 have hq:=run_equal_slice_nil (P:=P) C.w T el b l c hu.out
 have hb:binOp .eql T (.slice b l c) (.slice none 0 0)=(do pure (.bool (←Op.equal T (.slice b l c) (.slice none 0 0)))):=rfl
 have he:(a.put (some t) (.slice b l c)).eval (.const (.slice none 0 0)) = .slice none 0 0:=rfl
 refine wp_of_value (w':=C.w) (v := .bool b.isNone) (by simp[execOp,hev2,he,eqGuard,hb,hq]) (hK2 _ _ ?_)
 have mk:∀ d:D,RdD C mem d (.slice b l c)→Holds C ⟨(v,.dat true (.bool b.isNone))::(t,d)::env,mem,nt⟩ (((a.put (some t) (.slice b l c)).put (some v) (.bool b.isNone))):=fun d hd=>by
  have h1:=holds_put (wr := []) (val:=d) (v := .slice b l c) (dst:=some t) hh (Step.refl hh.mem) hd ht
  exact holds_put (wr := []) (val := .dat true (.bool b.isNone)) (v := .bool b.isNone) (dst:=some v) h1 (Step.refl hh.mem) mk_bool hv
 cases b with
 | none =>
  obtain⟨h1,h2,h3⟩:=hnone rfl
  subst h2 h3
  exact⟨C,_,rfl,k1 h1,mk .nil rfl,Ext.refl _ _⟩
 | some b =>
  refine⟨C,_,rfl,k2,mk (.dat n (.slice xs)) ?_,Ext.refl _ _⟩
  rw[←hval];exact hr
def DWin (P:Program) (c:Code) (Q:Exit→St→Prop) (s:St):Prop :=
 ∀ (C:Cf) (a:Act),Holds C s a→∀ b k cs,∃ e a' w',(∃ C' s',C'.w=w'∧Q e s'∧Holds C' s' a'∧Ext C s.mem C' s'.mem)∧Arrives P (lone (b.at a (.code c :: .inLoop c::k)) cs C.w) b k cs e a' w'
theorem DW_loopU {P:Program} {c:Code} {Q:Exit→St→Prop} {s:St} (h:DWin P c Q s):DW P (.loop c) Q s:=by
 intro C a hh b k cs
 obtain⟨e,a',w',hq,harr⟩:=h C a hh b k cs
 exact⟨e,a',w',hq,.of_steps (.one step_loop) harr⟩
theorem DWin_step {P:Program} {c:Code} {Q:Exit→St→Prop} {s:St} (h:DW P c (thenQ (DWin P c Q) Q) s):DWin P c Q s:=by
 intro C a hh b k cs
 obtain⟨e,a2,w2,⟨C2,s2,rfl,q2,h2,x2⟩,harr⟩:=h C a hh b (.inLoop c::k) cs
 cases e with
 | normal =>
  obtain⟨e4,a4,w4,⟨C4,s4,hw4,q4,h4,x4⟩,harr4⟩:=q2 C2 a2 h2 b k cs
  exact⟨e4,a4,w4,⟨C4,s4,hw4,q4,h4,x2.trans x4⟩,.of_steps (Steps.trans harr (.one step_inLoop)) harr4⟩
 | exit id=>exact⟨_,a2,_,⟨C2,s2,rfl,q2,h2,x2⟩,.pass (x := .inLoop c) rfl (fun _ _=>.inl (by simp)) harr⟩
 | goto l=>exact⟨_,a2,_,⟨C2,s2,rfl,q2,h2,x2⟩,.pass (x := .inLoop c) rfl (fun _ _=>.inl (by simp)) harr⟩
 | ret=>exact⟨_,a2,_,⟨C2,s2,rfl,q2,h2,x2⟩,.pass (x := .inLoop c) rfl (fun _ _=>.inl (by simp)) harr⟩
 | panic ch=>exact⟨_,a2,_,⟨C2,s2,rfl,q2,h2,x2⟩,.pass (x := .inLoop c) rfl (fun _ _=>.inl (by simp)) harr⟩
 | outgrown=>exact⟨_,a2,_,⟨C2,s2,rfl,q2,h2,x2⟩,.pass (x := .inLoop c) rfl (fun _ _=>.inl (by simp)) harr⟩
class CellsI {α:Type} (f:α→List V) (s:outParam Nat):Prop where
 len:∀ a,(f a).length=s
 one:∀ a,∀ d∈f a,d.one=true
class FlatI {α:Type} (f:α→List V):Prop where
 flat:∀ a,∀ d∈f a,Flat d
def byteV (b:UInt8):List V := [.int .u8 b.toNat]
instance : CellsI byteV 1:=⟨fun _=>rfl,fun _ d h=>by simp[byteV]at h;subst h;rfl⟩
instance : FlatI byteV:=⟨fun _ d h=>by simp[byteV]at h;subst h;exact .int _ _⟩
theorem bytesV_map (l:List UInt8):bytesV l=l.map byteV:=rfl
theorem map_el {α:Type} {f:α→List V} {s:Nat} [h:CellsI f s] (l:List α):∀ e∈l.map f,e.length=s∧∀ d∈e,d.one=true:=fun e he=>by
 obtain⟨a,_,rfl⟩:=List.mem_map.1 he
 exact⟨h.len a,h.one a⟩
theorem map_len {α:Type} {f:α→List V} {s:Nat} [h:CellsI f s] (l:List α):∀ e∈l.map f,e.length=s:=fun e he=>(map_el l e he).1
theorem map_flat {α:Type} {f:α→List V} [h:FlatI f] (l:List α):∀ e∈l.map f,∀ d∈e,Flat d:=fun e he=>by
 obtain⟨a,_,rfl⟩:=List.mem_map.1 he
 exact h.flat a
section
variable {P : Program} {e : Operand → D} {m : Mem} {dst : Option Tmp} {ty : TypeId} {pos : String} {af : Array Edge} {gd : Option (Nat × Bool)} {x y : Operand} {t : TypeId}
inductive AppR (m:Mem) (s:Nat):D→Bool→List (List V)→Prop
 | dat (n:Bool) (els:List (List V)):AppR m s (.dat n (.slice els)) n els
 | nil:AppR m s .nil true []
 | own (g ver lo len:Nat) (frz nw:Bool) (xs:List (List V)) (h:m.at g = .row ver frz nw s xs):AppR m s (.own g ver lo len) nw ((xs.drop lo).take len)
theorem AppR.d {α:Type} {f:α→List V} {s:Nat} [hf:CellsI f s] {m:Mem} {d:D} {n:Bool} {els:List (List V)} {bs:List α} (h:AppR m s d n els) (he:els=bs.map f):AppD m d s n (bs.map f):=by
 rw[←he]
 cases h with
 | dat n els=>exact .dat n _ s (by rw[he];exact map_len bs)
 | nil=>exact .nil s
 | own g ver lo len frz nw xs h=>exact .own g ver lo len s frz n xs h
theorem as_bool {op:Op} {rd:List Nat} {a b:Bool} (h:SStep P ⟨dst,op,ty,pos,af,gd⟩ e m rd (.dat true (.bool a)) []) (hb:a=b):SStep P ⟨dst,op,ty,pos,af,gd⟩ e m rd (.dat true (.bool b)) []:=by
 subst hb;exact h
theorem S_appM {α:Type} {f:α→List V} {us bs:List α} {g ver len s by_ el:Nat} {agg n nw nf:Bool} {zs:List V} [hu:SlcI P t el] [ht:TyI P el agg s by_ zs] [hf:CellsI f s]
  (h1:e x = .own g ver 0 len) (hmg:m.at g = .row ver false nw s (us.map f)) {els:List (List V)} (h2':AppR m s (e y) n els) (he:els=bs.map f) (hlx:len=us.length) (hnf:nf=(nw && n)∨(nf=nw∧FlatI f)) (hs:Nat.blt 0 s=true)
  (hb:(us.length+bs.length)*(by_+1)≤140737488355328) :
  SStep P ⟨dst,.call { callee := .builtin .append,args := #[x,y],argTypes := #[t,t] },ty,pos,af,gd⟩ e m (g::refs0 (e y)) (.own g (ver+1) 0 (us++bs).length) [(g,.row (ver+1) false nf s ((us++bs).map f))]:=by
 have hs:0<s:=by simpa[Nat.blt_eq]using hs
 have h2:=h2'.d he
 have go:∀ nf',(nf'=n∨FlatI f)→SStep P ⟨dst,.call { callee := .builtin .append,args := #[x,y],argTypes := #[t,t] },ty,pos,af,gd⟩ e m (g::refs0 (e y)) (.own g (ver+1) 0 (us++bs).length) [(g,.row (ver+1) false (nw && nf') s ((us++bs).map f))]:=fun nf' h=>by
  have:=S_appendA (P:=P) (t:=t) (el:=el) (by_:=by_) (zs:=zs) (agg:=agg) (dst:=dst) (ty:=ty) (pos:=pos) (af:=af) (gd:=gd) (nf:=nf') h1 hmg h2 (by simp[hlx]) (map_el bs) (h.imp id (fun h=>map_flat (h:=h) bs)) hs (by simpa[hlx]using hb)
  rw[List.length_append,List.map_append]
  simpa[hlx]using this
 rcases hnf with rfl|⟨rfl,hfl⟩
 ·exact go n (.inl rfl)
 ·have:=go true (.inr hfl)
  simpa using this
theorem S_appNM {α:Type} {f:α→List V} {bs:List α} {s by_ el:Nat} {agg n nf:Bool} {zs:List V} (g:Nat) [hu:SlcI P t el] [ht:TyI P el agg s by_ zs] [hf:CellsI f s]
  (h1:e x = .nil) {els:List (List V)} (h2':AppR m s (e y) n els) (he:els=bs.map f) (hnf:nf=n∨FlatI f) (hs:Nat.blt 0 s=true) (hb:bs.length*(by_+1)≤140737488355328) (hg:m.at g = .gone) :
  SStep P ⟨dst,.call { callee := .builtin .append,args := #[x,y],argTypes := #[t,t] },ty,pos,af,gd⟩ e m (refs0 (e y)) (.own g 1 0 bs.length) [(g,.row 1 false nf s (bs.map f))]:=by
 have hs:0<s:=by simpa[Nat.blt_eq]using hs
 have h2:=h2'.d he
 have:=S_appendN (P:=P) (t:=t) (el:=el) (by_:=by_) (zs:=zs) (agg:=agg) (dst:=dst) (ty:=ty) (pos:=pos) (af:=af) (gd:=gd) (nf:=nf) g h1 h2 (map_el bs) (hnf.imp id (fun h=>map_flat (h:=h) bs)) hs (by simpa using hb) hg
 simpa using this
theorem S_storeM {α:Type} {f:α→List V} {us:List α} {u a:α} {agg nw n nf:Bool} {s by_ g ver i off sz:Nat} {zs:List V} {vs:List V} [ht:TyI P t agg s by_ zs] [hf:CellsI f sz] (h:e x = .rptr g ver i off) (hmg:m.at g = .row ver false nw sz (us.map f)) (he:us[i]? = some u)
  (hd:D.vcells m (e y)=some (n,vs)) (hset:spliceV (f u) off vs=f a) (hnf:nf=(nw && n)∨(nf=nw∧FlatI f)) (hl:vs.length=s) (hle:Nat.ble (off+s) sz=true) :
  SStep P ⟨none,.store t x y,ty,pos,af,gd⟩ e m (g::refs m (e y)) .any [(g,.row ver false nf sz ((us.set i a).map f))]:=by
 have hle':=Nat.le_of_ble_eq_true hle
 have hvs:∀ d∈vs,d∈f a:=fun d hd=>by
  rw[←hset]
  unfold spliceV
  exact List.mem_append.2 (.inr (List.mem_append.2 (.inl hd)))
 have h1:vs.all V.one=true:=List.all_eq_true.2 (fun d hd=>hf.one a d (hvs d hd))
 have he':(us.map f)[i]? = some (f u):=by simp[he]
 have hel:Nat.ble (off+s) (f u).length=true:=by rw[hf.len];exact hle
 have hrow:(us.map f).set i (spliceV (f u) off vs)=(us.set i a).map f:=by rw[hset,List.map_set]
 have go:∀ nf',(nf'=n∨∀ d∈vs,Flat d)→SStep P ⟨none,.store t x y,ty,pos,af,gd⟩ e m (g::refs m (e y)) .any [(g,.row ver false (nw && nf') sz ((us.set i a).map f))]:=fun nf' hq=>by
  rw[←hrow]
  exact S_storeR (nf:=nf') h hmg he' hd hq h1 hl hel
 rcases hnf with rfl|⟨rfl,hfl⟩
 ·exact go n (.inl rfl)
 ·have:=go true (.inr (fun d hd=>hfl.flat a d (hvs d hd)))
  simpa using this
theorem S_appND {α:Type} {f:α→List V} {bs:List α} {s by_ el:Nat} {agg n nf:Bool} {zs:List V} [hu:SlcI P t el] [ht:TyI P el agg s by_ zs] [hf:CellsI f s]
  (h1:e x = .nil) {els:List (List V)} (h2':AppR m s (e y) n els) (he:els=bs.map f) (hnf:nf=n∨FlatI f) (hs:Nat.blt 0 s=true) (hb:bs.length*(by_+1)≤140737488355328) :
  SStep P ⟨dst,.call { callee := .builtin .append,args := #[x,y],argTypes := #[t,t] },ty,pos,af,gd⟩ e m (refs0 (e y)) (.dat nf (.slice (bs.map f))) []:=by
 have hs:0<s:=by simpa[Nat.blt_eq]using hs
 intro C m' a next Q ha hm hx hn
 have g1:=hx x (by simp[Op.operands,Call.operands]);rw[h1]at g1
 have g2:=hx y (by simp[Op.operands,Call.operands])
 have hv:a.eval x = .slice none 0 0:=g1
 have hsl:=appD_rd hm (fun g' hg'=>ha g' (.inl hg')) (h2'.d he) g2
 have hexec:∀ {v:Value} {w':World},(Builtin.append_ #[t,t] ty #[a.eval x,a.eval y]).run P C.w = .ok v w' →
   (execOp a.eval ⟨dst,.call { callee := .builtin .append,args := #[x,y],argTypes := #[t,t] },ty,pos,af,gd⟩).run P C.w = .ok (.value v) w':=fun h=>by
  simp[execOp,resolve,invoke,builtin,h]
 rcases hsl with⟨h0,ay,cy,hy⟩|⟨h0,b2,off,cy,hy,hcell⟩
 ·refine wp_of_value (hexec (v := .slice none 0 0) (by rw[hv,hy];exact run_append_zero hu.out ht (Nat.le_refl _))) (hn _ C (Step.refl hm) ?_)
  rw[h0]
  exact Rd.nil
 ·have hmpos:0<(bs.map f).length:=List.length_pos_iff.2 h0
  have hel':∀ (i:Nat) (e:List V),(bs.map f)[i]? = some e→e.length=s:=fun i e h=>(map_el bs e (List.mem_of_getElem? h)).1
  let news:List Value:=(List.range ((bs.map f).length*s)).map fun q=>(C.w.cell? ⟨b2,off+q,none⟩).getD undef
  have hnl:news.length=(bs.map f).length*s:=by simp[news]
  have hat:∀ q,q<(bs.map f).length*s→∃ c,C.w.cell? ⟨b2,off+q,none⟩=some c∧news[q]? = some c∧c.oneCell'=true:=fun q hq=>by
   obtain⟨k1,k2,k3⟩:=split_idx hs hq
   have he:=List.getElem?_eq_getElem k1
   have hl:=hel' _ _ he
   obtain⟨c,c1,_,c3⟩:=hcell (q / s) (q % s) _ _ he (List.getElem?_eq_getElem (by omega))
   rw[Nat.add_assoc,←k3]at c1
   refine⟨c,c1,?_,c3⟩
   have hq':q<bs.length*s:=by simpa using hq
   simp[news,hq',c1]
  have hnews:∀ j u,news[j]? = some u→C.w.cell? ((⟨b2,off,none⟩:Addr).add j)=some u:=fun j u hj=>by
   have hlt:j<(bs.map f).length*s:=by rw[←hnl];exact(List.getElem?_eq_some_iff.1 hj).1
   obtain⟨c,c1,c2,_⟩:=hat j hlt
   rw[hj]at c2
   injection c2 with c2
   rw[aadd,c1,c2]
  have hone:∀ u∈news,u.oneCell'=true:=fun u hu'=>by
   obtain⟨j,hj⟩:=List.getElem?_of_mem hu'
   have hlt:j<(bs.map f).length*s:=by rw[←hnl];exact(List.getElem?_eq_some_iff.1 hj).1
   obtain⟨c,_,c2,c3⟩:=hat j hlt
   rw[hj]at c2
   injection c2 with c2
   rw[c2];exact c3
  have hb1:(0+(bs.map f).length)*by_≤140737488355328:=by
   have:bs.length*by_≤bs.length*(by_+1):=Nat.mul_le_mul_left _ (Nat.le_succ _)
   simp;omega
  have hb2:bs.length≤140737488355328:=by
   have:bs.length*1≤bs.length*(by_+1):=Nat.mul_le_mul_left _ (by omega)
   omega
  obtain⟨v',w',b',cap',cur,r1,r2,r3,r4,r5,r6,r7,r8,r9⟩:=run_append_any (P:=P) (w:=C.w) (ty:=ty) (c:=cy) (ao:=none) (len:=0) (cap:=0) (olds := []) hu.out ht hs (fun _=>⟨rfl,rfl⟩) (by simp) (fun b hb=>by cases hb) hnl hnews hmpos hone (by omega) (by unfold maxLen;simp;omega) hb1
  rw[Nat.zero_add]at r2 r6 r9
  have hst:=step_dat (w:=w') (fun k=>k=b') hm r4 (fun k hk=>by subst hk;exact⟨r3,(Array.getElem?_eq_some_iff.1 r5).1⟩)
  refine wp_of_value (hexec (v:=v') (w':=w') (by rw[hv,hy];exact r1)) (hn v' _ hst ?_)
  have hcur:∀ q,q<(bs.map f).length*s→cur[q]? = news[q]? := fun q hq=>by
   have:=congrArg (fun l=>l[q]?) r9
   simp only[List.nil_append]at this
   rw[List.getElem?_take,if_pos hq,Array.getElem?_toList]at this
   exact this
  have hcell2:∀ (i j:Nat) (e':List V) (d:V),(bs.map f)[i]? = some e'→e'[j]? = some d→cur[i*s+j]? = some (cur.getD (i*s+j) undef)∧news[i*s+j]? = some (cur.getD (i*s+j) undef):=fun i j e' d hi hj=>by
   have h1:i<(bs.map f).length:=(List.getElem?_eq_some_iff.1 hi).1
   have h2:j<s:=by rw[←hel' i e' hi];exact(List.getElem?_eq_some_iff.1 hj).1
   have hlt:i*s+j<(bs.map f).length*s:=idx_lt h1 h2
   obtain⟨c,_,c2,_⟩:=hat _ hlt
   rw[←hcur _ hlt]at c2 ⊢
   have:cur.getD (i*s+j) undef=c:=by rw[Array.getD_eq_getD_getElem?,c2];rfl
   rw[this]
   exact⟨c2,c2⟩
  rw[r2]
  refine Rd.slice (S:=(C.put (fun k=>k=b') w').D nf) (w:=w') (bs.map f) b' 0 cap' s (fun i j=>cur.getD (i*s+j) undef) r6 r7 hel'
   (fun i j e' d hi hj=>(map_el bs e' (List.mem_of_getElem? hi)).2 d (List.mem_of_getElem? hj)) (fun _=>by cases nf<;>exact .inr rfl)
   (fun i j e' d hi hj=>by rw[cell_of_arr r5,Nat.zero_add];exact(hcell2 i j e' d hi hj).1) (fun i j e' d hi hj=>?_)
  obtain⟨c,c1,c2,_⟩:=hcell i j e' d hi hj
  have h5:=hnews _ _ (hcell2 i j e' d hi hj).2
  rw[aadd,←Nat.add_assoc,c1]at h5
  injection h5 with h5
  rw[←h5]
  rcases hnf with rfl|hfl
  ·exact RdF.mono c2 hm hst.ext
  ·obtain⟨x0,_,hx2⟩:=List.mem_map.1 (List.mem_of_getElem? hi)
   exact RdF.flat c2 (hfl.flat x0 d (by rw[hx2];exact List.mem_of_getElem? hj))
theorem S_ixM {α:Type} {f:α→List V} {us:List α} {n n':Bool} {k:IntKind} {i:Int} {el s by_:Nat} {agg:Bool} {zs:List V} {u:α} [hu:SlcI P t el] [ht:TyI P el agg s by_ zs] [hf:CellsI f s]
  (h1:e x = .dat n (.slice (us.map f))) (h2:e y = .dat n' (.int k i)) (hi:0≤i) (hc:us[i.toNat]? = some u) :
  SStep P ⟨dst,.indexAddr t x y,ty,pos,af,gd⟩ e m [] (.dat n (.rp (f u))) []:=S_ix_slice h1 h2 hi (by simp[hc]) (hf.len u)
theorem S_ixO {α:Type} {f:α→List V} {us:List α} {n':Bool} {k:IntKind} {i:Int} {el s by_ g ver len:Nat} {agg frz nw:Bool} {zs:List V} [hu:SlcI P t el] [ht:TyI P el agg s by_ zs]
  (h1:e x = .own g ver 0 len) (h2:e y = .dat n' (.int k i)) (hm:m.at g = .row ver frz nw s (us.map f)) (hi:0≤i) (hc:i<len) :
  SStep P ⟨dst,.indexAddr t x y,ty,pos,af,gd⟩ e m [g] (.rptr g ver i.toNat 0) []:=by
 have:=S_ix_own (P:=P) (t:=t) (el:=el) (by_:=by_) (zs:=zs) (agg:=agg) (dst:=dst) (ty:=ty) (pos:=pos) (af:=af) (gd:=gd) h1 h2 hm hi hc
 rwa[Nat.zero_add]at this
theorem S_mkM {α:Type} {f:α→List V} {el s by_ l c:Nat} {agg n1 n2:Bool} {k1 k2:IntKind} {zs:List V} {a b:Int} (z:α) (g:Nat) [hu:SlcI P t el] [ht:TyI P el agg s by_ zs] (h1:e x = .dat n1 (.int k1 a)) (h2:e y = .dat n2 (.int k2 b)) (ha:a=(l:Int)) (hb:b=(c:Int)) (hlc:l≤c)
  (hby:c*(by_+1)≤140737488355328) (hz:f z=zs) (hg:m.at g = .gone) :
  SStep P ⟨dst,.makeSlice t x y,ty,pos,af,gd⟩ e m [] (.own g 0 0 l) [(g,.row 0 false true s ((List.replicate l z).map f))]:=by
 have:=S_mkSlice (P:=P) (t:=t) (el:=el) (by_:=by_) (zs:=zs) (agg:=agg) (dst:=dst) (ty:=ty) (pos:=pos) (af:=af) (gd:=gd) g h1 h2 ha hb hlc hby hg
 rw[List.map_replicate,hz]
 exact this
end
end Go.Proofs.YtcdhlofhhcgohaaGreat
namespace Go.Proofs.YtcdhlofhhcgohaaGreat
open Go.RowKit
inductive Stp : Prop→Prop→Prop
 | seq {P:Program} {x y:Code} {Q:Exit→St→Prop} {s:St}:Stp (DW P x (thenQ (DW P y Q) Q) s) (DW P (.seq x y) Q s)
 | region {P:Program} {id:Nat} {l:List Oper} {Q:Exit→St→Prop} {s:St}:Stp (DOps P l.toArray l s [] (fun _ s'=>Q .normal s')) (DW P (.region id l.toArray false) Q s)
 | draw {P:Program} {id:Nat} {l:List Oper} {Q:Exit→St→Prop} {s:St}:Stp (DOps P l.toArray l s [] (fun acc s'=>chk l acc=true∧Q .normal s')) (DW P (.region id l.toArray true) Q s)
 | nilP {P:Program} {ops:Array Oper} {Q:Exit→St→Prop} {s:St} {acc:List (List Nat×List Nat)}:Stp (Q .normal s) (DOps P ops [] s acc (fun _ s'=>Q .normal s'))
 | tn {K:St→Prop} {Q:Exit→St→Prop} {s:St}:Stp (K s) (thenQ K Q .normal s)
 | te {K:St→Prop} {Q:Exit→St→Prop} {s:St} {id:Nat}:Stp (Q (.exit id) s) (thenQ K Q (.exit id) s)
 | tr {K:St→Prop} {Q:Exit→St→Prop} {s:St}:Stp (Q .ret s) (thenQ K Q .ret s)
 | block {P:Program} {id:Nat} {c:Code} {Q:Exit→St→Prop} {s:St}:Stp (DW P c (inBlk id Q) s) (DW P (.block id c) Q s)
 | bn {id:Nat} {Q:Exit→St→Prop} {s:St}:Stp (Q .normal s) (inBlk id Q .normal s)
 | br {id:Nat} {Q:Exit→St→Prop} {s:St}:Stp (Q .ret s) (inBlk id Q .ret s)
 | le {X:Type} {inv:X→St} {R:X→Prop} {μ:X→Nat} {x:X} {Q:Exit→St→Prop} {s:St} {id:Nat}:Stp (Q (.exit id) s) (loopQ inv R μ x Q (.exit id) s)
 | lr {X:Type} {inv:X→St} {R:X→Prop} {μ:X→Nat} {x:X} {Q:Exit→St→Prop} {s:St}:Stp (Q .ret s) (loopQ inv R μ x Q .ret s)
 | ret {P:Program} {Q:Exit→St→Prop} {s:St}:Stp (Q .ret s) (DW P .ret Q s)
 | exit {P:Program} {Q:Exit→St→Prop} {s:St} {id:Nat}:Stp (Q (.exit id) s) (DW P (.exit id) Q s)
 | skip {P:Program} {Q:Exit→St→Prop} {s:St}:Stp (Q .normal s) (DW P .skip Q s)
theorem Wa {p q:Prop} (a:Stp p q) (k:p):q:=by
 cases a with
 | seq=>exact DW_seq k
 | region=>exact DW_region k
 | draw=>exact DW_draw k
 | nilP=>exact dnilP k
 | tn=>exact then_normal k
 | te=>exact then_exit k
 | tr=>exact then_ret k
 | block=>exact DW_block k
 | bn=>exact blk_normal k
 | br=>exact blk_ret k
 | le=>exact loop_exit k
 | lr=>exact loop_ret k
 | ret=>exact DW_ret k
 | exit=>exact DW_exit k
 | skip=>exact DW_skip k
inductive Put (env:Env) (mem:Mem):Option Tmp→D→Mem→Env→Mem→List Nat→Prop
 | p {t:Tmp} {d:D}:Put env mem (some t) d [] ((t,d)::env) mem []
 | m {t:Tmp} {d:D} {g:Nat} {b:Box}:Put env mem (some t) d [(g,b)] ((t,d)::env) ((g,b)::mem) [g]
 | s {d:D} {g:Nat} {b:Box}:Put env mem none d [(g,b)] env ((g,b)::mem) [g]
 | m2 {t:Tmp} {d:D} {g g2:Nat} {b b2:Box}:Put env mem (some t) d [(g,b),(g2,b2)] ((t,d)::env) ((g,b)::(g2,b2)::mem) [g,g2]
theorem Put.eq {env env':Env} {mem mem':Mem} {dst:Option Tmp} {d:D} {wr:Mem} {ks:List Nat} {n:Nat} (h:Put env mem dst d wr env' mem' ks):St.put ⟨env,mem,n⟩ dst d wr=⟨env',mem',n⟩∧wr.map (·.1)=ks:=by
 cases h<;>exact⟨rfl,rfl⟩
section
variable {P : Program} {ops : Array Oper} {r : List Oper} {env env' : Env} {mem mem' : Mem} {nt : Nat} {acc : List (List Nat × List Nat)} {K : List (List Nat × List Nat) → St → Prop} {rd ks : List Nat} {val : D} {wr : Mem}
 {dst:Option Tmp} {op:Op} {ty:TypeId} {pos:String} {af:Array Edge}
theorem dX (hd:dOK ⟨env,mem,nt⟩ dst=true) (h:SStep P ⟨dst,op,ty,pos,af,none⟩ (ev ⟨env,mem,nt⟩) mem rd val wr) (hp:Put env mem dst val wr env' mem' ks) (k:DOps P ops r ⟨env',mem',nt⟩ ((rd,ks)::acc) K) :
  DOps P ops (⟨dst,op,ty,pos,af,none⟩::r) ⟨env,mem,nt⟩ acc K:=by
 obtain⟨e1,e2⟩:=hp.eq (n:=nt)
 refine dstep hd (.plain rfl h) ?_
 rw[e1,e2];exact k
theorem Da {j:Nat} {b:Bool} (hd:dOK ⟨env,mem,nt⟩ dst=true) (hj:guardB b (guardD ⟨env,mem,nt⟩ ops j)=some true) (h:SStep P ⟨dst,op,ty,pos,af,some (j,b)⟩ (ev ⟨env,mem,nt⟩) mem rd val wr) (hp:Put env mem dst val wr env' mem' ks)
  (k:DOps P ops r ⟨env',mem',nt⟩ ((rd,ks)::acc) K):DOps P ops (⟨dst,op,ty,pos,af,some (j,b)⟩::r) ⟨env,mem,nt⟩ acc K:=by
 obtain⟨e1,e2⟩:=hp.eq (n:=nt)
 refine dstep hd (.on rfl hj h) ?_
 rw[e1,e2];exact k
theorem Db {t:Nat} {j:Nat} {b q:Bool} (hd:Nat.blt t nt=true) (hj:guardB b (guardD ⟨env,mem,nt⟩ ops j)=some q) (hn:q=true→needs ⟨env,mem,nt⟩ op.operands.toList)
  (h:q=true→SStep P ⟨some t,op,ty,pos,af,some (j,b)⟩ (fun x=>ung (ev ⟨env,mem,nt⟩ x)) mem rd val []) (hp:Put env mem (some t) (.grd q val) [] env' mem' ks)
  (k:DOps P ops r ⟨env',mem',nt⟩ ((rd,ks)::acc) K):DOps P ops (⟨some t,op,ty,pos,af,some (j,b)⟩::r) ⟨env,mem,nt⟩ acc K:=by
 cases hp with
 | p=>exact dpMay hd hj hn h k
end
inductive Cmp : BinOp→Int→Int→Prop→Prop
 | eql {a b:Int}:Cmp .eql a b (a=b)
 | neq {a b:Int}:Cmp .neq a b (a≠b)
 | lss {a b:Int}:Cmp .lss a b (a<b)
 | leq {a b:Int}:Cmp .leq a b (a≤b)
 | gtr {a b:Int}:Cmp .gtr a b (b<a)
 | geq {a b:Int}:Cmp .geq a b (b≤a)
section
variable {P : Program} {e : Operand → D} {m : Mem} {dst : Option Tmp} {ty : TypeId} {pos : String} {af : Array Edge} {gd : Option (Nat × Bool)} {x y : Operand} {t : TypeId} {yt : TypeId}
theorem S_al {u:Tmp} {agg:Bool} {s by_:Nat} {zs:List V} [ht:TyI P t agg s by_ zs] (hg:m.at u = .gone):SStep P ⟨some u,.alloc t,ty,pos,af,gd⟩ e m [] (.ptr u 0) [(u,.cells false true (zs.map V.zD))]:=S_alloc u hg
theorem S_bx {u:Tmp} {cs:List D} (hc:(e x).cells=some cs) (hg:m.at u = .gone):SStep P ⟨some u,.box t x,ty,pos,af,gd⟩ e m [] (.ptr u 0) [(u,.cells false true cs)]:=S_box u hc hg
theorem Ca {op:BinOp} {n1 n2:Bool} {k:IntKind} {a b:Int} {p:Prop} (h1:e x = .dat n1 (.int k a)) (h2:e y = .dat n2 (.int k b)) (c:Cmp op a b p) (h:p):SStep P ⟨dst,.binOp op t x y yt,ty,pos,af,gd⟩ e m [] (.dat true (.bool true)) []:=by
 cases c with
 | eql=>exact as_bool (S_eql h1 h2) (decide_eq_true h)
 | neq=>exact as_bool (S_neq h1 h2) (decide_eq_true h)
 | lss=>exact as_bool (S_lss h1 h2) (decide_eq_true h)
 | leq=>exact as_bool (S_leq h1 h2) (decide_eq_true h)
 | gtr=>exact as_bool (S_gtr h1 h2) (decide_eq_true h)
 | geq=>exact as_bool (S_geq h1 h2) (decide_eq_true h)
theorem Cb {op:BinOp} {n1 n2:Bool} {k:IntKind} {a b:Int} {p:Prop} (h1:e x = .dat n1 (.int k a)) (h2:e y = .dat n2 (.int k b)) (c:Cmp op a b p) (h:¬p):SStep P ⟨dst,.binOp op t x y yt,ty,pos,af,gd⟩ e m [] (.dat true (.bool false)) []:=by
 cases c with
 | eql=>exact as_bool (S_eql h1 h2) (decide_eq_false h)
 | neq=>exact as_bool (S_neq h1 h2) (decide_eq_false h)
 | lss=>exact as_bool (S_lss h1 h2) (decide_eq_false h)
 | leq=>exact as_bool (S_leq h1 h2) (decide_eq_false h)
 | gtr=>exact as_bool (S_gtr h1 h2) (decide_eq_false h)
 | geq=>exact as_bool (S_geq h1 h2) (decide_eq_false h)
end
theorem Wg {P:Program} {Q:Exit→St→Prop} {s:St} {c:Operand} {x y:Code} {n:Bool} {p:Prop} [Decidable p] (hc:ev s c = .dat n (.bool (decide p))) (hb:p) (h:DW P x Q s):DW P (.cond c x y) Q s:=DW_true hc (decide_eq_true hb) h
theorem Wh {P:Program} {Q:Exit→St→Prop} {s:St} {c:Operand} {x y:Code} {n:Bool} {p:Prop} [Decidable p] (hc:ev s c = .dat n (.bool (decide p))) (hb:¬p) (h:DW P y Q s):DW P (.cond c x y) Q s:=DW_false hc (decide_eq_false hb) h
theorem Wk_g {s e:St} (ρ:Nat→Option Nat) (hn:s.n=e.n) (hinj:injOn ρ (e.mem.map (·.1))=true) (h:memLe s e ρ e.mem∧envLe s e ρ e.env):Wk s e:=Wk_gen ρ hn hinj h.1 h.2
end Go.Proofs.YtcdhlofhhcgohaaGreat
namespace Go.Proofs.YtcdhlofhhcgohaaGreat
open Go.RowKit
theorem whole_eq {α:Type} {f:α→List V} {us:List α} {n:Nat} (h:us.length=n):((us.map f).drop 0).take n=us.map f:=by
 subst h;simp[List.take_of_length_le]
theorem tail_eq {α:Type} {us:List α} {l:Nat}:(us.drop l).take (us.length-l)=us.drop l:=List.take_of_length_le (by simp)
theorem ne_self {α:Type} (a:α) {d:Decidable (a≠a)}:decide (a≠a)=false:=decide_eq_false (fun h=>h rfl)
theorem eq_self {α:Type} (a:α) {d:Decidable (a=a)}:decide (a=a)=true:=decide_eq_true rfl
theorem fnF_own {P:Program} {f:FuncId} {ds:List V} {sz len:Nat} {xs:List (List V)} (h:FnG P f (ds.map (.dat false)) [] (.own 1000 0 0 len) [(1000,.row 0 false true sz xs)]) (hl:len=xs.length):FnF P f ds (.slice xs):=by
 subst hl
 refine⟨h.1,fun S w vs hS hr=>?_⟩
 have hc:=h.2 ⟨fun _=>none,S,fun _=>False,w⟩ vs
  ⟨fun g=>trivial,fun g g' b (h:Box.gone≠Box.gone)=>absurd rfl h,fun g b (h:false=true)=>by(cases h),hS,fun b (h:False)=>h.elim⟩ (by simp[hr.1])
  (fun j d v h1 h2=>by
   rw[List.getElem?_map]at h1
   cases hd:ds[j]? with
   | none=>rw[hd]at h1;cases h1
   | some x =>
    rw[hd]at h1
    injection h1 with h1
    subst h1
    exact hr.2 j x v hd h2)
 refine Calls.mono hc ?_
 rintro e w' ⟨v,C',rfl,rfl,hx,hm,hv⟩
 have hz:Env.at [(0,D.own 1000 0 0 xs.length)] 0 = .own 1000 0 0 xs.length:=look_same _ _ _ _
 obtain ⟨C1,e1,h1,x1⟩:=Wk_freeze (env := [(0,.own 1000 0 0 xs.length)]) (mem := [(1000,.row 0 false true sz xs)]) (n:=1) 1000 (fun kt et es h=>by rw[Mem.at_cons_same]at h;cases h) C' ⟨#[v],[]⟩
  ⟨hm,rfl,rfl,fun t=>by
   match t with
   | 0=>rw[show(St.mk [(0,D.own 1000 0 0 xs.length)] [(1000,Box.row 0 false true sz xs)] 1).env=[(0,D.own 1000 0 0 xs.length)]from rfl,hz];exact hv
   | t+1=>exact trivial⟩
 have hv1:=h1.env 0
 rw[show(St.mk [(0,D.own 1000 0 0 xs.length)] ((1000,frzBox (Mem.at [(1000,Box.row 0 false true sz xs)] 1000))::[(1000,Box.row 0 false true sz xs)]) 1).env=[(0,D.own 1000 0 0 xs.length)]from rfl,hz]at hv1
 have hr1:=asV_ok (n:=true) (x := .slice xs) h1.mem (fun _ _=>rfl) (by
  show asV ((1000,frzBox (Mem.at [(1000,Box.row 0 false true sz xs)] 1000))::[(1000,Box.row 0 false true sz xs)]) _=_
  simp[asV,asV0,Mem.at_cons_same,frzBox]) hv1
 refine⟨v,rfl,⟨hx.os,hx.tape,hx.output,hx.size,fun k hk=>hx.keep k hk (fun g hg=>by simp[Mem.at,look,Box.mut]at hg)⟩,?_⟩
 have hxx:=hx.trans x1
 rw[←e1]
 refine Rd.mono hr1 (fun b hb=>?_) (fun _ _=>rfl)
 refine⟨?_,h1.mem.sdom b (h1.mem.ns b hb)⟩
 rcases hxx.supN b hb with k1|k1|⟨g0,k1,_⟩
 ·exact k1.elim
 ·exact k1
 ·simp[Mem.at,look,Box.mut]at k1
class DatI {α:Type} (f:α→D):Prop where
 out:∀ a,∃ n x,f a = .dat n x
theorem listLe_map {α:Type} {f:α→D} [hf:DatI f] {s e:Mem} {ρ:Nat→Option Nat}:∀ us:List α,listLe s e ρ (us.map f) (us.map f)
 | []=>trivial
 | a::r=>by
  obtain⟨n,x,h⟩:=hf.out a
  refine⟨?_,listLe_map r⟩
  show slotLe s e ρ (f a) (f a)
  rw[h]
  exact⟨n,rfl,.inl rfl⟩
section
variable {P : Program} {e : Operand → D} {m : Mem} {dst : Option Tmp} {ty : TypeId} {pos : String} {af : Array Edge} {gd : Option (Nat × Bool)} {x y : Operand} {t : TypeId}
theorem S_slM {α:Type} {f:α→List V} {us:List α} {n agg:Bool} {el s by_ l h:Nat} {zs:List V} {lo hi:Option Operand} (us':List α) [hu:SlcI P t el] [ht:TyI P el agg s by_ zs] [hf:CellsI f s] (h1:e x = .dat n (.slice (us.map f)))
  (hlo:BndD (lo.map e) 0 l) (hhi:BndD (hi.map e) us.length h) (hle:l≤h) (hhl:h≤us.length) (hq:(us.drop l).take (h-l)=us') :
  SStep P ⟨dst,.slice t x lo hi none,ty,pos,af,gd⟩ e m [] (.dat n (.slice (us'.map f))) []:=by
 have hl:(us.map f).length=us.length:=by simp
 have:=S_slice (P:=P) (m:=m) (t:=t) (el:=el) (by_:=by_) (zs:=zs) (agg:=agg) (dst:=dst) (ty:=ty) (pos:=pos) (af:=af) (gd:=gd) h1 hlo (by rw[hl];exact hhi) hle (by rw[hl];exact hhl) (map_len us)
 rw[←List.map_drop,←List.map_take,hq]at this
 exact this
theorem S_mkD {α:Type} {f:α→List V} {el s by_ l c:Nat} {agg n1 n2:Bool} {k1 k2:IntKind} {zs:List V} {a b:Int} (z:α) [hu:SlcI P t el] [ht:TyI P el agg s by_ zs] (h1:e x = .dat n1 (.int k1 a)) (h2:e y = .dat n2 (.int k2 b)) (ha:a=(l:Int)) (hb:b=(c:Int)) (hlc:l≤c)
  (hby:c*(by_+1)≤140737488355328) (hfz:f z=zs) :
  SStep P ⟨dst,.makeSlice t x y,ty,pos,af,gd⟩ e m [] (.dat true (.slice ((List.replicate l z).map f))) []:=by
 intro C m' ac next Q hag hm hx hn
 have g1:=rd_int (by have:=hx x (by simp[Op.operands]);rwa[h1]at this)
 have g2:=rd_int (by have:=hx y (by simp[Op.operands]);rwa[h2]at this)
 obtain⟨i,hi,hsz,hbt,hz⟩:=ht.info
 have hb1:c*by_≤140737488355328:=Nat.le_trans (Nat.mul_le_mul_left _ (Nat.le_succ _)) hby
 have hb2:c≤140737488355328:=by
  have:c*1≤c*(by_+1):=Nat.mul_le_mul_left _ (by omega)
  omega
 have hrun:=run_make (P:=P) C.w t el i _ hu.out hi hz k1 k2 l c (by omega) (by omega) (by
  rw[hbt]
  have:((by_*c:Nat):Int)≤281474976710656:=by rw[Nat.mul_comm];omega
  rwa[Int.natCast_mul]at this) (by omega)
 simp only[Int.toNat_natCast,hsz]at hrun
 have hexec:(execOp ac.eval ⟨dst,.makeSlice t x y,ty,pos,af,gd⟩).run P C.w = .ok (.value (.slice (some ⟨C.w.heap.size,0,none⟩) l c)) (C.w.alloc (.cells (madeCells (zval agg zs).cells (c*s)) el)):=by
  simp[execOp,g1,g2,ha,hb,hrun]
 have hblk:(C.w.alloc (.cells (madeCells (zval agg zs).cells (c*s)) el)).heap[C.w.heap.size]? = some (.cells (madeCells (zval agg zs).cells (c*s)) el (0,0)):=heap_alloc_new C.w _
 have hz0:=zcells ht
 have hzl:=ht.zl
 have hzc:=ht.zc
 rw[List.all_eq_true]at hzc
 have hrep:∀ (i:Nat) (e:List V),((List.replicate l z).map f)[i]? = some e→i<l∧e=zs:=fun i e h=>by
  rw[List.map_replicate,hfz,List.getElem?_replicate]at h
  split at h
  ·injection h with h;exact⟨by assumption,h.symm⟩
  ·cases h
 have hst:=step_dat (w:=C.w.alloc (.cells (madeCells (zval agg zs).cells (c*s)) el)) (fun k=>k=C.w.heap.size) hm (Grew.alloc C.w _)
  (fun k hk=>by subst hk;exact⟨Nat.le_refl _,(Array.getElem?_eq_some_iff.1 hblk).1⟩)
 refine wp_of_value hexec (hn _ _ hst ?_)
 have hcell:∀ (i j:Nat) (e:List V) (d:V),((List.replicate l z).map f)[i]? = some e→e[j]? = some d →
   (C.w.alloc (.cells (madeCells (zval agg zs).cells (c*s)) el)).cell? ⟨C.w.heap.size,0+i*s+j,none⟩=some d.val∧V.isC d=true:=fun i j e d h1 h2=>by
  obtain⟨hil,he⟩:=hrep i e h1
  rw[he]at h2
  have hj:j<s:=by rw[←hzl];exact(List.getElem?_eq_some_iff.1 h2).1
  rw[cell_of_arr hblk,Nat.zero_add,madeCells_get (Nat.lt_of_lt_of_le (idx_lt hil hj) (Nat.mul_le_mul_right _ hlc)),hz0]
  simp only[List.size_toArray,List.length_map,hzl,idx_mod hj]
  have:(zs.map V.val).toArray[j]! = d.val:=by simp[h2]
  rw[this]
  exact⟨rfl,hzc d (List.mem_of_getElem? h2)⟩
 have hlen:((List.replicate l z).map f).length=l:=by simp
 have:=Rd.slice (S:=(C.put (fun k=>k=C.w.heap.size) (C.w.alloc (.cells (madeCells (zval agg zs).cells (c*s)) el))).D true) (w:=C.w.alloc (.cells (madeCells (zval agg zs).cells (c*s)) el))
  ((List.replicate l z).map f) C.w.heap.size 0 c s (fun i j=>((((List.replicate l z).map f)[i]?.getD [])[j]?.getD .undef).val) (by rw[hlen];exact hlc) (by unfold maxLen;omega)
  (fun i e h=>by rw[(hrep i e h).2,hzl])
  (fun i j e d h1 h2=>isC_one (hcell i j e d h1 h2).2) (fun _=>.inr rfl)
  (fun i j e d h1 h2=>by rw[h1,Option.getD_some,h2,Option.getD_some];exact(hcell i j e d h1 h2).1)
  (fun i j e d h1 h2=>by rw[h1,Option.getD_some,h2,Option.getD_some];exact val_rd (hcell i j e d h1 h2).2)
 rw[hlen]at this
 exact this
theorem S_bs {n:Bool} {l:List UInt8} {s el:TypeId} [hu:SlcI P s el] (he:P.underlying el=some (.int .u8)) (ht:P.underlying t=some .string) (h:e x = .dat n (.slice (l.map byteV))) :
  SStep P ⟨dst,.convert s t x,ty,pos,af,gd⟩ e m [] (.dat true (.str l)) []:=S_bytes_str he ht h
theorem S_compl {n:Bool} {k:IntKind} {a:Int} (h:e x = .dat n (.int k a)):SStep P ⟨dst,.unOp .xor t x,ty,pos,af,gd⟩ e m [] (.dat true (.int k (k.xorI (if k.signed then -1 else k.max) a))) [] :=
 .pure fun C m' ac _ _ hx=>by
  have h1:=hx x (by simp[Op.operands]);rw[h]at h1
  exact⟨.int k (k.xorI (if k.signed then -1 else k.max) a),by simp[execOp,rd_int h1,Op.unary,Op.intBits,IntKind.xorI],mk_int⟩
theorem splice_set {cs:List D} {off:Nat} {d:D} (h:off<cs.length):splice cs off [d]=cs.set off d:=by
 apply List.ext_getElem?
 intro j
 rw[splice_get (by simp only[List.length_singleton];omega),List.getElem?_set]
 simp only[List.length_singleton]
 by_cases hj:off=j
 ·subst hj
  rw[if_pos ⟨Nat.le_refl _,by omega⟩,if_pos rfl,if_pos h,Nat.sub_self];rfl
 ·rw[if_neg (by omega),if_neg hj]
theorem S_storeA {α:Type} {f:α→D} {us:List α} {a:α} {nw:Bool} {by_ g off:Nat} {zs:List V} [ht:TyI P t false 1 by_ zs] (h:e x = .ptr g off) (hm:m.at g = .cells false nw (us.map f))
  (hd:(e y).cells=some [f a]) (hok:okCells [f a]=true) (hlt:off<us.length) :
  SStep P ⟨none,.store t x y,ty,pos,af,gd⟩ e m [g] .any [(g,.cells false nw ((us.set off a).map f))]:=by
 have:=S_store (P:=P) (t:=t) (m:=m) (ty:=ty) (pos:=pos) (af:=af) (gd:=gd) h hm hd hok rfl (Nat.ble_eq_true_of_le (by rw[List.length_map];omega))
 rw[splice_set (by simpa using hlt),←List.map_set]at this
 exact this
end
end Go.Proofs.YtcdhlofhhcgohaaGreat
namespace Go.Proofs.YtcdhlofhhcgohaaGreat
open Go.RowKit
theorem frz_step {C:Cf} {mem:Mem} (hm:HoldsM C mem) (g:Nat) (hk:∀ kt et es,mem.at g ≠ .mapb kt et es):∃ C',C'.w=C.w∧Step C mem C' ((g,frzBox (mem.at g))::mem):=by
 let X:Nat→Prop:=fun b=>(mem.at g).mut=true∧C.ι g=some b
 let C':Cf := { C with S:=fun b=>C.S b∨X b,N:=fun b=>C.N b∨X b }
 have hD:∀ nw b,C.D nw b→C'.D nw b:=fun nw b h=>by cases nw<;>exact .inl h
 have hd:∀ n x v,RdF C n x v→RdF C' n x v:=fun n x v h=>Rd.mono h (hD n) (fun _ _=>rfl)
 have hat:∀ g',Mem.at ((g,frzBox (mem.at g))::mem) g'=if g=g' then frzBox (mem.at g)else mem.at g':=fun g'=>look_cons _ _ _ _ _
 have hs:∀ d v,RdS C mem d v→RdS C' ((g,frzBox (mem.at g))::mem) d v:=by
  intro d v h
  cases d with
  | any=>trivial
  | nil=>exact h
  | dat n x=>exact hd n x v h
  | own g' ver lo len =>
   obtain⟨ver',frz,nw,sz,xs,h1,h2,h3,h4⟩:=h
   by_cases hg:g=g'
   ·subst hg
    exact⟨ver',true,nw,sz,xs,by rw[hat,if_pos rfl,h1];rfl,h2,h3,h4⟩
   ·exact⟨ver',frz,nw,sz,xs,by rw[hat,if_neg hg];exact h1,h2,h3,h4⟩
  | ptr g' off =>
   obtain⟨frz,nw,cs,b,h1,h2,h3⟩:=h
   by_cases hg:g=g'
   ·subst hg
    exact⟨true,nw,cs,b,by rw[hat,if_pos rfl,h1];rfl,h2,h3⟩
   ·exact⟨frz,nw,cs,b,by rw[hat,if_neg hg];exact h1,h2,h3⟩
  | rptr g' ver i off =>
   obtain⟨ver',frz,nw,sz,xs,h1,h2,h3,h4⟩:=h
   by_cases hg:g=g'
   ·subst hg
    exact⟨ver',true,nw,sz,xs,by rw[hat,if_pos rfl,h1];rfl,h2,h3,h4⟩
   ·exact⟨ver',frz,nw,sz,xs,by rw[hat,if_neg hg];exact h1,h2,h3,h4⟩
  | mp g' =>
   obtain⟨kt,et,es,b,h1,h2,h3⟩:=h
   have hg:g≠g':=by rintro rfl;exact hk _ _ _ h1
   exact⟨kt,et,es,b,by rw[hat,if_neg hg];exact h1,h2,h3⟩
  | sl g' n =>
   obtain⟨frz,nw,cs,b,cap,h1,h2,h3⟩:=h
   by_cases hg:g=g'
   ·subst hg
    exact⟨true,nw,cs,b,cap,by rw[hat,if_pos rfl,h1];rfl,h2,h3⟩
   ·exact⟨frz,nw,cs,b,cap,by rw[hat,if_neg hg];exact h1,h2,h3⟩
  | _=>exact h.elim
 have hmutne:∀ g',(Mem.at ((g,frzBox (mem.at g))::mem) g').mut=true→g≠g'∧(mem.at g').mut=true:=by
  intro g' h
  rw[hat]at h
  by_cases hg:g=g'
  ·rw[if_pos hg]at h
   cases hb:mem.at g with
   | mapb kt et es=>exact absurd hb (hk _ _ _)
   | _=>rw[hb]at h;simp[frzBox,Box.mut]at h
  ·rw[if_neg hg]at h
   exact⟨hg,h⟩
 have hgone:∀ g',Mem.at ((g,frzBox (mem.at g))::mem) g' ≠ .gone→mem.at g' ≠ .gone:=by
  intro g' h
  rw[hat]at h
  by_cases hg:g=g'
  ·rw[if_pos hg]at h
   subst hg
   intro h0
   rw[h0]at h
   exact h rfl
  ·rwa[if_neg hg]at h
 have hext:Ext C mem C' ((g,frzBox (mem.at g))::mem):=by
  refine⟨rfl,rfl,rfl,Nat.le_refl _,fun _ _ _=>rfl,fun g' b h1 h2=>.inr ⟨g',(hmutne g' h1).2,h2⟩,fun _ h=>.inl h,fun _ h=>.inl h,fun b hb=>?_,fun b hb=>?_⟩
  ·rcases hb with hb|hb
   ·exact .inl hb
   ·exact .inr (.inr hb)
  ·rcases hb with hb|⟨h1,h2⟩
   ·exact .inl hb
   ·exact .inr (.inr ⟨g,h1,h2⟩)
 refine⟨C',rfl,⟨hext,⟨fun g'=>?_,fun g1 g2 b h1 h2=>hm.inj g1 g2 b (hgone g1 h1) (hgone g2 h2),fun g' b h1 h2 h3=>?_,fun b hb=>?_,fun b hb=>hb.imp (hm.ns b) id⟩,fun d v h=>RdD.of_S hs d v h⟩⟩
 ·have h0:=BoxOK.upd (hm.box g') (C':=C') (fun _ _=>rfl) hd hs (fun b h=>.inl h) (fun b h=>.inl h)
  show BoxOK C' _ (C.ι g') _
  rw[hat]
  by_cases hg:g=g'
  ·subst hg
   rw[if_pos rfl]
   cases hb:mem.at g with
   | cells frz nw cs =>
    rw[hb]at h0
    obtain⟨b,hi,arr,T,fz,h1,h2,h3,h4,h5⟩:=h0
    refine⟨b,hi,arr,T,fz,h1,h2,h3,h4,fun _=>?_⟩
    cases frz with
    | true=>exact h5 rfl
    | false =>
     have hx:X b:=⟨by rw[hb];rfl,hi⟩
     cases nw<;>exact .inr hx
   | row ver frz nw sz xs =>
    rw[hb]at h0
    cases hi:C.ι g with
    | none=>rw[hi]at h0;exact h0
    | some b =>
     rw[hi]at h0
     obtain⟨arr,T,fz,h1,h2,h3,h4,h5,h6,h7⟩:=h0
     refine⟨arr,T,fz,h1,h2,h3,h4,h5,h6,fun _=>?_⟩
     cases frz with
     | true=>exact h7 rfl
     | false=>exact .inr ⟨by rw[hb];rfl,hi⟩
   | mapb kt et es=>exact absurd hb (hk _ _ _)
   | gone=>trivial
  ·rw[if_neg hg]
   exact h0
 ·obtain ⟨hg,hmt⟩:=hmutne g' h1
  rcases h3 with h3|⟨h3,h4⟩
  ·exact hm.sep g' b hmt h2 h3
  ·refine hg (hm.inj g g' b ?_ ?_ h4 h2)
   ·intro h0
    have h0:mem.at g = .gone:=h0
    rw[h0]at h3;cases h3
   ·intro h0
    have h0:mem.at g' = .gone:=h0
    rw[h0]at hmt;cases hmt
 ·rcases hb with hb|⟨h1,h2⟩
  ·exact hm.sdom b hb
  ·exact BoxOK.lt hm (g:=g) (by intro h0;have h0:mem.at g = .gone:=h0;rw[h0]at h1;cases h1) h2
section
variable {P : Program} {e : Operand → D} {m : Mem} {o : Oper} {rd : List Nat} {val : D} {wr : Mem}
theorem S_frz (g:Nat) {bx:Box} (hmg:m.at g=bx) (hk:(match bx with | .mapb _ _ _=>false|_=>true)=true) (h:SStep P o e ((g,frzBox bx)::m) rd val wr) :
  SStep P o e m (g::rd) val (wr++[(g,frzBox bx)]):=by
 intro C m' a next Q hag hm hxs hn
 have hg':m'.at g=bx:=(hag g (.inl (List.mem_cons.2 (.inl rfl)))).trans hmg
 obtain⟨C1,e1,h1⟩:=frz_step hm g (fun kt et es h0=>by rw[hg']at h0;subst h0;cases hk)
 rw[hg']at h1
 rw[←e1]
 refine h C1 ((g,frzBox bx)::m') a next Q (fun g' hg''=>?_) h1.holds (fun x hx'=>h1.slot _ _ (hxs x hx')) (fun v C2 h2 hv=>?_)
 ·show Mem.at ((g,frzBox bx)::m') g'=Mem.at ((g,frzBox bx)::m) g'
  unfold Mem.at
  rw[look_cons,look_cons]
  by_cases he:g=g'
  ·rw[if_pos he,if_pos he]
  ·rw[if_neg he,if_neg he]
   refine hag g' ?_
   rcases hg'' with h0|h0
   ·exact .inl (List.mem_cons.2 (.inr h0))
   ·refine .inr ?_
    rw[List.map_append,List.mem_append]
    exact .inl h0
 ·have e2:wr++[(g,frzBox bx)]++m'=wr++((g,frzBox bx)::m'):=by simp
  refine hn v C2 ?_ ?_
  ·rw[e2];exact h1.trans h2
  ·rw[e2];exact hv
end
section
variable {P : Program} {ops : Array Oper} {r : List Oper} {env : Env} {mem : Mem} {nt : Nat} {acc : List (List Nat × List Nat)} {K : List (List Nat × List Nat) → St → Prop} {rd : List Nat} {val : D} {wr : Mem}
 {t:Nat} {c:Call} {ty:TypeId} {pos:String} {af:Array Edge}
end
end Go.Proofs.YtcdhlofhhcgohaaGreat
