/- A row is a box of cells from here on, whose cells alone say what is new. -/
import Derived.Test.YtcdhlofhhcgohaaGreatxbFm5
import Derived.Test.YtcdhlofhhcgohaaGreatxbLnd
import Derived.Test.YtcdhlofhhcgohaaGreatxbNst
namespace Go.Proofs.YtcdhlofhhcgohaaGreat
open Go.RowKit
attribute [local irreducible] nm ix
def cellB (k i:Nat) (b:Bridge):List D :=
 [.dat true (.int .u64 b.addr),if i<k then .own (nm i) 0 0 b.prios.length else .dat false (.slice (b.prios.map intV1)),.dat true (.str b.region.name),.dat true (.int .i64 b.region.rev),.dat (decide (i<k)) (.slice (b.region.ways.map wayV))]
theorem cellB_len (k i:Nat) (b:Bridge):(cellB k i b).length=5:=rfl
def brCS (k:Nat) (bs:List Bridge):List D:=(bs.mapIdx (cellB k)).flatten
theorem brCS_len (k:Nat) (bs:List Bridge):(brCS k bs).length=bs.length*5:=by
 unfold brCS
 rw[flatten_len (sz:=5) _ (fun i e h=>by
  rw[List.getElem?_mapIdx]at h
  obtain⟨b,_,rfl⟩:=Option.map_eq_some_iff.1 h
  exact cellB_len k i b),List.length_mapIdx]
theorem brCS_get (k:Nat) (bs:List Bridge) (i o:Nat) (ho:o<5):(brCS k bs)[i*5+o]? = (bs[i]?).bind fun b=>(cellB k i b)[o]? := by
 unfold brCS
 rw[flatten_get (sz:=5) _ (fun i e h=>by
  rw[List.getElem?_mapIdx]at h
  obtain⟨b,_,rfl⟩:=Option.map_eq_some_iff.1 h
  exact cellB_len k i b) i o ho,List.getElem?_mapIdx]
 cases bs[i]? <;> rfl
theorem cellB_get {k i o:Nat} {b:Bridge} {d:D} (h:(cellB k i b)[o]? = some d):(∃ n x,d = .dat n x)∨(o=1∧i<k∧d = .own (nm i) 0 0 b.prios.length):=by
 match o with
 | 0=>injection h with h;exact .inl ⟨_,_,h.symm⟩
 | 1 =>
  injection h with h
  by_cases hk:i<k
  ·rw[if_pos hk]at h;exact .inr ⟨rfl,hk,h.symm⟩
  ·rw[if_neg hk]at h;exact .inl ⟨_,_,h.symm⟩
 | 2=>injection h with h;exact .inl ⟨_,_,h.symm⟩
 | 3=>injection h with h;exact .inl ⟨_,_,h.symm⟩
 | 4=>injection h with h;exact .inl ⟨_,_,h.symm⟩
 | o+5=>simp[cellB]at h
def priosOf (k:Nat) (bs:List Bridge):List (List Int):=(bs.take k).map (·.prios)
theorem priosOf_get {k i:Nat} {bs:List Bridge} (h:i<k):(priosOf k bs)[i]? = (bs[i]?).map (·.prios):=by
 unfold priosOf
 rw[List.getElem?_map,List.getElem?_take,if_pos h]
theorem brCS_at {k j:Nat} {bs:List Bridge} {d:D} (h:(brCS k bs)[j]? = some d):∃ b,bs[j / 5]? = some b∧(cellB k (j / 5) b)[j % 5]? = some d:=by
 have e:j=j / 5*5+j % 5:=by omega
 rw[e,brCS_get k bs _ _ (Nat.mod_lt _ (by decide))]at h
 obtain⟨b,hb,hd⟩:=Option.bind_eq_some_iff.1 h
 exact⟨b,hb,hd⟩
def brT (k K:Nat) (bs:List Bridge):List D:=brCS k bs++List.replicate K .any
theorem brT_get {k K j:Nat} {bs:List Bridge} (h:j<bs.length*5):(brT k K bs)[j]? = (brCS k bs)[j]? := by
 unfold brT
 rw[List.getElem?_append_left (by rw[brCS_len];exact h)]
theorem brCS_own {k i:Nat} {bs:List Bridge} {b:Bridge} (hi:i<k) (hb:bs[i]? = some b):(brCS k bs)[i*5+1]? = some (.own (nm i) 0 0 b.prios.length):=by
 rw[brCS_get k bs i 1 (by decide),hb]
 show some (if i<k then D.own (nm i) 0 0 b.prios.length else _)=_
 rw[if_pos hi]
theorem brCS_uq {k i:Nat} {bs:List Bridge} (j len:Nat) (h:(brCS k bs)[j]? = some (.own (nm i) 0 0 len)):j=i*5+1:=by
 obtain⟨b,hb,hd⟩:=brCS_at h
 rcases cellB_get hd with⟨n,x,e⟩|⟨ho,_,e⟩
 ·cases e
 ·injection e with e
  have:=nm_inj e
  omega
theorem brCS_dat {bs:List Bridge} (j:Nat) (d:D) (h:(brCS 0 bs)[j]? = some d):∃ n x,d = .dat n x:=by
 obtain⟨b,hb,hd⟩:=brCS_at h
 rcases cellB_get hd with⟨n,x,rfl⟩|⟨_,hk,_⟩
 ·exact⟨n,x,rfl⟩
 ·omega
theorem brCS_step {k:Nat} {bs:List Bridge} {b:Bridge} (hb:bs[k]? = some b) (d:D):((brCS k bs).set (k*5+1) d).set (k*5+4) (.dat true (.slice (b.region.ways.map wayV)))=(brCS (k+1) bs).set (k*5+1) d:=by
 have hk:=(List.getElem?_eq_some_iff.1 hb).1
 refine List.ext_getElem? fun j=>?_
 rw[List.getElem?_set,List.getElem?_set,List.getElem?_set,List.length_set,brCS_len,brCS_len]
 by_cases h4:k*5+4=j
 ·rw[if_pos h4,if_pos (by omega),if_neg (by omega),←h4,brCS_get (k+1) bs k 4 (by decide),hb]
  show _=some (D.dat (decide (k<k+1)) _)
  rw[decide_eq_true (by omega)]
 rw[if_neg h4]
 split
 ·rfl
 ·rename_i hj
  have e:j=j / 5*5+j % 5:=by omega
  have h5:j % 5<5:=Nat.mod_lt _ (by decide)
  rw[e,brCS_get k bs _ _ h5,brCS_get (k+1) bs _ _ h5]
  cases hbj:bs[j / 5]? with
  | none=>rfl
  | some b1 =>
   show(cellB k (j / 5) b1)[j % 5]? = (cellB (k+1) (j / 5) b1)[j % 5]?
   by_cases h1:j / 5=k
   ·have ho:j % 5=0∨j % 5=2∨j % 5=3:=by omega
    rcases ho with ho|ho|ho<;>rw[ho]<;>rfl
   ·have hlt:j / 5<k↔j / 5<k+1:=by omega
    unfold cellB
    simp only[hlt]
theorem brCS_put {k A:Nat} {bs:List Bridge} {b:Bridge} {ps:List Int} (_hA:A<k) (hb:bs[A]? = some b) (d:D):(brCS k (bs.set A { b with prios:=ps })).set (A*5+1) d=(brCS k bs).set (A*5+1) d:=by
 have hAl:=(List.getElem?_eq_some_iff.1 hb).1
 refine List.ext_getElem? fun j=>?_
 rw[List.getElem?_set,List.getElem?_set,brCS_len,brCS_len,List.length_set]
 split
 ·rfl
 ·rename_i hj
  have e:j=j / 5*5+j % 5:=by omega
  have h5:j % 5<5:=Nat.mod_lt _ (by decide)
  rw[e,brCS_get k _ _ _ h5,brCS_get k bs _ _ h5,List.getElem?_set]
  by_cases h1:A=j / 5
  ·have ho:j % 5=0∨j % 5=2∨j % 5=3∨j % 5=4:=by omega
   rw[if_pos h1,if_pos hAl,←h1,hb]
   show(cellB k A { b with prios:=ps })[j % 5]? = (cellB k A b)[j % 5]?
   rcases ho with ho|ho|ho|ho<;>rw[ho]<;>rfl
  ·rw[if_neg h1]
theorem lnd_net {m:Mem} {N ver vl K:Nat} {frz nw fr2:Bool} {n:Net} (h1:m.at N = .cells frz nw [.sl 950 n.bridges.length,.own 941 ver 0 n.links.length]) (h2:m.at 950 = .cells false true (brT n.bridges.length K n.bridges)) (h3:m.at 941 = .row vl fr2 true 6 (n.links.map linkV)) (hv:ver=vl)
  (h4:∀ (k:Nat) b,n.bridges[k]? = some b→m.at (nm k) = .row 0 false true 1 (b.prios.map intV1)):Lnd m (.ptr N 0) (.rp n.cells):=by
 subst hv
 have hasb:∀ d x,asB0 m d=some x→(∀ g off,d ≠ .ptr g off)→(∀ g v i o,d ≠ .rptr g v i o)→(∀ cs,d ≠ .aggd cs)→asB m d=some x:=fun d x h q1 q2 q3=>by
  cases d with
  | ptr g off=>exact absurd rfl (q1 g off)
  | rptr g v i o=>exact absurd rfl (q2 g v i o)
  | aggd cs=>exact absurd rfl (q3 cs)
  | _=>exact h
 refine .ptr (fun j=>if j=0 then .sl 950 n.bridges.length else .own 941 ver 0 n.links.length) h1 (fun j x hx=>?_) (fun j x hx=>?_) (fun j x hx=>?_)
 ·match j with
  | 0=>simp[Net.cells]at hx;subst hx;rfl
  | 1=>simp[Net.cells]at hx;subst hx;rfl
  | j+2=>simp[Net.cells]at hx
 ·match j with
  | 0=>rfl
  | 1=>rfl
  | j+2=>simp[Net.cells]at hx
 ·match j with
  | 0 =>
   simp only[Net.cells,List.getElem?_cons_zero,Option.some.injEq]at hx
   subst hx
   rw[if_pos rfl]
   have hget:∀ (i:Nat) (e:List V),(n.bridges.map bridgeV)[i]? = some e→∃ b,n.bridges[i]? = some b∧e=bridgeV b:=fun i e h=>by
    rw[List.getElem?_map]at h
    obtain⟨b,hb,rfl⟩:=Option.map_eq_some_iff.1 h
    exact⟨b,hb,rfl⟩
   have h5:∀ (b:Bridge),(bridgeV b).length=5:=fun _=>rfl
   have hcell:∀ (i o:Nat) (b:Bridge) (x:V),n.bridges[i]? = some b→(bridgeV b)[o]? = some x→(brT n.bridges.length K n.bridges)[i*5+o]? = some (if o=1 then .own (nm i) 0 0 b.prios.length else .dat true x):=fun i o b x hb hx=>by
    have ho:o<5:=by have:=(List.getElem?_eq_some_iff.1 hx).1;rw[h5]at this;exact this
    have hil:=(List.getElem?_eq_some_iff.1 hb).1
    rw[brT_get (by omega),brCS_get _ _ i o ho,hb]
    show(cellB n.bridges.length i b)[o]? = _
    unfold cellB
    rw[if_pos hil,decide_eq_true hil]
    match o,ho,hx with
    | 0,_,hx=>injection hx with hx;subst hx;rfl
    | 1,_,hx=>rfl
    | 2,_,hx=>injection hx with hx;subst hx;rfl
    | 3,_,hx=>injection hx with hx;subst hx;rfl
    | 4,_,hx=>injection hx with hx;subst hx;rfl
   refine .sl (sz:=5) (fun i o=>((brT n.bridges.length K n.bridges)[i*5+o]?).getD .any) h2 (by simp) (fun i e he=>?_) (fun i j e x he hx=>?_) (fun i j e x he hx=>?_) (fun i j e x he hx=>?_)
   ·obtain⟨b,_,rfl⟩:=hget i e he
    rfl
   ·obtain⟨b,_,rfl⟩:=hget i e he
    have:=List.mem_of_getElem? hx
    simp only[bridgeV,List.mem_cons,List.mem_nil_iff,or_false]at this
    rcases this with rfl|rfl|rfl|rfl|rfl<;>rfl
   ·obtain⟨b,hb,rfl⟩:=hget i e he
    rw[hcell i j b x hb hx];rfl
   ·obtain⟨b,hb,rfl⟩:=hget i e he
    rw[hcell i j b x hb hx,Option.getD_some]
    by_cases h1:j=1
    ·subst h1
     rw[if_pos rfl]
     have hx:some (V.slice (b.prios.map intV1))=some x:=hx
     injection hx with hx
     subst hx
     refine .asb (hasb _ _ ?_ (fun _ _=>nofun) (fun _ _ _ _=>nofun) (fun _=>nofun))
     simp only[asB0,h4 i b hb]
     show some (V.slice (((b.prios.map intV1).drop 0).take b.prios.length))=_
     rw[List.drop_zero,List.take_of_length_le (by simp)]
    ·rw[if_neg h1]
     exact .asb rfl
  | 1 =>
   simp only[Net.cells,List.getElem?_cons_succ,List.getElem?_cons_zero,Option.some.injEq]at hx
   subst hx
   rw[if_neg (by decide)]
   refine .asb (hasb _ _ ?_ (fun _ _=>nofun) (fun _ _ _ _=>nofun) (fun _=>nofun))
   simp only[asB0,h3,show Nat.beq ver ver=true from Nat.beq_refl _]
   show some (V.slice (((n.links.map linkV).drop 0).take n.links.length))=_
   rw[List.drop_zero,List.take_of_length_le (by simp)]
  | j+2=>simp[Net.cells]at hx
end Go.Proofs.YtcdhlofhhcgohaaGreat
namespace Go.Proofs.YtcdhlofhhcgohaaGreat
open Go.RowKit
theorem DW_cellsOfN {P:Program} {c:Code} {Q:Exit→St→Prop} {env:Env} {mem:Mem} {n:Nat} (g:Nat) {ver sz:Nat} {nw:Bool} {xs:List (List V)} (hg:mem.at g = .row ver false nw sz xs) (hsz:0<sz) (hne:xs≠[])
  (k:DW P c Q ⟨cvE g ver env,(g,.cells false true (xs.flatten.map (.dat nw)))::cvM g ver mem,n⟩):DW P c Q ⟨env,mem,n⟩:=by
 intro C a hh
 have hb:=hh.mem.box g
 rw[show St.mem ⟨env,mem,n⟩=mem from rfl,hg]at hb
 cases hi:C.ι g with
 | none=>rw[hi]at hb;exact absurd hb hne
 | some b =>
  rw[hi]at hb
  obtain⟨arr,T,fz,h1,h2,h3,h4,h5,h6,h7⟩:=hb
  have hfl:xs.flatten.length=xs.length*sz:=flatten_len xs h4
  let cs:=xs.flatten.map (D.dat nw)
  have hcl:cs.length≤arr.size:=by show(xs.flatten.map (D.dat nw)).length≤_;rw[List.length_map,hfl];omega
  let m':Mem:=(g,.cells false true cs)::cvM g ver mem
  have hat:∀ k,Mem.at m' k=if g=k then .cells false true cs else cvB g ver (mem.at k):=fun k=>by
   rw[show Mem.at m' k=look .gone ((g,.cells false true cs)::cvM g ver mem) k from rfl,look_cons]
   by_cases h:g=k
   ·rw[if_pos h,if_pos h]
   ·rw[if_neg h,if_neg h];exact cvM_at g ver mem k h
  have hmut:∀ k,(Mem.at m' k).mut=(mem.at k).mut:=fun k=>by
   rw[hat]
   by_cases hk:g=k
   ·subst hk;rw[if_pos rfl,hg];rfl
   ·rw[if_neg hk];cases mem.at k<;>rfl
  have hgone:∀ k,Mem.at m' k ≠ .gone→mem.at k ≠ .gone:=fun k h=>by
   rw[hat]at h
   by_cases hk:g=k
   ·subst hk;rw[hg];simp
   ·rw[if_neg hk]at h
    intro h0;rw[h0]at h;exact h rfl
  have hs:∀ d v,RdS C mem d v→RdS C m' (cvD g ver d) v:=by
   intro d v h
   cases d with
   | any=>trivial
   | nil=>exact h
   | dat n x=>exact h
   | grd _ _=>exact h.elim
   | aggd _=>exact h.elim
   | fnd _ _=>exact h.elim
   | own g' v' lo len =>
    obtain⟨ver',frz,nw',sz',xs',e1,e2,e3,e4⟩:=id h
    simp only[cvD]
    cases hb:Nat.beq g g' with
    | false =>
     have hne':g≠g':=fun h=>by subst h;simp at hb
     exact⟨ver',frz,nw',sz',xs',by rw[hat,if_neg hne',e1];rfl,e2,e3,e4⟩
    | true =>
     have:=Nat.eq_of_beq_eq_true hb
     subst this
     simp only[cond_true]
     cases hv:(Nat.beq v' ver && Nat.beq lo 0)with
     | false=>trivial
     | true =>
      simp only[Bool.and_eq_true]at hv
      have q1:=Nat.eq_of_beq_eq_true hv.1
      have q2:=Nat.eq_of_beq_eq_true hv.2
      subst q1 q2
      rw[hg]at e1
      injection e1 with z1 z2 z3 z4 z5
      obtain⟨r1,r2⟩:=e4 z1
      unfold OwnV at r2
      simp only[hi]at r2
      obtain⟨cap,arr',T',fz',y1,y2,y3,y4,y5⟩:=r2
      exact⟨false,true,cs,b,cap,by rw[hat,if_pos rfl],hi,by rw[y1,Nat.zero_mul],y4,y5⟩
   | ptr g' off =>
    obtain⟨frz,nw',cs',b',e1,e2,e3⟩:=h
    have hne':g≠g':=fun h=>by subst h;rw[hg]at e1;cases e1
    exact⟨frz,nw',cs'.map (cvD g ver),b',by rw[hat,if_neg hne',e1];rfl,e2,e3⟩
   | sl g' n' =>
    obtain⟨frz,nw',cs',b',cap,e1,e2,e3⟩:=h
    have hne':g≠g':=fun h=>by subst h;rw[hg]at e1;cases e1
    exact⟨frz,nw',cs'.map (cvD g ver),b',cap,by rw[hat,if_neg hne',e1];rfl,e2,e3⟩
   | rptr g' v' i off =>
    obtain⟨ver',frz,nw',sz',xs',e1,e2,e3,e4⟩:=id h
    simp only[cvD]
    cases hb:Nat.beq g g' with
    | false =>
     have hne':g≠g':=fun h=>by subst h;simp at hb
     exact⟨ver',frz,nw',sz',xs',by rw[hat,if_neg hne',e1];rfl,e2,e3,e4⟩
    | true=>trivial
   | mp g' =>
    obtain⟨kt,et,es,b',e1,e2,e3⟩:=h
    have hne':g≠g':=fun h=>by subst h;rw[hg]at e1;cases e1
    exact⟨kt,et,es,b',by rw[hat,if_neg hne',e1];rfl,e2,e3⟩
  have hsD:∀ d v,RdD C mem d v→RdD C m' (cvD g ver d) v:=by
   intro d v h
   cases d with
   | grd _ _=>trivial
   | aggd _=>trivial
   | fnd _ _=>trivial
   | _=>exact RdS.rd (hs _ _ h)
  have hh':Holds C ⟨cvE g ver env,m',n⟩ a:=by
   refine⟨⟨fun k=>?_,fun k k' b1 q1 q2=>hh.mem.inj k k' b1 (hgone k q1) (hgone k' q2),fun k b1 q1=>hh.mem.sep k b1 (by rw[←hmut k];exact q1),hh.mem.sdom,hh.mem.ns⟩,hh.defers,hh.size,fun t=>?_⟩
   ·show BoxOK C m' (C.ι k) (Mem.at m' k)
    rw[hat]
    by_cases hk:g=k
    ·subst hk
     rw[if_pos rfl,hi]
     refine⟨b,rfl,arr,T,fz,h1,⟨h2.1,h2.2.1,.inl rfl⟩,hcl,fun j d c hd hc=>?_,fun h=>by cases h⟩
     have hj:j<xs.length*sz:=by
      have:=(List.getElem?_eq_some_iff.1 hd).1
      rw[show cs.length=xs.length*sz from by show(xs.flatten.map (D.dat nw)).length=_;rw[List.length_map,hfl]]at this
      exact this
     have hd:(xs.flatten.map (D.dat nw))[j]? = some d:=hd
     rw[List.getElem?_map]at hd
     obtain⟨x,hx,rfl⟩:=Option.map_eq_some_iff.1 hd
     have hj2:j % sz<sz:=Nat.mod_lt _ hsz
     have he:j / sz*sz+j % sz=j:=by rw[Nat.mul_comm];exact Nat.div_add_mod j sz
     rw[←he,flatten_get xs h4 _ _ hj2]at hx
     obtain⟨u,hu,hx⟩:=Option.bind_eq_some_iff.1 hx
     exact h6 _ _ u x c hu hx (by rw[he];exact hc)
    ·rw[if_neg hk]
     have h0:=hh.mem.box k
     rw[show St.mem ⟨env,mem,n⟩=mem from rfl]at h0
     cases hbx:mem.at k with
     | gone=>trivial
     | row ver' frz' nw' sz' xs'=>rw[hbx]at h0;exact h0
     | mapb kt et es=>rw[hbx]at h0;exact h0
     | cells frz' nw' cs' =>
      rw[hbx]at h0
      obtain⟨b',y0,arr',T',fz',y1,y2,y3,y4,y5⟩:=h0
      refine⟨b',y0,arr',T',fz',y1,y2,by simpa using y3,fun j d c hd hc=>?_,y5⟩
      rw[List.getElem?_map]at hd
      obtain⟨d0,hd0,rfl⟩:=Option.map_eq_some_iff.1 hd
      exact hs _ _ (y4 j d0 c hd0 hc)
   ·show RdD C m' (Env.at (cvE g ver env) t) _
    rw[cvE_at]
    exact hsD _ _ (hh.env t)
  have hx:Ext C mem C m':=⟨rfl,rfl,rfl,Nat.le_refl _,fun _ _ _=>rfl,fun k b1 q1 q2=>.inr ⟨k,by rw[←hmut k];exact q1,q2⟩,fun _ h=>h,fun _ h=>h,fun _ h=>.inl h,fun _ h=>.inl h⟩
  exact Code.wp_mono (fun ex a2 w2 ⟨C2,s2,e2,q2,r2,x2⟩=>⟨C2,s2,e2,q2,r2,hx.trans x2⟩) (k C a hh')
end Go.Proofs.YtcdhlofhhcgohaaGreat
