/- Contract: talk.mine. -/
import Derived.Test.YtcdhlofhhcgohaaGreatxdTlq
import Derived.Test.YtcdhlofhhcgohaaGreatxbOwn
import Derived.Test.YtcdhlofhhcgohaaGreatxcPlW
namespace Go.Proofs.YtcdhlofhhcgohaaGreat
open Go.RowKit
attribute [local irreducible] nm ix
instance : CellsI Doing.cells 4:=⟨fun _=>rfl,fun t d h=>by
 simp only[Doing.cells,List.mem_cons,List.mem_nil_iff,or_false]at h
 rcases h with rfl|rfl|rfl|rfl<;>rfl⟩
theorem brT_zero (k:Nat) (bs:List Bridge):brT k 0 bs=brCS k bs:=by unfold brT;simp
def netL (nb:Nat):List Nat:=3::netK nb
theorem netL_lnd {m m':Mem} {n:Net} (hag:∀ g,g∈netL n.bridges.length→m'.at g=m.at g) (h1:m.at 3 = .cells false true [.sl 950 n.bridges.length,.own 941 0 0 n.links.length]) (h2:m.at 950 = .cells false true (brCS n.bridges.length n.bridges)) (h3:m.at 941 = .row 0 false true 6 (n.links.map linkV))
  (h4:∀ (k:Nat) r,(priosOf n.bridges.length n.bridges)[k]? = some r→m.at (nm k) = .row 0 false true 1 (r.map intV1)):Lnd m' (.ptr 3 0) (.rp n.cells):=by
 have e3:m'.at 3=m.at 3:=hag 3 (List.mem_cons_self ..)
 have e9:m'.at 950=m.at 950:=hag 950 (List.mem_cons_of_mem _ (List.mem_cons_of_mem _ (List.mem_cons_self ..)))
 have e1:m'.at 941=m.at 941:=hag 941 (List.mem_cons_of_mem _ (List.mem_cons_self ..))
 refine lnd_net (m:=m') (N:=3) (ver:=0) (vl:=0) (K:=0) (frz:=false) (nw:=true) (fr2:=false) (by rw[e3];exact h1) (by rw[e9,brT_zero];exact h2) (by rw[e1];exact h3) rfl (fun k b hb=>?_)
 have hk:=(List.getElem?_eq_some_iff.1 hb).1
 rw[hag (nm k) (List.mem_cons_of_mem _ (netK_nm hk))]
 exact h4 k b.prios (by rw[priosOf_get hk,hb];rfl)
theorem DW_netOut {P:Program} {c:Code} {Q:Exit→St→Prop} {env:Env} {pre:Mem} {k:Nat} {n:Net} (hp:lowB pre=true) (hN:Mem.at pre 3 = .cells false true [.sl 950 n.bridges.length,.own 941 0 0 n.links.length]) (h9:(pre.any fun p=>Nat.beq p.1 941)=false)
  (h:∀ Z:Mem,DW P c Q ⟨env,(3,.cells false true [.dat true (.slice (n.bridges.map bridgeV)),.dat true (.slice (n.links.map linkV))])::(pre++Z),k⟩) :
  DW P c Q ⟨env,famC intV1 1 (pre++[(941,.row 0 false true 6 (n.links.map linkV))]) (brCS n.bridges.length n.bridges) (priosOf n.bridges.length n.bridges),k⟩:=by
 have hp':lowB (pre++[(941,Box.row 0 false true 6 (n.links.map linkV))])=true:=by
  unfold lowB at hp ⊢
  rw[List.all_append,hp];rfl
 let X:=priosOf n.bridges.length n.bridges
 let CS:=brCS n.bridges.length n.bridges
 let R:=n.links.map linkV
 let Z:Mem:=(941,.row 0 true true 6 R)::(950,.cells true true CS)::famZ intV1 1 X
 have hno:(941:Nat)∉pre.map (·.1):=fun hm=>by
  obtain⟨p,hp,e⟩:=List.mem_map.1 hm
  have:=List.any_eq_false.1 h9 p hp
  rw[e]at this
  simp at this
 have hMat:∀ g,Mem.at (famC intV1 1 (pre++[(941,Box.row 0 false true 6 R)]) CS X) g=if g∈pre.map (·.1)then pre.at g else if 941=g then .row 0 false true 6 R else if 950=g then .cells false true CS else Mem.at (famM intV1 1 X) g:=fun g=>by
  rw[famC_at,List.map_append]
  by_cases h1:g∈pre.map (·.1)
  ·rw[if_pos (List.mem_append_left _ h1),if_pos h1,look_append,if_pos h1]
  ·rw [if_neg h1]
   by_cases h2:941=g
   ·subst h2
    rw[if_pos (List.mem_append_right _ (by simp)),if_pos rfl,look_append,if_neg h1];rfl
   ·rw[if_neg h2,if_neg (fun hm=>by
     rcases List.mem_append.1 hm with hm|hm
     ·exact h1 hm
     ·simp at hm;exact h2 hm.symm)]
 have hZat:∀ g,Mem.at (pre++Z) g=if g∈pre.map (·.1)then pre.at g else if 941=g then .row 0 true true 6 R else if 950=g then .cells true true CS else Mem.at (famZ intV1 1 X) g:=fun g=>by
  rw[look_append]
  split
  ·rfl
  ·show look Box.gone Z g=_
   rw[look_cons,look_cons];rfl
 have hlow:∀ g,g∈pre.map (·.1)→g<950:=fun g hg=>lowB_lt hp hg
 have hfz:∀ g,Mem.at (pre++Z) g=if(Nat.beq g 941 || Nat.ble 950 g)=true then frzBox (Mem.at (famC intV1 1 (pre++[(941,Box.row 0 false true 6 R)]) CS X) g)else Mem.at (famC intV1 1 (pre++[(941,Box.row 0 false true 6 R)]) CS X) g:=fun g=>by
  rw[hMat,hZat]
  by_cases h1:g∈pre.map (·.1)
  ·have hb:(Nat.beq g 941 || Nat.ble 950 g)=false:=by
    have h2:=hlow g h1
    have h3:g≠941:=fun e=>hno (e▸h1)
    have b1:Nat.beq g 941=false:=by
     cases hb:Nat.beq g 941 with
     | false=>rfl
     | true=>exact absurd (Nat.eq_of_beq_eq_true hb) h3
    have b2:Nat.ble 950 g=false:=by
     cases hb:Nat.ble 950 g with
     | false=>rfl
     | true=>have:=Nat.le_of_ble_eq_true hb;omega
    rw[b1,b2];rfl
   rw[if_pos h1,if_pos h1,hb];rfl
  ·rw [if_neg h1,if_neg h1]
   by_cases h2:941=g
   ·subst h2;rfl
   ·rw [if_neg h2,if_neg h2]
    by_cases h3:950=g
    ·subst h3;rfl
    ·rw[if_neg h3,if_neg h3]
     have b1:Nat.beq g 941=false:=by
      cases hb:Nat.beq g 941 with
      | false=>rfl
      | true=>exact absurd (Nat.eq_of_beq_eq_true hb).symm h2
     rw[b1,Bool.false_or,famZ_at,famM_at]
     by_cases h4:3000≤g
     ·rw[if_pos h4,if_pos h4,if_pos (Nat.ble_eq_true_of_le (by omega))]
      cases X[ix g]? <;> rfl
     ·rw[if_neg h4,if_neg h4]
      split<;>rfl
 refine DW_weak (Wk_freezeS (mem':=pre++Z) (fun g=>Nat.beq g 941 || Nat.ble 950 g) hfz (fun g kt et es h1 h2=>?_)) ?_
 ·rw [hMat]at h2
  by_cases h3:g∈pre.map (·.1)
  ·have:=hfz g
   rw[if_pos h1,hMat,hZat,if_pos h3,if_pos h3]at this
   have hl:=hlow g h3
   have h5:g≠941:=fun e=>hno (e▸h3)
   have b1:Nat.beq g 941=false:=by
    cases hb:Nat.beq g 941 with
    | false=>rfl
    | true=>exact absurd (Nat.eq_of_beq_eq_true hb) h5
   rw[b1,Bool.false_or]at h1
   have:=Nat.le_of_ble_eq_true h1
   omega
  ·rw [if_neg h3]at h2
   split at h2
   ·cases h2
   ·split at h2
    ·cases h2
    ·rw[famM_at]at h2
     split at h2
     ·cases hx:X[ix g]? with
      | none=>rw[hx]at h2;cases h2
      | some r=>rw[hx]at h2;cases h2
     ·cases h2
 ·have h950:Mem.at (pre++Z) 950 = .cells true true CS:=by
   rw[hZat,if_neg (fun hm=>by have:=hlow _ hm;omega)];rfl
  have h941:Mem.at (pre++Z) 941 = .row 0 true true 6 R:=by rw[hZat,if_neg hno];rfl
  have h3:Mem.at (pre++Z) 3 = .cells false true [.sl 950 n.bridges.length,.own 941 0 0 n.links.length]:=by
   rw[look_append,if_pos (mem_keys (by rw[hN];simp))];exact hN
  refine DW_cells 3 [.dat true (.slice (n.bridges.map bridgeV)),.dat true (.slice (n.links.map linkV))] h3 rfl (fun C hm j d d' v hd hd' hr=>?_) (h Z)
  match j,hd,hd' with
  | 0, hd,hd' =>
   injection hd with hd;injection hd' with hd';subst hd;subst hd'
   refine rd_sl (sz:=5) (fl:=true) hm h950 (fun _=>rfl) _ (fun i e h=>?_) (fun i j e x h1 h2=>?_) (by simp) hr
   ·rw[List.getElem?_map]at h
    obtain⟨r,_,rfl⟩:=Option.map_eq_some_iff.1 h
    rfl
   ·rw [List.getElem?_map]at h1
    obtain⟨b,hb,rfl⟩:=Option.map_eq_some_iff.1 h1
    have hi:=(List.getElem?_eq_some_iff.1 hb).1
    have hj:j<5:=(List.getElem?_eq_some_iff.1 h2).1
    have hcs:CS[i*5+j]? = (cellB n.bridges.length i b)[j]? := by
     show(brCS n.bridges.length n.bridges)[i*5+j]? = _
     rw[brCS_get _ _ _ _ hj,hb];rfl
    rw[hcs]
    unfold cellB
    rw[if_pos hi,decide_eq_true hi]
    match j,hj with
    | 0,_=>injection h2 with h2;subst h2;exact⟨rfl,_,_,rfl,rfl,fun _=>.inr rfl⟩
    | 1,_ =>
     injection h2 with h2;subst h2
     have hat:Mem.at (pre++Z) (nm i) = .row 0 true true 1 (b.prios.map intV1):=by
      have:=nm_ge i
      rw[hZat,if_neg (fun hm=>by have:=hlow _ hm;omega),if_neg (by omega),if_neg (by omega),famZ_at,if_pos this,ix_nm]
      have hX:X[i]? = some b.prios:=by
       show(priosOf n.bridges.length n.bridges)[i]? = _
       rw[priosOf_get hi,hb];rfl
      rw[hX]
     have h0:(List.drop 0 (b.prios.map intV1)).take b.prios.length=b.prios.map intV1:=by rw[List.drop_zero];exact List.take_of_length_le (by simp)
     refine⟨rfl,.own (nm i) 0 0 b.prios.length,true,rfl,?_,fun _=>.inl rfl⟩
     show(match Mem.at (pre++Z) (nm i)with | .row ver' true nw _ xs=>(bif Nat.beq 0 ver' then some (nw,V.slice ((xs.drop 0).take b.prios.length))else none)|_=>none)=_
     rw[hat]
     show some (true,V.slice (List.take b.prios.length (List.drop 0 (b.prios.map intV1))))=_
     rw[h0]
    | 2,_=>injection h2 with h2;subst h2;exact⟨rfl,_,_,rfl,rfl,fun _=>.inl rfl⟩
    | 3,_=>injection h2 with h2;subst h2;exact⟨rfl,_,_,rfl,rfl,fun _=>.inr rfl⟩
    | 4,_=>injection h2 with h2;subst h2;exact⟨rfl,_,_,rfl,rfl,fun _=>.inl rfl⟩
  | 1,hd,hd' =>
   injection hd with hd;injection hd' with hd';subst hd;subst hd'
   have:=asV0_ok (d := .own 941 0 0 n.links.length) (n:=true) (x := .slice R) hm (fun _ _=>rfl) (by
    show(match Mem.at (pre++Z) 941 with | .row ver' true nw _ xs=>(bif Nat.beq 0 ver' then some (nw,V.slice ((xs.drop 0).take n.links.length))else none)|_=>none)=_
    rw[h941]
    show some (true,V.slice (List.take n.links.length (List.drop 0 R)))=_
    rw[List.drop_zero,List.take_of_length_le (by show(n.links.map linkV).length≤_;simp)]) hr.rd
   exact this
  | j+2,hd,_=>simp at hd
section
variable {n : Net} {d : Doing}
theorem doS_up (hk:d.kind=2∨d.kind=3) {A:Nat} (hA:d.n=A) {l:Link} (hx:n.links[A]? = some l):doS n d=(⟨n.bridges,n.links.set A { l with up:=decide (d.kind=2) }⟩,0):=by
 have h1:=(List.getElem?_eq_some_iff.1 hx).1
 unfold doS
 rw[if_pos (by omega),if_neg (by omega),if_pos (by omega),hA,Int.toNat_natCast,modify_set hx]
theorem doS_cost (hk:d.kind=4) {A:Nat} (hA:d.n=A) {l:Link} (hx:n.links[A]? = some l) (hv:1≤d.value∧d.value≤200000):doS n d=(⟨n.bridges,n.links.set A { l with cost:=d.value }⟩,0):=by
 have h1:=(List.getElem?_eq_some_iff.1 hx).1
 unfold doS
 rw[if_pos (by omega),if_neg (by omega),if_neg (by omega),if_neg (by omega),hA,Int.toNat_natCast,modify_set hx]
theorem doS_none (hk:d.kind=2∨d.kind=3∨d.kind=4) (hn:d.n<0∨(n.links.length:Int)≤d.n):doS n d=(n,6):=by
 unfold doS
 rw[if_pos hk,if_pos hn]
theorem doS_dear (hk:d.kind=4) (hn:0≤d.n∧d.n<(n.links.length:Int)) (hv:d.value<1∨200000<d.value):doS n d=(n,3):=by
 unfold doS
 rw[if_pos (by omega),if_neg (by omega),if_neg (by omega),if_pos hv]
theorem doS_kind (h2:d.kind≠2) (h3:d.kind≠3) (h4:d.kind≠4) (h5:d.kind≠5):doS n d=(n,1):=by
 unfold doS
 rw[if_neg (by omega),if_neg h5]
theorem doS_pnone (hk:d.kind=5) (hn:d.n<0∨(n.bridges.length:Int)≤d.n):doS n d=(n,6):=by
 unfold doS
 rw[if_neg (by omega),if_pos hk,if_pos hn]
theorem doS_pbad (hk:d.kind=5) (hn:0≤d.n∧d.n<(n.bridges.length:Int)) (hv:d.tree<0∨15<d.tree∨d.value<0∨61440<d.value∨d.value.tmod 4096≠0):doS n d=(n,3):=by
 unfold doS
 rw[if_neg (by omega),if_pos hk,if_neg (by omega),if_pos hv]
theorem doS_prior (hk:d.kind=5) {A:Nat} (hA:d.n=A) {b:Bridge} (hb:n.bridges[A]? = some b) {tr:Nat} (htr:d.tree=tr) (hv:tr≤15∧0≤d.value∧d.value≤61440∧d.value.tmod 4096=0) :
  doS n d=(⟨n.bridges.set A { b with prios:=setPrio b.prios tr d.value },n.links⟩,0):=by
 have h1:=(List.getElem?_eq_some_iff.1 hb).1
 unfold doS
 rw[if_neg (by omega),if_pos hk,if_neg (by omega),if_neg (by omega),hA,htr,Int.toNat_natCast,Int.toNat_natCast,modify_set hb]
end
theorem frm_net (bs:List Bridge):FrmT (brCS bs.length bs) .gone (famM intV1 1 (priosOf bs.length bs)) ((List.range bs.length).map nm) where
 out g hg:=by
  refine Classical.byContradiction fun hn=>?_
  obtain⟨k,r,h1,h2⟩:=famM_mem intV1 1 (at_mem hn)
  injection h2 with h2
  have:=(List.getElem?_eq_some_iff.1 h1).1
  rw[priosOf_len (Nat.le_refl _)]at this
  exact hg (List.mem_map.2 ⟨k,List.mem_range.2 this,h2.symm⟩)
 row g:=by
  by_cases hn:Mem.at (famM intV1 1 (priosOf bs.length bs)) g = .gone
  ·exact .inl hn
  ·obtain⟨k,r,_,h2⟩:=famM_mem intV1 1 (at_mem hn)
   injection h2 with _ h2
   exact .inr ⟨_,_,_,h2⟩
 cs d hd g hg:=by
  obtain⟨i,_,rfl,hi⟩:=brCS_refs hd hg
  exact .inr (List.mem_map.2 ⟨i,List.mem_range.2 hi,rfl⟩)
 b := .inl rfl
theorem netQ_cases {nb g:Nat} (h:g∈netQ ((List.range nb).map nm)):g=3∨g=941∨g=950∨g=960∨∃ k,k<nb∧g=nm k:=by
 unfold netQ at h
 simp only[List.mem_cons,List.mem_map,List.mem_range]at h
 rcases h with h|h|h|h|⟨k,hk,rfl⟩
 ·exact .inl h
 ·exact .inr (.inl h)
 ·exact .inr (.inr (.inl h))
 ·exact .inr (.inr (.inr (.inl h)))
 ·exact .inr (.inr (.inr (.inr ⟨k,hk,rfl⟩)))
theorem memQ_sub {pre:Mem} {n:Net} (hp:lowB pre=true) (h3:Mem.at (famC intV1 1 pre (brCS n.bridges.length n.bridges) (priosOf n.bridges.length n.bridges)) 3 = .cells false true [.sl 950 n.bridges.length,.own 941 0 0 n.links.length])
  (h4:Mem.at (famC intV1 1 pre (brCS n.bridges.length n.bridges) (priosOf n.bridges.length n.bridges)) 941 = .row 0 false true 6 (n.links.map linkV)) :
  ∀ g,g∈netQ ((List.range n.bridges.length).map nm)→Mem.at (memQ n.bridges.length 0 n.links (brCS n.bridges.length n.bridges) .gone (famM intV1 1 (priosOf n.bridges.length n.bridges))) g=Mem.at (famC intV1 1 pre (brCS n.bridges.length n.bridges) (priosOf n.bridges.length n.bridges)) g:=fun g hg=>by
 rw[memQ_at]
 rcases netQ_cases hg with rfl|rfl|rfl|rfl|⟨k,hk,rfl⟩
 ·rw[h3];rfl
 ·rw[h4];rfl
 ·rw[famC_950 intV1 1 hp];rfl
 ·rw[famC_mid intV1 1 hp (by decide) (by decide)];rfl
 ·have:=nm_ge k
  rw[if_neg (by omega),if_neg (by omega),if_neg (by omega),if_neg (by omega),famC_hi intV1 1 hp (by omega)]
theorem put1_mut {ver sz:Nat} {xs:List (List V)} {M:Mem} (h:∀ g,M.at g ≠ .gone→(M.at g).mut=true) (g:Nat) (hg:Mem.at ((941,.row ver false true sz xs)::M) g ≠ .gone):(Mem.at ((941,.row ver false true sz xs)::M) g).mut=true:=by
 have e:Mem.at ((941,.row ver false true sz xs)::M) g=if 941=g then .row ver false true sz xs else M.at g:=by
  show look Box.gone _ g=_
  rw[look_cons];rfl
 rw[e]at hg ⊢
 split
 ·rfl
 ·rename_i h1
  rw[if_neg h1]at hg
  exact h g hg
theorem put1_keys {ver sz:Nat} {xs:List (List V)} (KT:List Nat):∀ g,g∈([(941,.row ver false true sz xs)]:Mem).map (·.1)→g∈netQ KT:=fun g h=>by
 simp only[List.map_cons,List.map_nil,List.mem_cons,List.mem_nil_iff,or_false]at h
 unfold netQ
 subst h;simp
theorem priosOf_set {k A:Nat} {bs:List Bridge} {b:Bridge} {ps:List Int} (hA:A<k):priosOf k (bs.set A { b with prios:=ps })=(priosOf k bs).set A ps:=by
 refine List.ext_getElem? fun j=>?_
 unfold priosOf
 rw[List.getElem?_map,List.getElem?_take,List.getElem?_set,List.getElem?_set,List.getElem?_map,List.getElem?_take,List.length_map,List.length_take]
 by_cases h1:A=j
 ·subst h1
  rw[if_pos hA,if_pos rfl,if_pos rfl]
  by_cases h2:A<bs.length
  ·rw[if_pos h2,if_pos (by omega)];rfl
  ·rw[if_neg h2,if_neg (by omega)];rfl
 ·rw[if_neg h1,if_neg h1]
def takeK (nb A:Nat):List Nat:=((List.range nb).filter fun k=>decide (k≠A)).map nm
theorem takeK_iff {nb A g:Nat}:g∈takeK nb A↔∃ k,k<nb∧k≠A∧g=nm k:=by
 unfold takeK
 simp only[List.mem_map,List.mem_filter,List.mem_range,decide_eq_true_eq]
 constructor
 ·rintro⟨k,⟨h1,h2⟩,h3⟩;exact⟨k,h1,h2,h3.symm⟩
 ·rintro⟨k,h1,h2,h3⟩;exact⟨k,⟨h1,h2⟩,h3.symm⟩
def takeT (A:Nat) (X:List (List Int)):Mem:=(nm A,.gone)::famM intV1 1 X
theorem takeT_at (A:Nat) (X:List (List Int)) (g:Nat):Mem.at (takeT A X) g=if nm A=g then .gone else Mem.at (famM intV1 1 X) g:=look_cons ..
theorem frm_take {bs:List Bridge} {A:Nat} {b:Bridge} (_hb:bs[A]? = some b):FrmT ((brCS bs.length bs).set (A*5+1) (.own 960 0 0 b.prios.length)) (.row 0 false true 1 (b.prios.map intV1)) (takeT A (priosOf bs.length bs)) (takeK bs.length A) where
 out g hg:=by
  rw[takeT_at]
  split
  ·rfl
  ·rename_i hne
   refine Classical.byContradiction fun hn=>?_
   obtain⟨k,r,h1,h2⟩:=famM_mem intV1 1 (at_mem hn)
   injection h2 with h2
   have:=(List.getElem?_eq_some_iff.1 h1).1
   rw[priosOf_len (Nat.le_refl _)]at this
   exact hg (takeK_iff.2 ⟨k,this,fun e=>hne (by rw[h2,e]),h2⟩)
 row g:=by
  rw[takeT_at]
  split
  ·exact .inl rfl
  ·by_cases hn:Mem.at (famM intV1 1 (priosOf bs.length bs)) g = .gone
   ·exact .inl hn
   ·obtain⟨k,r,_,h2⟩:=famM_mem intV1 1 (at_mem hn)
    injection h2 with _ h2
    exact .inr ⟨_,_,_,h2⟩
 cs d hd g hg:=by
  obtain⟨j,hj,hd⟩:=List.mem_iff_getElem.1 hd
  have h1:((brCS bs.length bs).set (A*5+1) (.own 960 0 0 b.prios.length))[j]? = some d:=by rw[List.getElem?_eq_getElem hj,hd]
  rw[List.getElem?_set]at h1
  split at h1
  ·split at h1
   ·injection h1 with h1;subst h1;injection hg with hg;exact .inl hg.symm
   ·cases h1
  ·rename_i hne
   obtain⟨b',hb',hd'⟩:=brCS_at h1
   rcases cellB_get hd' with⟨n,x,rfl⟩|⟨ho,hk,rfl⟩
   ·cases hg
   ·injection hg with hg
    exact .inr (takeK_iff.2 ⟨j / 5,hk,fun e=>hne (by omega),hg.symm⟩)
 b := .inr ⟨_,_,_,rfl⟩
theorem netQ_take {nb A g:Nat} (h:g∈netQ (takeK nb A)):g=3∨g=941∨g=950∨g=960∨∃ k,k<nb∧k≠A∧g=nm k:=by
 unfold netQ at h
 simp only[List.mem_cons]at h
 rcases h with h|h|h|h|h
 ·exact .inl h
 ·exact .inr (.inl h)
 ·exact .inr (.inr (.inl h))
 ·exact .inr (.inr (.inr (.inl h)))
 ·exact .inr (.inr (.inr (.inr (takeK_iff.1 h))))
end Go.Proofs.YtcdhlofhhcgohaaGreat
namespace Go.Proofs.YtcdhlofhhcgohaaGreat
open Go.RowKit
attribute [local irreducible] SStep DW DWin DOps thenQ inBlk loopQ retQ retQG FnF FnG FnI Wk IntKind.wrap IntKind.andI IntKind.orI IntKind.xorI IntKind.andNotI IntKind.shlI IntKind.shrI
theorem clone_intsO (l:List Int) (hl:l.length≤1099511627776):FnG Tryz.prog 96 [.dat false (.slice (l.map intV1))] [] (.own 1000 0 0 l.length) [(1000,.row 0 false true 1 (l.map intV1))]:=by
 refine fnG_of Tryz.func96 rfl rfl rfl ?_
 simp only[envD]
 repeat' (first|refine DW_isnil rfl rfl rfl (fun h0=>?_) ?_|(apply dt rfl;case h=>exact S_litO (els := []) _ rfl rfl rfl rfl rfl)|refine qU ?_|((first|apply dX rfl|apply Da rfl rfl|apply Db rfl rfl qN);(focus ((try intro hg);first|exact S_appM (f:=intV1) (us := []) (bs:=l) rfl rfl (.dat _ _) rfl rfl (.inr ⟨rfl,inferInstance⟩) rfl (by simp only[List.length_nil];omega)|exact qM));constructor)|refine qP ?_)
 ·have hl0:l=[]:=List.map_eq_nil_iff.1 h0
  subst hl0
  exact gOwn (Wk_g (fun g=>none) rfl rfl kq)
 ·exact gOwn (Wk_g (fun g=>if g=1000 then some 5 else none) rfl rfl kq)
theorem clone_linksO (l:List Link) (hl:l.length≤1048576):FnG Tryz.prog 95 [.dat false (.slice (l.map linkV))] [] (.own 1000 0 0 l.length) [(1000,.row 0 false true 6 (l.map linkV))]:=by
 refine fnG_of Tryz.func95 rfl rfl rfl ?_
 simp only[envD]
 repeat' (first|refine DW_isnil rfl rfl rfl (fun h0=>?_) ?_|(apply dt rfl;case h=>exact S_litO (els := []) _ rfl rfl rfl rfl rfl)|refine qU ?_|((first|apply dX rfl|apply Da rfl rfl|apply Db rfl rfl qN);(focus ((try intro hg);first|exact S_appM (f:=linkV) (us := []) (bs:=l) rfl rfl (.dat _ _) rfl rfl (.inr ⟨rfl,inferInstance⟩) rfl (by simp only[List.length_nil];omega)|exact qM));constructor)|refine qP ?_)
 ·have hl0:l=[]:=List.map_eq_nil_iff.1 h0
  subst hl0
  exact gOwn (Wk_g (fun g=>none) rfl rfl kq)
 ·exact gOwn (Wk_g (fun g=>if g=1000 then some 5 else none) rfl rfl kq)
theorem clone_bridgesO (l:List Bridge) (hl:l.length≤1048576):FnG Tryz.prog 94 [.dat false (.slice (l.map bridgeV))] [] (.own 1000 0 0 l.length) [(1000,.row 0 false false 5 (l.map bridgeV))]:=by
 refine fnG_of Tryz.func94 rfl rfl rfl ?_
 simp only[envD]
 repeat' (first|refine DW_isnil rfl rfl rfl (fun h0=>?_) ?_|(apply dt rfl;case h=>exact S_litO (els := []) _ rfl rfl rfl rfl rfl)|refine qU ?_|((first|apply dX rfl|apply Da rfl rfl|apply Db rfl rfl qN);(focus ((try intro hg);first|exact S_appM (f:=bridgeV) (us := []) (bs:=l) rfl rfl (.dat _ _) rfl rfl (.inl rfl) rfl (by simp only[List.length_nil];omega)|exact qM));constructor)|refine qP ?_)
 ·have hl0:l=[]:=List.map_eq_nil_iff.1 h0
  subst hl0
  exact gOwn (Wk_g (fun g=>none) rfl rfl kq)
 ·exact gOwn (Wk_g (fun g=>if g=1000 then some 5 else none) rfl rfl kq)
theorem clone_mindsO (l:List Mind) (hl:l.length≤1048576):FnG Tryz.prog 99 [.dat false (.slice (l.map Mind.cells))] [] (.own 1000 0 0 l.length) [(1000,.row 0 false false 9 (l.map Mind.cells))]:=by
 refine fnG_of Tryz.func99 rfl rfl rfl ?_
 simp only[envD]
 repeat' (first|refine DW_isnil rfl rfl rfl (fun h0=>?_) ?_|(apply dt rfl;case h=>exact S_litO (els := []) _ rfl rfl rfl rfl rfl)|refine qU ?_|((first|apply dX rfl|apply Da rfl rfl|apply Db rfl rfl qN);(focus ((try intro hg);first|exact S_appM (f:=Mind.cells) (us := []) (bs:=l) rfl rfl (.dat _ _) rfl rfl (.inl rfl) rfl (by simp only[List.length_nil];omega)|exact qM));constructor)|refine qP ?_)
 ·have hl0:l=[]:=List.map_eq_nil_iff.1 h0
  subst hl0
  exact gOwn (Wk_g (fun g=>none) rfl rfl kq)
 ·exact gOwn (Wk_g (fun g=>if g=1000 then some 5 else none) rfl rfl kq)
theorem clone_intsF (l:List Int) (hl:l.length≤1099511627776):FnF Tryz.prog 96 [.slice (l.map intV1)] (.slice (l.map intV1)):=by
 refine fnF_of Tryz.func96 rfl rfl rfl ?_
 simp only[envOf]
 repeat' (first|refine DW_isnil rfl rfl rfl (fun h0=>?_) ?_|(apply dt rfl;case h=>exact S_litO (els := []) _ rfl rfl rfl rfl rfl)|refine DW_seal 2 rfl rfl (by simp) ?_|refine qU ?_|((first|apply dX rfl|apply Da rfl rfl|apply Db rfl rfl qN);(focus ((try intro hg);first|exact S_appM (f:=intV1) (us := []) (bs:=l) rfl rfl (.dat _ _) rfl rfl (.inr ⟨rfl,inferInstance⟩) rfl (by simp only[List.length_nil];omega)|exact qM));constructor)|refine qP ?_)
 ·have hl0:l=[]:=List.map_eq_nil_iff.1 h0
  subst hl0
  exact ret1 rfl (.inl rfl) rfl
 ·exact ret1 rfl (.inl rfl) rfl
theorem clone_waysF (l:List Way) (hl:l.length≤1048576):FnF Tryz.prog 97 [.slice (l.map wayV)] (.slice (l.map wayV)):=by
 refine fnF_of Tryz.func97 rfl rfl rfl ?_
 simp only[envOf]
 repeat' (first|refine DW_isnil rfl rfl rfl (fun h0=>?_) ?_|(apply dt rfl;case h=>exact S_litO (els := []) _ rfl rfl rfl rfl rfl)|refine DW_seal 2 rfl rfl (by simp) ?_|refine qU ?_|((first|apply dX rfl|apply Da rfl rfl|apply Db rfl rfl qN);(focus ((try intro hg);first|exact S_appM (f:=wayV) (us := []) (bs:=l) rfl rfl (.dat _ _) rfl rfl (.inr ⟨rfl,inferInstance⟩) rfl (by simp only[List.length_nil];omega)|exact qM));constructor)|refine qP ?_)
 ·have hl0:l=[]:=List.map_eq_nil_iff.1 h0
  subst hl0
  exact ret1 rfl (.inl rfl) rfl
 ·exact ret1 rfl (.inl rfl) rfl
end Go.Proofs.YtcdhlofhhcgohaaGreat
namespace Go.Proofs.YtcdhlofhhcgohaaGreat
open Go.RowKit
def cellM (nw:Bool) (m:Mind):List D := [.dat false (.int .u64 m.vec.root),.dat false (.int .i64 m.vec.cost),.dat false (.int .u64 m.vec.bridge),.dat false (.int .i64 m.vec.port),.dat false (.int .i64 m.age),.dat false (.int .i64 m.rootPort),.dat nw (.slice (m.ports.map intV1)),.dat nw (.slice (m.roles.map intV1)),.dat nw (.slice (m.calm.map intV1))]
theorem cellM_len (nw:Bool) (m:Mind):(cellM nw m).length=9:=rfl
def miCS (k:Nat) (l:List Mind):List D:=(l.mapIdx fun i m=>cellM (decide (i<k)) m).flatten
theorem miCS_h9 {k:Nat} {l:List Mind} (i:Nat) (e:List D) (h:(l.mapIdx fun i m=>cellM (decide (i<k)) m)[i]? = some e):e.length=9:=by
 rw[List.getElem?_mapIdx]at h
 obtain⟨b,_,rfl⟩:=Option.map_eq_some_iff.1 h
 exact cellM_len _ b
theorem miCS_len (k:Nat) (l:List Mind):(miCS k l).length=l.length*9:=by
 unfold miCS
 rw[flatten_len (sz:=9) _ miCS_h9,List.length_mapIdx]
theorem miCS_get (k:Nat) (l:List Mind) (i o:Nat) (ho:o<9):(miCS k l)[i*9+o]? = (l[i]?).bind fun m=>(cellM (decide (i<k)) m)[o]? := by
 unfold miCS
 rw[flatten_get (sz:=9) _ miCS_h9 i o ho,List.getElem?_mapIdx]
 cases l[i]? <;> rfl
theorem miCS_zero (l:List Mind):(l.map Mind.cells).flatten.map (D.dat false)=miCS 0 l:=by
 have e:∀ l:List Mind,((l.map Mind.cells).flatten).map (D.dat false)=(l.map (cellM false)).flatten:=fun l=>by
  induction l with
  | nil=>rfl
  | cons m r ih=>rw[List.map_cons,List.flatten_cons,List.map_append,ih,List.map_cons,List.flatten_cons];rfl
 rw[e]
 unfold miCS
 congr 1
 refine List.ext_getElem? fun i=>?_
 rw[List.getElem?_map,List.getElem?_mapIdx]
 rfl
theorem miCS_take {k i:Nat} {l:List Mind} {m:Mind} (hm:l[i]? = some m):((miCS k l).drop (i*9)).take 9=cellM (decide (i<k)) m:=by
 have hi:=(List.getElem?_eq_some_iff.1 hm).1
 refine drop_take_get rfl (fun j hj=>?_) (by rw[miCS_len];omega)
 rw[miCS_get k l i j hj,hm];rfl
theorem miCS_step {k:Nat} {l:List Mind} {m:Mind} (hm:l[k]? = some m) :
  (((miCS k l).set (k*9+6) (.dat true (.slice (m.ports.map intV1)))).set (k*9+7) (.dat true (.slice (m.roles.map intV1)))).set (k*9+8) (.dat true (.slice (m.calm.map intV1)))=miCS (k+1) l:=by
 have hk:=(List.getElem?_eq_some_iff.1 hm).1
 refine List.ext_getElem? fun j=>?_
 rw[List.getElem?_set,List.getElem?_set,List.getElem?_set,List.length_set,List.length_set,miCS_len]
 have hg:∀ o,o<9→(miCS (k+1) l)[k*9+o]? = (cellM true m)[o]? := fun o ho=>by rw[miCS_get (k+1) l k o ho,hm,decide_eq_true (Nat.lt_succ_self k)];rfl
 by_cases h8:k*9+8=j
 ·rw[if_pos h8,if_pos (by omega),←h8,hg 8 (by decide)];rfl
 by_cases h7:k*9+7=j
 ·rw[if_neg h8,if_pos h7,if_pos (by omega),←h7,hg 7 (by decide)];rfl
 by_cases h6:k*9+6=j
 ·rw[if_neg h8,if_neg h7,if_pos h6,if_pos (by omega),←h6,hg 6 (by decide)];rfl
 rw[if_neg h8,if_neg h7,if_neg h6]
 have e:j=j / 9*9+j % 9:=by omega
 have h9:j % 9<9:=Nat.mod_lt _ (by decide)
 rw[e,miCS_get k l _ _ h9,miCS_get (k+1) l _ _ h9]
 cases hbj:l[j / 9]? with
 | none=>rfl
 | some b1 =>
  show(cellM (decide (j / 9<k)) b1)[j % 9]? = (cellM (decide (j / 9<k+1)) b1)[j % 9]?
  by_cases h1:j / 9=k
  ·have ho:j % 9<6:=by omega
   generalize j % 9=o at ho
   match o,ho with
   | 0,_=>rfl
   | 1,_=>rfl
   | 2,_=>rfl
   | 3,_=>rfl
   | 4,_=>rfl
   | 5,_=>rfl
  ·have hlt:j / 9<k↔j / 9<k+1:=by omega
   rw[decide_eq_decide.2 hlt]
theorem miCS_out {C:Cf} {m:Mem} {g:Nat} {v:Value} {l:List Mind} (hm:HoldsM C m) (hg:m.at g = .cells true true (miCS l.length l)) (h:RdS C m (.sl g l.length) v):RdD C m (.dat true (.slice (l.map Mind.cells))) v:=by
 refine rd_sl (sz:=9) (fl:=true) hm hg (fun _=>rfl) _ (fun i e h=>?_) (fun i j e x h1 h2=>?_) (by simp) h
 ·rw[List.getElem?_map]at h
  obtain⟨r,_,rfl⟩:=Option.map_eq_some_iff.1 h
  rfl
 ·rw[List.getElem?_map]at h1
  obtain⟨r,hr,rfl⟩:=Option.map_eq_some_iff.1 h1
  have hi:=(List.getElem?_eq_some_iff.1 hr).1
  have hj:j<9:=by have:=(List.getElem?_eq_some_iff.1 h2).1;exact this
  rw[miCS_get _ _ _ _ hj,hr,decide_eq_true hi]
  match j,hj with
  | 0,_=>injection h2 with h2;subst h2;exact⟨rfl,_,_,rfl,rfl,fun _=>.inr rfl⟩
  | 1,_=>injection h2 with h2;subst h2;exact⟨rfl,_,_,rfl,rfl,fun _=>.inr rfl⟩
  | 2,_=>injection h2 with h2;subst h2;exact⟨rfl,_,_,rfl,rfl,fun _=>.inr rfl⟩
  | 3,_=>injection h2 with h2;subst h2;exact⟨rfl,_,_,rfl,rfl,fun _=>.inr rfl⟩
  | 4,_=>injection h2 with h2;subst h2;exact⟨rfl,_,_,rfl,rfl,fun _=>.inr rfl⟩
  | 5,_=>injection h2 with h2;subst h2;exact⟨rfl,_,_,rfl,rfl,fun _=>.inr rfl⟩
  | 6,_=>injection h2 with h2;subst h2;exact⟨rfl,_,_,rfl,rfl,fun _=>.inl rfl⟩
  | 7,_=>injection h2 with h2;subst h2;exact⟨rfl,_,_,rfl,rfl,fun _=>.inl rfl⟩
  | 8,_=>injection h2 with h2;subst h2;exact⟨rfl,_,_,rfl,rfl,fun _=>.inl rfl⟩
theorem miCS_dat (k:Nat) (l:List Mind):∀ (j:Nat) d,(miCS k l)[j]? = some d→∃ n x,d = .dat n x:=fun j d h=>by
 have e:j=j / 9*9+j % 9:=by omega
 have h9:j % 9<9:=Nat.mod_lt _ (by decide)
 rw[e,miCS_get k l _ _ h9]at h
 obtain⟨m,hm,hd⟩:=Option.bind_eq_some_iff.1 h
 generalize j % 9=o at h9 hd
 match o,h9 with
 | 0,_=>injection hd with hd;exact⟨_,_,hd.symm⟩
 | 1,_=>injection hd with hd;exact⟨_,_,hd.symm⟩
 | 2,_=>injection hd with hd;exact⟨_,_,hd.symm⟩
 | 3,_=>injection hd with hd;exact⟨_,_,hd.symm⟩
 | 4,_=>injection hd with hd;exact⟨_,_,hd.symm⟩
 | 5,_=>injection hd with hd;exact⟨_,_,hd.symm⟩
 | 6,_=>injection hd with hd;exact⟨_,_,hd.symm⟩
 | 7,_=>injection hd with hd;exact⟨_,_,hd.symm⟩
 | 8,_=>injection hd with hd;exact⟨_,_,hd.symm⟩
theorem listLe_dat {s e:Mem} {ρ:Nat→Option Nat} {CS:List D} (h:∀ (j:Nat) d,CS[j]? = some d→∃ n x,d = .dat n x):listLe s e ρ CS CS :=
 listLe_of rfl fun j d d' h1 h2=>by
  rw[h1]at h2
  injection h2 with h2
  subst h2
  obtain⟨n,x,rfl⟩:=h j d h1
  exact⟨n,rfl,.inl rfl⟩
attribute [local irreducible] SStep DW DWin DOps thenQ inBlk loopQ retQ retQG FnF FnG FnI FnM Wk IntKind.wrap IntKind.andI IntKind.orI IntKind.xorI IntKind.andNotI IntKind.shlI IntKind.shrI miCS
set_option maxHeartbeats 4000000 in
theorem talk_mine (n:Net) (h:n.good) (t:List (List Mind)) (ht:goodT n t):FnF Tryz.prog 54 [talkV t] (talkV t):=by
 refine fnF_of Tryz.func54 rfl rfl rfl ?_
 simp only[envOf,talkV]
 have hmt:(t.map mindsRow).length=t.length:=by simp
 have hnb:=h.nb
 have htl:=ht.l
 repeat' (first|refine qU ?_|refine qW ?_|((first|apply dX rfl|apply Da rfl rfl|apply Db rfl rfl qN);(focus ((try intro hg);first|exact qMo));constructor)|refine qP ?_)
 refine DW_loop (fun k:Nat=>⟨[(1,.ptr 1 0),(2,.ptr 2 0),(3,.ptr 3 0),(10,.dat false (.slice (t.map mindsRow))),(11,.dat true (.int .i64 (t.map mindsRow).length)),(12,.dat true (.int .i64 k))],
   [(1,.cells false true [.dat false (.slice (t.map mindsRow))]),(2,.cells false true [.nil]),(3,.cells false true [.own 51 k 0 (t.take k).length]),(51,.row k false true 1 ((t.take k).map mindsRow))],55⟩)
  (fun k=>k≤t.length) (fun k=>t.length-k) 0 (Nat.zero_le _)
  (Wk_g (fun g=>if g=51 then none else some g) rfl rfl kq) (fun k hk=>?_)
 by_cases hlt:k<t.length
 ·have hx:t[(k:Int).toNat]? = some t[k]:=by simp[hlt]
  have hst:t.take (k+1)=t.take k++[t[k]]:=by rw[List.take_add_one,List.getElem?_eq_getElem hlt];rfl
  have htk:(t.take k).length=k:=by rw[List.length_take];omega
  obtain⟨hl,hm⟩:=ht.m t[k] (List.getElem_mem hlt)
  generalize t[k]=l at hx hst hl hm
  generalize t.take k=us at hst htk
  have hcl:=clone_mindsO l (by omega)
  by_cases hl0:l=[]
  ·subst hl0
   repeat' (first|refine DW_mark 49 (bx := .row 1 false false 9 (([]:List Mind).map Mind.cells)) rfl ?_|refine qU ?_|refine qW ?_|(apply dt rfl;case h=>first|exact S_callG0 49 hcl rfl rfl (.own _ _))|((first|apply dX rfl|apply Da rfl rfl|apply Db rfl rfl qN);(focus ((try intro hg);first|exact S_ixM rfl rfl (by omega) hx|exact S_callG0 49 hcl rfl rfl (.own _ _)|exact qMo));constructor)|refine qP ?_)
   intro _
   repeat' (first|refine qU ?_|refine qW ?_|((first|apply dX rfl|apply Da rfl rfl|apply Db rfl rfl qN);(focus ((try intro hg);first|exact qMo));constructor)|refine qP ?_)
   refine DW_loop (fun _:Unit=>⟨[(1,.ptr 1 0),(2,.ptr 2 0),(3,.ptr 3 0),(10,.dat false (.slice (t.map mindsRow))),(11,.dat true (.int .i64 (t.map mindsRow).length)),(12,.dat true (.int .i64 k)),(6,.own 49 0 0 0),(19,.dat true (.int .i64 0)),(20,.dat true (.int .i64 0))],[(1,.cells false true [.dat false (.slice (t.map mindsRow))]),(2,.cells false true [.nil]),(3,.cells false true [.own 51 k 0 us.length]),(51,.row k false true 1 (us.map mindsRow)),(49,.row 0 false false 9 (([]:List Mind).map Mind.cells))],55⟩)
    (fun _=>True) (fun _=>0) () trivial (Wk_g some rfl rfl kqp) (fun _ _=>?_)
   refine DW_freeze 49 (fun _ _ _ h=>by cases h) ?_
   refine DW_slot 6 (.dat true (.slice (([]:List Mind).map Mind.cells))) (fun C v hm hd=>RdF.flat (asV_ok hm (fun _ _=>rfl) (show asV _ (.own 49 0 0 0)=some (false,.slice [])from rfl) hd) .nil) ?_
   repeat' (first|refine qU ?_|refine qW ?_|((first|apply dX rfl|apply Da rfl rfl|apply Db rfl rfl qN);(focus ((try intro hg);first|exact S_appM (f:=mindsRow) (us:=us) (bs := [[]]) rfl rfl (.dat _ _) rfl rfl (.inl rfl) rfl (by simp only[List.length_singleton];omega)|exact qMo));constructor)|refine qP ?_)
   refine loop_again (k+1) hlt (by omega) ?_
   rw[hst]
   exact Wk_g some rfl rfl kqp
  ·repeat' (first|refine DW_mark 49 (bx := .row 1 false false 9 (l.map Mind.cells)) rfl ?_|refine qU ?_|refine qW ?_|(apply dt rfl;case h=>first|exact S_callG0 49 hcl rfl rfl (.own _ _))|((first|apply dX rfl|apply Da rfl rfl|apply Db rfl rfl qN);(focus ((try intro hg);first|exact S_ixM rfl rfl (by omega) hx|exact S_callG0 49 hcl rfl rfl (.own _ _)|exact qMo));constructor)|refine qP ?_)
   intro _
   refine DW_cellsOfN 49 rfl (by decide) (by simpa using hl0) ?_
   rw[miCS_zero]
   refine DW_weak (s':=⟨[(1,.ptr 1 0),(2,.ptr 2 0),(3,.ptr 3 0),(10,.dat false (.slice (t.map mindsRow))),(11,.dat true (.int .i64 (t.map mindsRow).length)),(12,.dat true (.int .i64 k)),(6,.sl 49 l.length)],[(1,.cells false true [.dat false (.slice (t.map mindsRow))]),(2,.cells false true [.nil]),(3,.cells false true [.own 51 k 0 us.length]),(51,.row k false true 1 (us.map mindsRow)),(49,.cells false true (miCS 0 l))],55⟩) (Wk_g some rfl rfl ⟨⟨⟨_,_,rfl,rfl,by(repeat' (first|exact ownLe2 rfl rfl rfl|exact trivial|rfl|exact listLe_map _|exact⟨_,rfl,.inl rfl⟩|exact⟨_,rfl,.inr (.inl rfl)⟩|exact⟨_,rfl,.inr (.inr rfl)⟩|refine⟨_,_,rfl,rfl,?_⟩|exact⟨_,rfl,rfl⟩|exact⟨_,_,_,_,rfl,rfl,rfl⟩|exact⟨_,rfl⟩|exact⟨_,_,rfl⟩|apply And.intro))⟩,⟨_,_,rfl,rfl,by(repeat' (first|exact ownLe2 rfl rfl rfl|exact trivial|rfl|exact listLe_map _|exact⟨_,rfl,.inl rfl⟩|exact⟨_,rfl,.inr (.inl rfl)⟩|exact⟨_,rfl,.inr (.inr rfl)⟩|refine⟨_,_,rfl,rfl,?_⟩|exact⟨_,rfl,rfl⟩|exact⟨_,_,_,_,rfl,rfl,rfl⟩|exact⟨_,rfl⟩|exact⟨_,_,rfl⟩|apply And.intro))⟩,⟨_,_,rfl,rfl,by(repeat' (first|exact ownLe2 rfl rfl rfl|exact trivial|rfl|exact listLe_map _|exact⟨_,rfl,.inl rfl⟩|exact⟨_,rfl,.inr (.inl rfl)⟩|exact⟨_,rfl,.inr (.inr rfl)⟩|refine⟨_,_,rfl,rfl,?_⟩|exact⟨_,rfl,rfl⟩|exact⟨_,_,_,_,rfl,rfl,rfl⟩|exact⟨_,rfl⟩|exact⟨_,_,rfl⟩|apply And.intro))⟩,⟨_,rfl⟩,⟨_,_,rfl,rfl,listLe_dat (miCS_dat 0 l)⟩,trivial⟩,by(repeat' (first|exact ownLe2 rfl rfl rfl|exact trivial|rfl|exact listLe_map _|exact⟨_,rfl,.inl rfl⟩|exact⟨_,rfl,.inr (.inl rfl)⟩|exact⟨_,rfl,.inr (.inr rfl)⟩|refine⟨_,_,rfl,rfl,?_⟩|exact⟨_,rfl,rfl⟩|exact⟨_,_,_,_,rfl,rfl,rfl⟩|exact⟨_,rfl⟩|exact⟨_,_,rfl⟩|apply And.intro))⟩) ?_
   repeat' (first|refine qU ?_|((first|apply dX rfl|apply Da rfl rfl|apply Db rfl rfl qN);(focus ((try intro hg);first|exact S_len_sl rfl|exact qM));constructor)|refine qP ?_)
   refine DW_loop (fun i:Nat=>⟨[(1,.ptr 1 0),(2,.ptr 2 0),(3,.ptr 3 0),(10,.dat false (.slice (t.map mindsRow))),(11,.dat true (.int .i64 (t.map mindsRow).length)),(12,.dat true (.int .i64 k)),(6,.sl 49 l.length),(18,.sl 49 l.length),(19,.dat true (.int .i64 l.length)),(20,.dat true (.int .i64 i))],[(1,.cells false true [.dat false (.slice (t.map mindsRow))]),(2,.cells false true [.nil]),(3,.cells false true [.own 51 k 0 us.length]),(51,.row k false true 1 (us.map mindsRow)),(49,.cells false true (miCS i l))],55⟩)
    (fun i=>i≤l.length) (fun i=>l.length-i) 0 (Nat.zero_le _)
    (Wk_g some rfl rfl ⟨⟨⟨_,_,rfl,rfl,by(repeat' (first|exact ownLe2 rfl rfl rfl|exact trivial|rfl|exact listLe_map _|exact⟨_,rfl,.inl rfl⟩|exact⟨_,rfl,.inr (.inl rfl)⟩|exact⟨_,rfl,.inr (.inr rfl)⟩|refine⟨_,_,rfl,rfl,?_⟩|exact⟨_,rfl,rfl⟩|exact⟨_,_,_,_,rfl,rfl,rfl⟩|exact⟨_,rfl⟩|exact⟨_,_,rfl⟩|apply And.intro))⟩,⟨_,_,rfl,rfl,by(repeat' (first|exact ownLe2 rfl rfl rfl|exact trivial|rfl|exact listLe_map _|exact⟨_,rfl,.inl rfl⟩|exact⟨_,rfl,.inr (.inl rfl)⟩|exact⟨_,rfl,.inr (.inr rfl)⟩|refine⟨_,_,rfl,rfl,?_⟩|exact⟨_,rfl,rfl⟩|exact⟨_,_,_,_,rfl,rfl,rfl⟩|exact⟨_,rfl⟩|exact⟨_,_,rfl⟩|apply And.intro))⟩,⟨_,_,rfl,rfl,by(repeat' (first|exact ownLe2 rfl rfl rfl|exact trivial|rfl|exact listLe_map _|exact⟨_,rfl,.inl rfl⟩|exact⟨_,rfl,.inr (.inl rfl)⟩|exact⟨_,rfl,.inr (.inr rfl)⟩|refine⟨_,_,rfl,rfl,?_⟩|exact⟨_,rfl,rfl⟩|exact⟨_,_,_,_,rfl,rfl,rfl⟩|exact⟨_,rfl⟩|exact⟨_,_,rfl⟩|apply And.intro))⟩,⟨_,rfl⟩,⟨_,_,rfl,rfl,listLe_dat (miCS_dat 0 l)⟩,trivial⟩,by(repeat' (first|exact ownLe2 rfl rfl rfl|exact trivial|rfl|exact listLe_map _|exact⟨_,rfl,.inl rfl⟩|exact⟨_,rfl,.inr (.inl rfl)⟩|exact⟨_,rfl,.inr (.inr rfl)⟩|refine⟨_,_,rfl,rfl,?_⟩|exact⟨_,rfl,rfl⟩|exact⟨_,_,_,_,rfl,rfl,rfl⟩|exact⟨_,rfl⟩|exact⟨_,_,rfl⟩|apply And.intro))⟩) (fun i hi=>?_)
   by_cases hli:i<l.length
   ·have hy:l[i]? = some l[i]:=by simp[hli]
    have hgm:=hm i l[i] hy
    have htk':=miCS_take (k:=i) hy
    rw[decide_eq_false (Nat.lt_irrefl i)]at htk'
    have hs3:=miCS_step hy
    have hbl:=miCS_len i l
    generalize l[i]=m at hy hgm htk' hs3
    have hc1:=clone_intsF m.ports (by rw[hgm.p];have:=rawP_len n.links i;rw[portsOf_eq];unfold sortI;rw[List.length_mergeSort];have:=h.nl;omega)
    have hc2:=clone_intsF m.roles (by rw[hgm.r];have:=rawP_len n.links i;rw[portsOf_eq];unfold sortI;rw[List.length_mergeSort];have:=h.nl;omega)
    have hc3:=clone_intsF m.calm (by rw[hgm.c];have:=rawP_len n.links i;rw[portsOf_eq];unfold sortI;rw[List.length_mergeSort];have:=h.nl;omega)
    have b1:Nat.ble (((i:Nat):Int).toNat*9+6+1) (miCS i l).length=true:=Nat.ble_eq_true_of_le (by rw[hbl,Int.toNat_natCast];omega)
    have s1:splice (miCS i l) (((i:Nat):Int).toNat*9+6) [.dat true (.slice (m.ports.map intV1))]=(miCS i l).set (i*9+6) (.dat true (.slice (m.ports.map intV1))):=by
     rw[Int.toNat_natCast];exact splice_set (by rw[hbl];omega)
    have b2:Nat.ble (((i:Nat):Int).toNat*9+7+1) (splice (miCS i l) (((i:Nat):Int).toNat*9+6) [.dat true (.slice (m.ports.map intV1))]).length=true:=Nat.ble_eq_true_of_le (by rw[s1,List.length_set,hbl,Int.toNat_natCast];omega)
    have s2:splice (splice (miCS i l) (((i:Nat):Int).toNat*9+6) [.dat true (.slice (m.ports.map intV1))]) (((i:Nat):Int).toNat*9+7) [.dat true (.slice (m.roles.map intV1))]=((miCS i l).set (i*9+6) (.dat true (.slice (m.ports.map intV1)))).set (i*9+7) (.dat true (.slice (m.roles.map intV1))):=by
     rw[s1,Int.toNat_natCast];exact splice_set (by rw[List.length_set,hbl];omega)
    have b3:Nat.ble (((i:Nat):Int).toNat*9+8+1) (splice (splice (miCS i l) (((i:Nat):Int).toNat*9+6) [.dat true (.slice (m.ports.map intV1))]) (((i:Nat):Int).toNat*9+7) [.dat true (.slice (m.roles.map intV1))]).length=true:=Nat.ble_eq_true_of_le (by rw[s2,List.length_set,List.length_set,hbl,Int.toNat_natCast];omega)
    have s3:splice (splice (splice (miCS i l) (((i:Nat):Int).toNat*9+6) [.dat true (.slice (m.ports.map intV1))]) (((i:Nat):Int).toNat*9+7) [.dat true (.slice (m.roles.map intV1))]) (((i:Nat):Int).toNat*9+8) [.dat true (.slice (m.calm.map intV1))]=miCS (i+1) l:=by
     rw[s2,Int.toNat_natCast,←hs3];exact splice_set (by rw[List.length_set,List.length_set,hbl];omega)
    repeat' (first|refine qU ?_|refine qW ?_|((first|apply dX rfl|apply Da rfl rfl|apply Db rfl rfl qN);(focus ((try intro hg);first|exact S_ix_sl rfl rfl (by omega) (by omega)|exact S_loadC rfl rfl htk' (by rw[hbl];simp only[Int.toNat_natCast];omega)|exact S_call hc1 rfl|exact S_call hc2 rfl|exact S_call hc3 rfl|exact S_store rfl rfl rfl rfl rfl b1|exact S_store rfl rfl rfl rfl rfl b2|exact S_store rfl rfl rfl rfl rfl b3|exact qMo));constructor)|refine qP ?_)
    refine loop_again (i+1) hli (by omega) ?_
    rw[s3]
    exact(Wk_g some rfl rfl ⟨⟨⟨_,_,rfl,rfl,by(repeat' (first|exact ownLe2 rfl rfl rfl|exact trivial|rfl|exact listLe_map _|exact⟨_,rfl,.inl rfl⟩|exact⟨_,rfl,.inr (.inl rfl)⟩|exact⟨_,rfl,.inr (.inr rfl)⟩|refine⟨_,_,rfl,rfl,?_⟩|exact⟨_,rfl,rfl⟩|exact⟨_,_,_,_,rfl,rfl,rfl⟩|exact⟨_,rfl⟩|exact⟨_,_,rfl⟩|apply And.intro))⟩,⟨_,_,rfl,rfl,by(repeat' (first|exact ownLe2 rfl rfl rfl|exact trivial|rfl|exact listLe_map _|exact⟨_,rfl,.inl rfl⟩|exact⟨_,rfl,.inr (.inl rfl)⟩|exact⟨_,rfl,.inr (.inr rfl)⟩|refine⟨_,_,rfl,rfl,?_⟩|exact⟨_,rfl,rfl⟩|exact⟨_,_,_,_,rfl,rfl,rfl⟩|exact⟨_,rfl⟩|exact⟨_,_,rfl⟩|apply And.intro))⟩,⟨_,_,rfl,rfl,by(repeat' (first|exact ownLe2 rfl rfl rfl|exact trivial|rfl|exact listLe_map _|exact⟨_,rfl,.inl rfl⟩|exact⟨_,rfl,.inr (.inl rfl)⟩|exact⟨_,rfl,.inr (.inr rfl)⟩|refine⟨_,_,rfl,rfl,?_⟩|exact⟨_,rfl,rfl⟩|exact⟨_,_,_,_,rfl,rfl,rfl⟩|exact⟨_,rfl⟩|exact⟨_,_,rfl⟩|apply And.intro))⟩,⟨_,rfl⟩,⟨_,_,rfl,rfl,listLe_dat (miCS_dat _ l)⟩,trivial⟩,by(repeat' (first|exact ownLe2 rfl rfl rfl|exact trivial|rfl|exact listLe_map _|exact⟨_,rfl,.inl rfl⟩|exact⟨_,rfl,.inr (.inl rfl)⟩|exact⟨_,rfl,.inr (.inr rfl)⟩|refine⟨_,_,rfl,rfl,?_⟩|exact⟨_,rfl,rfl⟩|exact⟨_,_,_,_,rfl,rfl,rfl⟩|exact⟨_,rfl⟩|exact⟨_,_,rfl⟩|apply And.intro))⟩)
   ·have he:i=l.length:=by omega
    subst he
    refine DW_freeze 49 (fun _ _ _ h=>by cases h) ?_
    refine DW_slot 6 (.dat true (.slice (l.map Mind.cells))) (fun C v hm hd=>miCS_out hm rfl hd) ?_
    repeat' (first|refine qU ?_|refine qW ?_|((first|apply dX rfl|apply Da rfl rfl|apply Db rfl rfl qN);(focus ((try intro hg);first|exact S_appM (f:=mindsRow) (us:=us) (bs := [l]) rfl rfl (.dat _ _) rfl rfl (.inl rfl) rfl (by simp only[List.length_singleton];omega)|exact qMo));constructor)|refine qP ?_)
    refine loop_again (k+1) hlt (by omega) ?_
    rw[hst]
    exact Wk_g some rfl rfl kqp
 ·have he:t.take k=t:=List.take_of_length_le (by omega)
  rw[he]
  refine DW_weak (s':=⟨[(2,.ptr 2 0),(3,.ptr 3 0),(11,.dat true (.int .i64 (t.map mindsRow).length)),(12,.dat true (.int .i64 k))],
   [(2,.cells false true [.nil]),(3,.cells false true [.own 51 0 0 t.length]),(51,.row 0 false true 1 (t.map mindsRow))],55⟩) (Wk_g some rfl rfl kqp) ?_
  refine DW_freeze 51 (fun _ _ _ h=>by cases h) ?_
  repeat' (first|refine qU ?_|refine qW ?_|((first|apply dX rfl|apply Da rfl rfl|apply Db rfl rfl qN);(focus ((try intro hg);first|exact qMo));constructor)|refine qP ?_)
  refine retN (.cellA inferInstance rfl rfl rfl rfl qF .nil) ?_
  show V.agg [V.slice (List.take _ (List.drop 0 _))]=_
  rw[List.drop_zero,List.take_of_length_le (by simp)]
end Go.Proofs.YtcdhlofhhcgohaaGreat
