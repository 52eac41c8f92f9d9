/- Rings of two trees: where another bridge is first on tree 1. -/
import Derived.Test.YtcdhlofhhcgohaaGreatxdTopS
namespace Go.Proofs.YtcdhlofhhcgohaaGreat
open Go.RowKit
def rvR (v:Int):Region:=⟨[114],0,[⟨v,1⟩]⟩
def treN (k f:Nat) (R:Region):Net:=⟨(List.range k).map fun i:Nat=>⟨10+(i:Int),if i=f then [32768,4096]else [],R⟩,(lineN k true).links⟩
theorem tre_len (k f:Nat) (R:Region):(treN k f R).bridges.length=k:=by simp[treN]
theorem tre_get {k f:Nat} {R:Region} {i:Nat} (hi:i<k):(treN k f R).bridges[i]? = some ⟨10+(i:Int),if i=f then [32768,4096]else [],R⟩:=by
 unfold treN
 rw[List.getElem?_map,List.getElem?_range hi];rfl
theorem tre_id {k f:Nat} (R:Region) (t:Int) (i:Nat):idN (treN k f R) t i=idN (treN k f regR) t i:=by
 by_cases hi:i<k
 ·rw[idN_of (tre_get hi),idN_of (tre_get hi)];rfl
 ·unfold idN
  rw[List.getElem?_eq_none (by rw[tre_len];omega),List.getElem?_eq_none (by rw[tre_len];omega)]
theorem tre_dist {k f:Nat} (R:Region) (t:Int) (r:Nat) (c:List Int):distB (treN k f R) t r c=distB (treN k f regR) t r c:=by
 unfold distB
 rw[tre_len,tre_len,show upL (treN k f R)=upL (treN k f regR)from rfl]
 simp only[tre_id R]
theorem tre_plan {k f:Nat} (R:Region) (t:Int) (r:Nat) (c:List Int):planS (treN k f R) t r c=planS (treN k f regR) t r c:=by
 unfold planS sayS
 rw[tre_len,tre_len,show upL (treN k f R)=upL (treN k f regR)from rfl,show(treN k f R).links=(treN k f regR).links from rfl]
 simp only[tre_id R]
theorem tre_dist0 : ∀ k,k<13→4≤k→∀ f,f<k→1≤f→distB (treN k f regR) 0 0 (dRing k 0)=true:=by decide +kernel
theorem tre_dist1 : ∀ k,k<13→4≤k→∀ f,f<k→1≤f→distB (treN k f regR) 1 f (dRing k f)=true:=by decide +kernel
theorem tre_fld0 : ∀ k,k<13→4≤k→∀ f,f<k→1≤f→seesN (fldP (lineN k true).links (opX (planS (treN k f regR) 0 0 (dRing k 0))) 41 [(0,0)])=k-1:=by decide +kernel
theorem tre_fld1 : ∀ k,k<13→4≤k→∀ f,f<k→1≤f→seesN (fldP (lineN k true).links (opX (planS (treN k f regR) 1 f (dRing k f))) 41 [(0,0)])=k-1:=by decide +kernel
theorem rvR_wrong {v:Int} (h:1≤v∧v≤4094):(rvR v).wrong=0:=by
 have hb:¬(⟨v,1⟩:Way).bad:=by
  show ¬(v<1∨4094<v∨(1:Int)<1∨15<(1:Int))
  omega
 unfold Region.wrong rvR
 rw[if_neg (by show ¬(([114]:List UInt8).length<1∨32<([114]:List UInt8).length);decide),if_neg (by show ¬([114]:List UInt8).all okC=false;decide),if_neg (by show ¬((0:Int)<0∨65535<(0:Int));decide)]
 show waysW 0 [⟨v,1⟩]=0
 rw[waysW,if_neg hb]
 try rw[if_neg (by simp only;omega)]
 rfl
theorem tre_typed (k f:Nat) (v:Int):(treN k f (rvR v)).typed:=by
 constructor<;>intro b hb<;>obtain⟨i,_,rfl⟩:=List.mem_map.1 hb
 ·show(0:Int)≤10+i;omega
 ·show 1≤9223372036854775807;decide
theorem tre_one (k f:Nat) (R:Region):∀ b∈(treN k f R).bridges,b.region=R:=fun b hb=>by obtain⟨i,_,rfl⟩:=List.mem_map.1 hb;rfl
theorem tre_good {k f:Nat} (hk:k≤12) {v:Int} (h:1≤v∧v≤4094):(treN k f (rvR v)).good:=by
 have hl:=lineN_good hk true
 have hnb:(treN k f (rvR v)).bridges.length=(lineN k true).bridges.length:=by rw[tre_len,lineN_len]
 refine⟨by rw[tre_len];exact hk,hl.nl,fun b hb=>?_,?_,fun l hx=>by rw[hnb];exact hl.lk l hx,hl.po⟩
 ·obtain ⟨i,hi,rfl⟩:=List.mem_map.1 hb
  have hi:=List.mem_range.1 hi
  refine⟨?_,?_,?_,fun p hp=>?_,Region.right_of (rvR_wrong h)⟩
  ·show(0:Int)≤10+i;omega
  ·show 10+(i:Int)≤281474976710655;omega
  ·show(if i=f then [32768,4096]else([]:List Int)).length≤16
   split<;>decide
  ·have hp:p∈(if i=f then [32768,4096]else([]:List Int)):=hp
   split at hp
   ·simp only[List.mem_cons,List.mem_nil_iff,or_false]at hp
    rcases hp with rfl|rfl<;>decide
   ·cases hp
 ·have ha:=hl.ad
  unfold lineN at ha
  unfold treN
  simp only at ha ⊢
  rw[List.pairwise_map]at ha ⊢
  exact ha
theorem tre_wrong {k f:Nat} (hk:k≤12) {v:Int} (h:1≤v∧v≤4094):(treN k f (rvR v)).wrong.1=0 :=
 (Net.wrong_iff (tre_typed k f v)).2 ⟨tre_good hk h,fun b hb=>by rw[tre_one k f (rvR v) b hb];exact rvR_wrong h⟩
def setW (v:Int) (b:Bridge):Bridge:=⟨b.addr,b.prios,⟨b.region.name,b.region.rev,[⟨v,1⟩]⟩⟩
theorem tre_made {k f:Nat} (hf:f<k) (v:Int):((lineN k true).bridges.map (setW v)).set f ⟨10+(f:Int),[32768,4096],rvR v⟩=(treN k f (rvR v)).bridges:=by
 apply List.ext_getElem?
 intro i
 rw[List.getElem?_set]
 by_cases hi:i<k
 ·rw[tre_get hi]
  by_cases e:f=i
  ·subst e
   rw[if_pos rfl,if_pos (by rw[List.length_map,lineN_len];exact hf),if_pos rfl]
  ·rw[if_neg e,if_neg (fun h=>e h.symm)]
   unfold lineN
   rw[List.getElem?_map,List.getElem?_map,List.getElem?_range hi];rfl
 ·rw[if_neg (by omega),List.getElem?_eq_none (by rw[List.length_map,lineN_len];omega),List.getElem?_eq_none (by rw[tre_len];omega)]
theorem tre_root {n:Net} (hg:n.good) {tree r:Nat} {c:List Int} (hd:Dist n tree r c) {trees:Nat} (h4:trees≤4) (ht:tree<trees):∃ l,(ticksN n (start0 n trees) 90)[tree]? = some l∧l.length=n.bridges.length∧∀ i,i<n.bridges.length→(mAt l i).vec.root=idN n tree r:=by
 have h0:=start0_good (n:=n) h4
 obtain⟨l0,hl0⟩:∃ l0,(start0 n trees)[tree]? = some l0:=⟨_,List.getElem?_eq_getElem (by simpa[start0]using ht)⟩
 have hl:l0.length=n.bridges.length:=(h0.m l0 (List.mem_of_getElem? hl0)).1
 refine⟨tkN n tree l0 90,by rw[ticksN_get,hl0];rfl,by rw[tkN_len,hl],fun i hi=>?_⟩
 rw[(settle_vec hg tree hl hi (by decide)).1]
 exact(dist_fin hg hd hi).1
end Go.Proofs.YtcdhlofhhcgohaaGreat
