/- Contracts: book.Wrong, Old; the document's. -/
import Derived.Test.YtcdhlofhhcgohaaGreatwcTlo
import Derived.Test.YtcdhlofhhcgohaaGreatwbMap
import Derived.Test.YtcdhlofhhcgohaaGreatwcRgW
import Derived.Test.YtcdhlofhhcgohaaGreatwdPlB
namespace Go.Proofs.YtcdhlofhhcgohaaGreat
def cAt (m:Mind) (j:Nat):Int:=(m.calm[j]?).getD 0
def ixI (p:Int):List Int→Option Nat
 | []=>none
 | x::r=>if x=p then some 0 else(ixI p r).map (· + 1)
theorem zmI {p:Int}:∀ {l:List Int} {k:Nat},ixI p l=some k→l[k]? = some p
 | [],k,h=>by cases h
 | x::r,k,h=>by
  unfold ixI at h
  split at h
  ·rename_i e
   injection h with h
   subst h;rw[e];rfl
  ·obtain⟨k',hk,rfl⟩:=Option.map_eq_some_iff.1 h
   rw[List.getElem?_cons_succ];exact zmI hk
def zpi (m:Mind) (p:Int):Bool:=match ixI p m.ports with
 | none=>false
 | some k=>decide (k<m.calm.length) && decide (50≤cAt m k)
def zdh (t:List (List Mind)) (tree bridge port:Int):Bool :=
 if tree<0∨(t.length:Int)≤tree∨bridge<0 then false else match (t[tree.toNat]?).getD []with
  | l=>if(l.length:Int)≤bridge then false else zpi (mAt l bridge.toNat) port
section
variable {n : Net} (h : n.good) (tree : Int)
include h
end
end Go.Proofs.YtcdhlofhhcgohaaGreat
namespace Go.Proofs.YtcdhlofhhcgohaaGreat
open Go.RowKit
structure Ent where
 vid:Int
 addr:Int
 port:Int
 age:Int
def entV (e:Ent):List V := [.int .i64 e.vid,.int .u64 e.addr,.int .i64 e.port,.int .i64 e.age]
instance : CellsI entV 4:=⟨fun _=>rfl,fun t d h=>by
 simp only[entV,List.mem_cons,List.mem_nil_iff,or_false]at h
 rcases h with rfl|rfl|rfl|rfl<;>rfl⟩
instance : FlatI entV:=⟨fun t d h=>by
 simp only[entV,List.mem_cons,List.mem_nil_iff,or_false]at h
 rcases h with rfl|rfl|rfl|rfl<;>exact .int _ _⟩
def zhS : Ent:=⟨0,0,0,0⟩
def Ent.bad (e:Ent):Prop:=e.vid<1∨4094<e.vid∨281474976710655<e.addr∨e.port<0∨30<e.port∨e.age<0∨300<e.age
instance (e : Ent):Decidable e.bad:=by unfold Ent.bad;infer_instance
def Ent.lt (e:Ent) (v a:Int):Prop:=e.vid<v∨e.vid=v∧e.addr<a
instance (e : Ent) (v a:Int):Decidable (e.lt v a):=by unfold Ent.lt;infer_instance
def Ent.is (e:Ent) (v a:Int):Prop:=e.vid=v∧e.addr=a
instance (e : Ent) (v a:Int):Decidable (e.is v a):=by unfold Ent.is;infer_instance
def Ent.cmp (e:Ent) (v a:Int):Int:=orI [cmpI e.vid v,cmpI e.addr a]
theorem Ent.cmp_lt (e:Ent) (v a:Int):e.cmp v a<0↔e.lt v a:=by
 unfold Ent.cmp Ent.lt
 simp only[orI,cmpI]
 repeat' split
 all_goals (first|omega|(constructor<;>intro h<;>omega))
theorem Ent.cmp_is (e:Ent) (v a:Int):e.cmp v a=0↔e.is v a:=by
 unfold Ent.cmp Ent.is
 simp only[orI,cmpI]
 repeat' split
 all_goals (first|omega|(constructor<;>intro h<;>omega))
theorem Ent.lt_trans {x y:Ent} {v a:Int} (h:x.lt y.vid y.addr) (k:y.lt v a):x.lt v a:=by unfold Ent.lt at *;omega
def zhT (last:Option Ent) (i:Nat):List Ent→Int×Nat
 | []=>(0,0)
 | e::r=>if e.bad then(3,i)else if last.any (fun p => !decide (p.lt e.vid e.addr))then(2,i)else zhT (some e) (i+1) r
def zcc (l:List Ent):Int×Nat:=if 30<l.length then(5,0)else zhT none 0 l
structure rightB (l:List Ent):Prop where
 n:l.length≤30
 w:∀ e∈l,¬e.bad
 s:l.Pairwise (fun x y=>x.lt y.vid y.addr)
theorem zih : ∀ (l:List Ent) (last:Option Ent) (i:Nat),(zhT last i l).1=0→(∀ e∈l,¬e.bad∧∀ p,last=some p→p.lt e.vid e.addr)∧l.Pairwise (fun x y=>x.lt y.vid y.addr)
 | [],_,_,_=>by simp
 | e::r,last,i,h=>by
  rw[zhT]at h
  split at h
  ·cases h
  ·rename_i hb
   split at h
   ·cases h
   ·rename_i hl
    obtain⟨k1,k2⟩:=zih r (some e) (i+1) h
    have hp:∀ p,last=some p→p.lt e.vid e.addr:=fun p hp=>by subst hp;simpa using hl
    refine⟨fun u hu=>?_,List.pairwise_cons.2 ⟨fun u hu=>(k1 u hu).2 e rfl,k2⟩⟩
    rcases List.mem_cons.1 hu with rfl|hu
    ·exact⟨hb,hp⟩
    ·exact⟨(k1 u hu).1,fun p h=>Ent.lt_trans (hp p h) ((k1 u hu).2 e rfl)⟩
theorem right_of {l:List Ent} (h:(zcc l).1=0):rightB l:=by
 unfold zcc at h
 split at h
 ·cases h
 ·rename_i hn
  obtain⟨k1,k2⟩:=zih l none 0 h
  exact⟨by omega,fun e he=>(k1 e he).1,k2⟩
def bsG {α:Type} (c:α→Int) (d:α) (l:List α):Nat→Nat→Nat→Nat
 | 0,i,_=>i
 | f+1,i,j=>if i<j then(if c (l.getD ((i+j) / 2) d)<0 then bsG c d l f ((i+j) / 2+1) j else bsG c d l f i ((i+j) / 2))else i
theorem zpj {α:Type} {c:α→Int} {d:α} {l:List α} {f i j:Nat} (h:¬i<j):bsG c d l f i j=i:=by
 cases f with
 | zero=>rfl
 | succ f=>rw[bsG,if_neg h]
theorem zgp {α:Type} {c:α→Int} {d:α} {l:List α} {n:Nat} (hn:∀ k,k<n→(c (l.getD k d)<0)) (hn2:∀ k,n≤k→k<l.length→¬c (l.getD k d)<0) (hnl:n≤l.length) :
  ∀ (f i j:Nat),j-i≤f→i≤n→n≤j→j≤l.length→bsG c d l f i j=n
 | 0,i,j,h1,h2,h3,h4=>by rw[bsG];omega
 | f+1,i,j,h1,h2,h3,h4=>by
  rw[bsG]
  split
  ·split
   ·rename_i hlt hc
    refine zgp hn hn2 hnl f _ j (by omega) ?_ h3 h4
    by_cases hk:n≤(i+j) / 2
    ·exact absurd hc (hn2 _ hk (by omega))
    ·omega
   ·rename_i hlt hc
    refine zgp hn hn2 hnl f i _ (by omega) h2 ?_ (by omega)
    by_cases hk:(i+j) / 2<n
    ·exact absurd (hn _ hk) hc
    ·omega
  ·omega
def zcd (l:List Ent) (v a:Int):Nat:=bsG (fun e=>e.cmp v a) zhS l l.length 0 l.length
def zd8 (l:List Ent) (v a:Int):Bool:=decide (zcd l v a<l.length) && decide ((l.getD (zcd l v a) zhS).cmp v a=0)
theorem zpk {α:Type} {c:α→Int} {d:α} {l:List α}:∀ (f i j:Nat),i≤j→i≤bsG c d l f i j∧bsG c d l f i j≤j
 | 0,i,j,h=>by rw[bsG];omega
 | f+1,i,j,h=>by
  rw[bsG]
  split
  ·split
   ·have:=zpk (c:=c) (d:=d) (l:=l) f ((i+j) / 2+1) j (by omega);omega
   ·have:=zpk (c:=c) (d:=d) (l:=l) f i ((i+j) / 2) (by omega);omega
  ·omega
theorem zrb (l:List Ent) (v a:Int):zcd l v a≤l.length:=(zpk l.length 0 l.length (Nat.zero_le _)).2
def zhU (l:List Ent) (v a:Int):Int×Bool:=if zd8 l v a then((l.getD (zcd l v a) zhS).port,true)else(0,false)
def zji (a:Int):Bool:=decide (IntKind.u64.andI (IntKind.u64.shrI a 40) 1=1)
def zd9 (v a p:Int):Bool:=zji a || decide (281474976710655<a) || decide (v<1) || decide (4094<v) || decide (p<0) || decide (30<p)
def zaU (l:List Ent) (v a p:Int):List Ent :=
 if zd9 v a p then l else if zd8 l v a then l.set (zcd l v a) ⟨v,a,p,0⟩else if l.length<30 then l.take (zcd l v a)++⟨v,a,p,0⟩::l.drop (zcd l v a)else l
end Go.Proofs.YtcdhlofhhcgohaaGreat
namespace Go.Proofs.YtcdhlofhhcgohaaGreat
open Go.RowKit
theorem Ent.lt_or (e:Ent) (v a:Int):e.lt v a∨e.is v a∨(v<e.vid∨v=e.vid∧a<e.addr):=by unfold Ent.lt Ent.is;omega
theorem zii {l1 l2:List Ent} {v a:Int} (h1:∀ e∈l1,e.lt v a) (h2:∀ e∈l2,¬e.lt v a):zcd (l1++l2) v a=l1.length∧zd8 (l1++l2) v a=l2.head?.any (fun e=>decide (e.is v a)):=by
 have hi:zcd (l1++l2) v a=l1.length:=by
  refine zgp (n:=l1.length) (fun k hk=>?_) (fun k hk hk2=>?_) (by simp) _ _ _ (Nat.le_refl _) (Nat.zero_le _) (by simp) (Nat.le_refl _)
  ·rw[List.getD_eq_getElem?_getD,List.getElem?_append_left hk,List.getElem?_eq_getElem hk]
   exact(Ent.cmp_lt _ _ _).2 (h1 _ (List.getElem_mem hk))
  ·rw[List.length_append]at hk2
   rw[List.getD_eq_getElem?_getD,List.getElem?_append_right hk,List.getElem?_eq_getElem (by omega),Option.getD_some,Ent.cmp_lt]
   exact h2 _ (List.getElem_mem _)
 refine⟨hi,?_⟩
 unfold zd8
 rw[hi,List.getD_eq_getElem?_getD,List.getElem?_append_right (Nat.le_refl _),Nat.sub_self]
 cases l2 with
 | nil=>simp
 | cons e r =>
  simp only[List.length_append,List.length_cons,List.getElem?_cons_zero,Option.getD_some,List.head?_cons,Option.any_some,Ent.cmp_is]
  rw[decide_eq_true (by omega),Bool.true_and]
theorem zkx {l:List Ent} (hs:l.Pairwise (fun x y=>x.lt y.vid y.addr)) (v a:Int):∃ l1 l2,l=l1++l2∧(∀ e∈l1,e.lt v a)∧∀ e∈l2,¬e.lt v a:=by
 induction l with
 | nil=>exact⟨[],[],rfl,by simp,by simp⟩
 | cons e r ih =>
  obtain⟨h1,h2⟩:=List.pairwise_cons.1 hs
  by_cases h:e.lt v a
  ·obtain⟨l1,l2,k1,k2,k3⟩:=ih h2
   refine⟨e::l1,l2,by rw[k1];rfl,fun x hx=>?_,k3⟩
   rcases List.mem_cons.1 hx with rfl|hx
   ·exact h
   ·exact k2 x hx
  ·refine⟨[],e::r,rfl,by simp,fun x hx hlt=>?_⟩
   rcases List.mem_cons.1 hx with rfl|hx
   ·exact h hlt
   ·exact h (Ent.lt_trans (h1 x hx) hlt)
inductive See (l:List Ent) (v a:Int):Prop
 | had (l1:List Ent) (e:Ent) (r:List Ent) (h:l=l1++e::r) (h1:∀ x∈l1,x.lt v a) (he:e.is v a) (h2:∀ x∈r,e.lt x.vid x.addr)
 | new (l1 l2:List Ent) (h:l=l1++l2) (h1:∀ x∈l1,x.lt v a) (h2:∀ x∈l2,v<x.vid∨v=x.vid∧a<x.addr)
theorem see {l:List Ent} (hs:l.Pairwise (fun x y=>x.lt y.vid y.addr)) (v a:Int):See l v a:=by
 obtain⟨l1,l2,h,h1,h2⟩:=zkx hs v a
 cases l2 with
 | nil=>exact .new l1 [] h h1 (by simp)
 | cons e r =>
  have hs2:=(List.pairwise_append.1 (h▸hs)).2.1
  obtain⟨k1,_⟩:=List.pairwise_cons.1 hs2
  by_cases he:e.is v a
  ·exact .had l1 e r h h1 he k1
  ·refine .new l1 (e::r) h h1 (fun x hx=>?_)
   rcases Ent.lt_or x v a with q|q|q
   ·exact absurd q (h2 x hx)
   ·exfalso
    have hne:=h2 e (List.mem_cons.2 (.inl rfl))
    rcases List.mem_cons.1 hx with rfl|hx
    ·exact he q
    ·have:=k1 x hx
     unfold Ent.lt Ent.is at *
     omega
   ·exact q
theorem zmJ {l1 r:List Ent} {e:Ent} {v a:Int} (h1:∀ x∈l1,x.lt v a) (he:e.is v a) (h2:∀ x∈r,e.lt x.vid x.addr):zcd (l1++e::r) v a=l1.length∧zd8 (l1++e::r) v a=true:=by
 obtain⟨k1,k2⟩:=zii (l2:=e::r) h1 (fun x hx=>by
  rcases List.mem_cons.1 hx with rfl|hx
  ·unfold Ent.lt Ent.is at *;omega
  ·have:=h2 x hx;unfold Ent.lt Ent.is at *;omega)
 exact⟨k1,by rw[k2];simpa using he⟩
theorem zjj {l1 l2:List Ent} {v a:Int} (h1:∀ x∈l1,x.lt v a) (h2:∀ x∈l2,v<x.vid∨v=x.vid∧a<x.addr):zcd (l1++l2) v a=l1.length∧zd8 (l1++l2) v a=false:=by
 obtain⟨k1,k2⟩:=zii (l2:=l2) h1 (fun x hx=>by have:=h2 x hx;unfold Ent.lt;omega)
 refine⟨k1,?_⟩
 rw[k2]
 cases l2 with
 | nil=>rfl
 | cons e r =>
  have:=h2 e (List.mem_cons.2 (.inl rfl))
  simp only[List.head?_cons,Option.any_some,decide_eq_false_iff_not]
  unfold Ent.is;omega
theorem zky {l1 r:List Ent} {e:Ent} {v a p:Int} (h1:∀ x∈l1,x.lt v a) (he:e.is v a) (h2:∀ x∈r,e.lt x.vid x.addr) (hp:zd9 v a p=false):zaU (l1++e::r) v a p=l1++⟨v,a,p,0⟩::r:=by
 obtain⟨k1,k2⟩:=zmJ h1 he h2
 unfold zaU
 rw[hp,if_neg (by simp),if_pos k2,k1]
 simp
theorem zkz {l1 l2:List Ent} {v a p:Int} (h1:∀ x∈l1,x.lt v a) (h2:∀ x∈l2,v<x.vid∨v=x.vid∧a<x.addr) (hp:zd9 v a p=false) (hn:(l1++l2).length<30):zaU (l1++l2) v a p=l1++⟨v,a,p,0⟩::l2:=by
 obtain⟨k1,k2⟩:=zjj h1 h2
 unfold zaU
 rw[hp,if_neg (by simp),k2,if_neg (by simp),if_pos hn,k1]
 simp
theorem zij {l1 l2:List Ent} {v a p:Int} (h1:∀ x∈l1,x.lt v a) (h2:∀ x∈l2,v<x.vid∨v=x.vid∧a<x.addr) (hn:¬(l1++l2).length<30):zaU (l1++l2) v a p=l1++l2:=by
 obtain⟨k1,k2⟩:=zjj h1 h2
 unfold zaU
 split
 ·rfl
 ·rw[k2,if_neg (by simp)]
theorem zik {l:List Ent} {v a p:Int} (hp:zd9 v a p=true):zaU l v a p=l:=by unfold zaU;rw[if_pos hp]
theorem zrc {v a p:Int} (h:zd9 v a p=false):zji a=false∧a≤281474976710655∧1≤v∧v≤4094∧0≤p∧p≤30:=by
 unfold zd9 at h
 simp only[Bool.or_eq_false_iff,decide_eq_false_iff_not]at h
 obtain⟨⟨⟨⟨⟨h0,h1⟩,h2⟩,h3⟩,h4⟩,h5⟩:=h
 exact⟨h0,by omega,by omega,by omega,by omega,by omega⟩
theorem sorted_put {l1 r:List Ent} {v a p:Int} (h0:(l1++r).Pairwise (fun x y=>x.lt y.vid y.addr)) (h1:∀ x∈l1,x.lt v a) (h2:∀ x∈r,v<x.vid∨v=x.vid∧a<x.addr):(l1++(⟨v,a,p,0⟩:Ent)::r).Pairwise (fun x y=>x.lt y.vid y.addr):=by
 obtain⟨k1,k2,k3⟩:=List.pairwise_append.1 h0
 refine List.pairwise_append.2 ⟨k1,List.pairwise_cons.2 ⟨fun x hx=>h2 x hx,k2⟩,fun x hx y hy=>?_⟩
 rcases List.mem_cons.1 hy with rfl|hy
 ·exact h1 x hx
 ·exact k3 x hx y hy
theorem zpl {v a p:Int} (h:zd9 v a p=false):¬(⟨v,a,p,0⟩:Ent).bad:=by
 have:=zrc h
 unfold Ent.bad
 simp only
 omega
theorem zkA {e:Ent} {v a:Int} {r:List Ent} (he:e.is v a) (h2:∀ x∈r,e.lt x.vid x.addr):∀ x∈r,v<x.vid∨v=x.vid∧a<x.addr:=fun x hx=>by
 have:=h2 x hx
 unfold Ent.lt Ent.is at *;omega
theorem zrd {l1 r:List Ent} {e:Ent} (h:(l1++e::r).Pairwise (fun x y=>x.lt y.vid y.addr)):(l1++r).Pairwise (fun x y=>x.lt y.vid y.addr) :=
 h.sublist (List.append_sublist_append (List.Sublist.refl l1) (List.sublist_cons_self e r))
where List.append_sublist_append {α:Type} {a b c d:List α} (h:a.Sublist b) (k:c.Sublist d):(a++c).Sublist (b++d):=List.Sublist.append h k
theorem zeS {l:List Ent} {v a p:Int} (h:rightB l):rightB (zaU l v a p)∧l.length≤(zaU l v a p).length∧(zaU l v a p).length≤l.length+1:=by
 by_cases hp:zd9 v a p=true
 ·rw[zik hp];exact⟨h,by omega,by omega⟩
 have hp:zd9 v a p=false:=by simpa using hp
 have hn:=h.n
 have hm:∀ x∈l,¬x.bad:=h.w
 have hs:=h.s
 rcases see hs v a with⟨l1,e,r,rfl,h1,he,h2⟩|⟨l1,l2,rfl,h1,h2⟩
 ·rw[zky h1 he h2 hp]
  refine⟨⟨by simpa using hn,fun x hx=>?_,sorted_put (zrd hs) h1 (zkA he h2)⟩,by simp,by simp⟩
  rcases List.mem_append.1 hx with hx|hx
  ·exact hm x (List.mem_append.2 (.inl hx))
  ·rcases List.mem_cons.1 hx with rfl|hx
   ·exact zpl hp
   ·exact hm x (List.mem_append.2 (.inr (List.mem_cons.2 (.inr hx))))
 ·by_cases hf:(l1++l2).length<30
  ·rw[zkz h1 h2 hp hf]
   rw[List.length_append]at hf
   refine⟨⟨by simp;omega,fun x hx=>?_,sorted_put hs h1 h2⟩,by simp,by simp;omega⟩
   rcases List.mem_append.1 hx with hx|hx
   ·exact hm x (List.mem_append.2 (.inl hx))
   ·rcases List.mem_cons.1 hx with rfl|hx
    ·exact zpl hp
    ·exact hm x (List.mem_append.2 (.inr hx))
  ·rw[zij h1 h2 hf]
   exact⟨h,by omega,by omega⟩
def zck (l:List Ent) (v a:Int):Int×Bool:=match l.find? (fun e=>decide (e.is v a))with|some e=>(e.port,true)|none=>(0,false)
theorem zkB {l:List Ent} {v a:Int} (h:∀ x∈l,¬x.is v a):l.find? (fun e=>decide (e.is v a))=none:=by
 rw[List.find?_eq_none]
 intro x hx
 simpa using h x hx
theorem zlK {x:Ent} {v a:Int} (h:x.lt v a):¬x.is v a:=by unfold Ent.lt Ent.is at *;omega
theorem zre {l1 r:List Ent} {e:Ent} {v a:Int} (h1:∀ x∈l1,¬x.is v a) (he:e.is v a):zck (l1++e::r) v a=(e.port,true):=by
 unfold zck
 rw[List.find?_append,zkB h1]
 simp[he]
theorem zmK {l:List Ent} {v a:Int} (h1:∀ x∈l,¬x.is v a):zck l v a=(0,false):=by
 unfold zck
 rw[zkB h1]
theorem look_eq {l:List Ent} (hs:l.Pairwise (fun x y=>x.lt y.vid y.addr)) (v a:Int):zhU l v a=zck l v a:=by
 rcases see hs v a with⟨l1,e,r,rfl,h1,he,h2⟩|⟨l1,l2,rfl,h1,h2⟩
 ·obtain⟨k1,k2⟩:=zmJ h1 he h2
  rw[zre (fun x hx=>zlK (h1 x hx)) he]
  unfold zhU
  rw[if_pos k2,k1]
  simp
 ·obtain⟨k1,k2⟩:=zjj h1 h2
  rw[zmK (fun x hx=>by
   rcases List.mem_append.1 hx with hx|hx
   ·exact zlK (h1 x hx)
   ·have:=h2 x hx;unfold Ent.is;omega)]
  unfold zhU
  rw[k2,if_neg (by simp)]
end Go.Proofs.YtcdhlofhhcgohaaGreat
namespace Go.Proofs.YtcdhlofhhcgohaaGreat
open Go.RowKit
def zbA (b:Bool):List V := [.bool b]
instance : CellsI zbA 1:=⟨fun _=>rfl,fun _ d h=>by simp[zbA]at h;subst h;rfl⟩
instance : FlatI zbA:=⟨fun _ d h=>by simp[zbA]at h;subst h;exact .bool _⟩
end Go.Proofs.YtcdhlofhhcgohaaGreat
namespace Go.Proofs.YtcdhlofhhcgohaaGreat
open Go.RowKit
def zf9 (l:List Ent):Nat→Option Ent
 | 0=>none
 | k+1=>l[k]?
attribute [local irreducible] SStep DW DWin DOps zaG zaE zaJ retQ zaN FnF FnG Wk IntKind.wrap IntKind.andI IntKind.orI IntKind.xorI IntKind.andNotI IntKind.shlI IntKind.shrI Ent.cmp bsG
theorem zil (e:Ent) (v a:Int):FnF Tryz.prog 142 [.agg (entV e),.int .i64 v,.int .u64 a] (.int .i64 (e.cmp v a)):=by
 refine zal Tryz.func142 rfl rfl rfl ?_
 simp only[zap]
 repeat' (first|refine qU ?_|((first|apply dX rfl|apply Da rfl rfl|apply Db rfl rfl qN);(focus ((try intro hg);first|exact zac (zoJ _ _) rfl|exact zac (zoI _ _) rfl|exact zac (zsf [_,_]) rfl|exact qM));constructor)|refine qP ?_)
 exact ret1 rfl (.inl rfl) (by with_unfolding_all rfl)
theorem zjk (e:Ent) (v a:Int):FnF Tryz.prog 180 [.agg (entV e),.int .u64 a,.rp [.int .i64 v]] (.int .i64 (e.cmp v a)):=by
 refine zal Tryz.func180 rfl rfl rfl ?_
 simp only[zap]
 repeat' (first|refine qU ?_|((first|apply dX rfl|apply Da rfl rfl|apply Db rfl rfl qN);(focus ((try intro hg);first|exact zac (zil e v a) rfl|exact qM));constructor)|refine qP ?_)
 exact ret1 rfl (.inl rfl) rfl
theorem shr1b (a:Nat) (_h:a<9223372036854775808):IntKind.u64.shrI (a:Int) 1=((a / 2:Nat):Int):=by
 have e:(2:Int) ^ (min (1:Int).toNat IntKind.u64.bits)=2:=by decide
 with_unfolding_all unfold IntKind.shrI
 rw[e,Int.fdiv_eq_ediv_of_nonneg _ (by decide)];omega
set_option maxHeartbeats 1000000 in
theorem ztH (l:List Ent) (v a:Int) (hl:l.length≤4194304):FnF Tryz.prog 179 [.slice (l.map entV),.int .u64 a,.fn 180 [.rp [.int .i64 v]]] (.tuple [.int .i64 (zcd l v a),.bool (zd8 l v a)]):=by
 refine zal Tryz.func179 rfl rfl rfl ?_
 simp only[zap]
 have hml:(l.map entV).length=l.length:=by simp
 repeat' (first|refine qU ?_|((first|apply dX rfl|apply Da rfl rfl|apply Db rfl rfl qN);(focus ((try intro hg);first|exact qM));constructor)|refine qP ?_)
 refine zag (fun p:Nat×Nat=>⟨[(0,.dat false (.slice (l.map entV))),(1,.dat false (.int .u64 a)),(2,.dat false (.fn 180 [.rp [.int .i64 v]])),(8,.dat true (.int .i64 (l.map entV).length)),(9,.dat true (.int .i64 p.1)),(10,.dat true (.int .i64 p.2))],[],49⟩)
  (fun p=>p.1≤p.2∧p.2≤l.length∧∃ f,p.2-p.1≤f∧bsG (fun e=>e.cmp v a) zhS l f p.1 p.2=zcd l v a) (fun p=>p.2-p.1) (0,(l.map entV).length) ⟨Nat.zero_le _,by simp,l.length,by simp,by rw[hml];rfl⟩
  (Wk_g some rfl rfl kq) (fun p hR=>?_)
 obtain⟨i,j⟩:=p
 obtain⟨h1,h2,f,hf,hgo⟩:=hR
 simp only at h1 h2 hf hgo
 dsimp only
 by_cases hlt:i<j
 ·obtain⟨f,rfl⟩:∃ g,f=g+1:=⟨f-1,by omega⟩
  have hh:(i+j) / 2<l.length:=by omega
  have hx:l[(((i+j) / 2:Nat):Int).toNat]? = some l[(i+j) / 2]:=by rw[Int.toNat_natCast];exact List.getElem?_eq_getElem hh
  have hg:l.getD ((i+j) / 2) zhS=l[(i+j) / 2]:=by rw[List.getD_eq_getElem?_getD,List.getElem?_eq_getElem hh];rfl
  have hs:IntKind.u64.shrI ((i:Int)+(j:Int)) 1=(((i+j) / 2:Nat):Int):=by rw[←shr1b (i+j) (by omega)];rfl
  have hgo':(if(l[(i+j) / 2]).cmp v a<0 then bsG (fun e=>e.cmp v a) zhS l f ((i+j) / 2+1) j else bsG (fun e=>e.cmp v a) zhS l f i ((i+j) / 2))=zcd l v a:=by
   rw[←hgo,←hg]
   with_unfolding_all (rw[bsG,if_pos hlt])
  generalize l[(i+j) / 2]=w at hx hgo'
  have hhb:(i+j) / 2<j∧i≤(i+j) / 2:=by omega
  generalize (i+j) / 2=h at hx hs hgo' hhb hh
  by_cases hc:w.cmp v a<0
  ·rw[if_pos hc]at hgo'
   repeat' (first|refine qU ?_|((first|apply dX rfl|apply Da rfl rfl|apply Db rfl rfl qN);(focus ((try intro hg);first|exact zab (zam rfl rfl) (decide_eq_true (by omega:(i:Int)<(j:Int)))|exact zaw (zeD rfl rfl (by decide)) hs|exact zaf rfl rfl (by omega) hx|exact zaq rfl rfl (zjk w v a)|exact zab (zam rfl rfl) (decide_eq_true hc)|exact qM));constructor)|refine qP ?_)
   exact zaa (h+1,j) ⟨by simp only;omega,h2,f,by simp only;omega,hgo'⟩ (by simp only;omega) (Wk_g some rfl rfl kq)
  ·rw[if_neg hc]at hgo'
   repeat' (first|refine qU ?_|((first|apply dX rfl|apply Da rfl rfl|apply Db rfl rfl qN);(focus ((try intro hg);first|exact zab (zam rfl rfl) (decide_eq_true (by omega:(i:Int)<(j:Int)))|exact zaw (zeD rfl rfl (by decide)) hs|exact zaf rfl rfl (by omega) hx|exact zaq rfl rfl (zjk w v a)|exact zab (zam rfl rfl) (decide_eq_false hc)|exact qM));constructor)|refine qP ?_)
   exact zaa (i,h) ⟨by simp only;omega,by simp only;omega,f,by simp only;omega,hgo'⟩ (by simp only;omega) (Wk_g some rfl rfl kq)
 ·rw[zpj hlt]at hgo
  have hB:zd8 l v a=(decide (i<l.length) && decide ((l.getD i zhS).cmp v a=0)):=by unfold zd8;rw[←hgo]
  rw[hB,←hgo]
  by_cases hin:i<l.length
  ·have hx:l[(i:Int).toNat]? = some l[i]:=by simp[hin]
   have hg:l.getD i zhS=l[i]:=by rw[List.getD_eq_getElem?_getD,List.getElem?_eq_getElem hin];rfl
   rw[hg,decide_eq_true hin,Bool.true_and]
   generalize l[i]=w at hx
   repeat' (first|refine qU ?_|((first|apply dX rfl|apply Da rfl rfl|apply Db rfl rfl qN);(focus ((try intro hg);first|exact zab (zam rfl rfl) (decide_eq_false (by omega:¬(i:Int)<(j:Int)))|exact zab (zam rfl rfl) (decide_eq_true (by omega:(i:Int)<((l.map entV).length:Int)))|exact zaf rfl rfl (by omega) hx|exact zaq rfl rfl (zjk w v a)|exact qM));constructor)|refine qP ?_)
   exact retN (.tmp rfl (.inr (.int _ _)) (.tmp rfl (.inl rfl) .nil)) rfl
  ·rw[decide_eq_false hin,Bool.false_and]
   repeat' (first|refine qU ?_|((first|apply dX rfl|apply Da rfl rfl|apply Db rfl rfl qN);(focus ((try intro hg);first|exact zab (zam rfl rfl) (decide_eq_false (by omega:¬(i:Int)<(j:Int)))|exact zab (zam rfl rfl) (decide_eq_false (by omega:¬(i:Int)<((l.map entV).length:Int)))|exact qM));constructor)|refine qP ?_)
   exact retN (.tmp rfl (.inr (.int _ _)) (.tmp rfl (.inl rfl) .nil)) rfl
theorem zkC (l:List Ent) (v a:Int) (hl:l.length≤4194304):FnF Tryz.prog 145 [.slice (l.map entV),.int .i64 v,.int .u64 a] (.tuple [.int .i64 (zcd l v a),.bool (zd8 l v a)]):=by
 refine zal Tryz.func145 rfl rfl rfl ?_
 simp only[zap]
 repeat' (first|refine zaD 4 (by intro kt et es h;cases (show Box.cells false _ [D.dat false _]=Box.mapb _ _ _ from h)) ?_|refine qU ?_|((first|apply dX rfl|apply Da rfl rfl|apply Db rfl rfl qN);(focus ((try intro hg);first|exact zac (ztH l v a hl) rfl|exact qM));constructor)|refine qP ?_)
 exact retN (.tmp rfl (.inl rfl) (.tmp rfl (.inl rfl) .nil)) rfl
theorem zpm (l:List Ent) (v a:Int) (hl:l.length≤4194304):FnF Tryz.prog 119 [.slice (l.map entV),.int .i64 v,.int .u64 a] (.tuple [.int .i64 (zhU l v a).1,.bool (zhU l v a).2]):=by
 refine zal Tryz.func119 rfl rfl rfl ?_
 simp only[zap]
 have hf:=zkC l v a hl
 unfold zhU
 by_cases hb:zd8 l v a=true
 ·have hi:zcd l v a<l.length:=by unfold zd8 at hb;simp only[Bool.and_eq_true,decide_eq_true_eq]at hb;exact hb.1
  have hx:l[((zcd l v a:Nat):Int).toNat]? = some l[zcd l v a]:=by rw[Int.toNat_natCast];exact List.getElem?_eq_getElem hi
  have hg:l.getD (zcd l v a) zhS=l[zcd l v a]:=by rw[List.getD_eq_getElem?_getD,List.getElem?_eq_getElem hi];rfl
  rw[if_pos hb,hg]
  rw[hb]at hf
  generalize l[zcd l v a]=e at hx
  generalize zcd l v a=i at hf hx
  repeat' (first|refine qU ?_|((first|apply dX rfl|apply Da rfl rfl|apply Db rfl rfl qN);(focus ((try intro hg);first|exact zac hf rfl|exact zaf rfl rfl (by omega) hx|exact qM));constructor)|refine qP ?_)
  exact retN (.tmp rfl (.inr (.int _ _)) (.tmp rfl (.inl rfl) .nil)) rfl
 ·rw[if_neg hb]
  have hb':zd8 l v a=false:=by simpa using hb
  rw[hb']at hf
  repeat' (first|refine qU ?_|((first|apply dX rfl|apply Da rfl rfl|apply Db rfl rfl qN);(focus ((try intro hg);first|exact zac hf rfl|exact qM));constructor)|refine qP ?_)
  exact retN (.tmp rfl (.inl rfl) (.tmp rfl (.inl rfl) .nil)) rfl
end Go.Proofs.YtcdhlofhhcgohaaGreat
namespace Go.Proofs.YtcdhlofhhcgohaaGreat
open Go.RowKit
attribute [local irreducible] SStep DW DWin DOps zaG zaE zaJ retQ zaN FnF FnG Wk IntKind.wrap IntKind.andI IntKind.orI IntKind.xorI IntKind.andNotI IntKind.shlI IntKind.shrI Ent.cmp bsG
set_option maxHeartbeats 2000000 in
theorem zny (l:List Ent):FnF Tryz.prog 112 [.slice (l.map entV)] (zb1 (zcc l)):=by
 refine zal Tryz.func112 rfl rfl rfl ?_
 simp only[zap]
 have hml:(l.map entV).length=l.length:=by simp
 unfold zcc
 by_cases h30:30<l.length
 ·rw[if_pos h30]
  repeat' (first|refine qU ?_|((first|apply dX rfl|apply Da rfl rfl|apply Db rfl rfl qN);(focus ((try intro hg);first|exact zab (zbr rfl rfl) (decide_eq_true (by omega:(30:Int)<((l.map entV).length:Int)))|exact qM));constructor)|refine qP ?_)
  refine retN (.cellA inferInstance rfl rfl rfl rfl qF .nil) ?_
  rfl
 rw[if_neg h30]
 repeat' (first|refine qU ?_|((first|apply dX rfl|apply Da rfl rfl|apply Db rfl rfl qN);(focus ((try intro hg);first|exact zab (zbr rfl rfl) (decide_eq_false (by omega:¬(30:Int)<((l.map entV).length:Int)))|exact qM));constructor)|refine qP ?_)
 refine zag (fun k:Nat=>⟨[(0,.dat false (.slice (l.map entV))),(2,.ptr 2 0),(9,.dat false (.slice (l.map entV))),(10,.dat true (.int .i64 (l.map entV).length)),(11,.dat true (.int .i64 k))],[(2,.cells false true [.dat true (.int .i64 0),.dat true (.int .i64 0)])],70⟩)
  (fun k=>k≤l.length∧zhT none 0 l=zhT (zf9 l k) k (l.drop k)) (fun k=>l.length-k) 0 ⟨Nat.zero_le _,rfl⟩
  (Wk_g some rfl rfl kq) (fun k hR=>?_)
 obtain⟨hk,hw⟩:=hR
 by_cases hlt:k<l.length
 ·have hx:l[(k:Int).toNat]? = some l[k]:=by simp[hlt]
  have hn:l.drop k=l[k]::l.drop (k+1):=List.drop_eq_getElem_cons hlt
  have hlast:zf9 l (k+1)=some l[k]:=by simp[zf9,hlt]
  generalize l[k]=t at hx hn hlast
  rw[hn,zhT]at hw
  rcases k with - | j
  ·have h00:zf9 l 0=none:=rfl
   rw[h00]at hw
   repeat' (first|refine qU ?_|refine zat rfl (fun hb=>?_) (fun hb=>?_)|((first|apply dX rfl|apply Da rfl rfl|apply Db rfl rfl qN);(focus ((try intro hg);first|exact zab (zam rfl rfl) (decide_eq_true (by omega:((0:Nat):Int)<((l.map entV).length:Int)))|exact zaf rfl rfl (by omega) hx|exact zab (b:=false) (zbr rfl rfl) rfl|exact qM));constructor)|refine qP ?_)
   ·simp only[Bool.or_eq_true,decide_eq_true_eq]at hb
    rw[hw,if_pos (by unfold Ent.bad;omega)]
    refine retN (.cellA inferInstance rfl rfl rfl rfl qF .nil) ?_
    rfl
   ·simp only[Bool.or_eq_false_iff,decide_eq_false_iff_not]at hb
    refine zaa (0+1) ⟨hlt,?_⟩ (by omega) (Wk_g some rfl rfl kq)
    rw[hw,if_neg (by unfold Ent.bad;omega),if_neg (by simp),hlast]
  ·have hj:j<l.length:=by omega
   have hx2:l[(((j+1:Nat):Int)-1).toNat]? = some l[j]:=by
    rw[show(((j+1:Nat):Int)-1).toNat=j by omega];exact List.getElem?_eq_getElem hj
   have h00:zf9 l (j+1)=some l[j]:=by simp[zf9,hj]
   generalize l[j]=q at hx2 h00
   rw[h00]at hw
   have ho:=zil q t.vid t.addr
   have hq:=q.cmp_lt t.vid t.addr
   repeat' (first|refine qU ?_|refine zat rfl (fun hb=>?_) (fun hb=>?_)|((first|apply dX rfl|apply Da rfl rfl|apply Db rfl rfl qN);(focus ((try intro hg);first|exact zab (zam rfl rfl) (decide_eq_true (by omega:((j+1:Nat):Int)<((l.map entV).length:Int)))|exact zaf rfl rfl (by omega) hx|exact zaf rfl rfl (by omega) hx2|exact zac ho rfl|exact zab (zbr rfl rfl) (decide_eq_true (by omega:(0:Int)<((j+1:Nat):Int)))|exact qM));constructor)|refine qP ?_)
   ·simp only[Bool.or_eq_true,decide_eq_true_eq]at hb
    rw[hw,if_pos (by unfold Ent.bad;omega)]
    refine retN (.cellA inferInstance rfl rfl rfl rfl qF .nil) ?_
    rfl
   ·rename_i hb1
    simp only[Bool.or_eq_false_iff,decide_eq_true_eq,decide_eq_false_iff_not]at hb hb1
    rw[hw,if_neg (by unfold Ent.bad;omega),if_pos (by simp only[Option.any_some,Bool.not_eq_true',decide_eq_false_iff_not];rw[←hq];omega)]
    refine retN (.cellA inferInstance rfl rfl rfl rfl qF .nil) ?_
    rfl
   ·rename_i hb1
    simp only[Bool.or_eq_false_iff,decide_eq_false_iff_not]at hb hb1
    refine zaa (j+1+1) ⟨by omega,?_⟩ (by omega) (Wk_g some rfl rfl kq)
    rw[hw,if_neg (by unfold Ent.bad;omega),if_neg (by simp only[Option.any_some,Bool.not_eq_true',decide_eq_false_iff_not,Classical.not_not];rw[←hq];omega),hlast]
 ·repeat' (first|refine qU ?_|((first|apply dX rfl|apply Da rfl rfl|apply Db rfl rfl qN);(focus ((try intro hg);first|exact zab (zam rfl rfl) (decide_eq_false (by omega:¬(k:Int)<((l.map entV).length:Int)))|exact qM));constructor)|refine qP ?_)
  rw[hw,List.drop_eq_nil_of_le (by omega)]
  refine retN (.cellA inferInstance rfl rfl rfl rfl qF .nil) ?_
  rfl
end Go.Proofs.YtcdhlofhhcgohaaGreat
