/- A family of own rows, whose slices lie in the cells of an own box: made, one row taken out under a name of its own, put back, all frozen and read as data. -/
import Derived.Test.YtcdhlofhhcgohaaGreatwbNst
namespace Go.Proofs.YtcdhlofhhcgohaaGreat
open Go.RowKit
theorem zeO {e e':Mem} {ρ ρ':Nat→Option Nat} (h:∀ a b,zqD e ρ a b→zqD e' ρ' a b):∀ {l l':List D},zjY e ρ l l'→zjY e' ρ' l l'
 | [],[],_=>trivial
 | _::_,_::_,k=>⟨h _ _ k.1,zeO h k.2⟩
 | [],_::_,k=>k.elim
 | _::_,[],k=>k.elim
theorem zbf {s e:Mem} {ρ:Nat→Option Nat}:∀ {l l':List D},l.length=l'.length→(∀ (j:Nat) d d',l[j]? = some d→l'[j]? = some d'→zbX s e ρ d d')→zdt s e ρ l l'
 | [],[],_,_=>trivial
 | d::r,d'::r',h,k=>⟨k 0 d d' rfl rfl,zbf (by simpa using h) (fun j x x' hx hx'=>k (j+1) x x' (by simpa using hx) (by simpa using hx'))⟩
 | [],_::_,h,_=>by simp at h
 | _::_,[],h,_=>by simp at h
theorem zfA {m:Mem} {g ver lo len sz:Nat} {frz nw:Bool} {xs:List (List V)} (h:m.at g = .row ver frz nw sz xs):zbK m (.own g ver lo len)=some (g,lo,len,frz,nw,sz,xs):=by
 simp[zbK,h]
theorem zbd {s e:Mem} {ρ:Nat→Option Nat} {g g0 ver ver0 lo len sz:Nat} {frz nw:Bool} {xs:List (List V)} (hρ:ρ g=some g0) (h1:s.at g0 = .row ver0 frz nw sz xs) (h2:e.at g = .row ver frz nw sz xs):zbX s e ρ (.own g0 ver0 lo len) (.own g ver lo len):=by
 show(match ρ g with|some g0=>_|none=>_)
 rw[hρ]
 exact⟨_,zfA h1,zfA h2⟩
theorem zns {s e:Mem} {ρ:Nat→Option Nat} {g ver sz:Nat} {nw:Bool} (hρ:ρ g=none) (h2:e.at g = .row ver false nw sz []):zbX s e ρ .nil (.own g ver 0 0):=by
 show(match ρ g with|some g0=>_|none=>_)
 rw[hρ]
 exact⟨rfl,nw,sz,zfA h2⟩
theorem zbt {s e:Mem} {ρ:Nat→Option Nat} {g g0 ver ver0 sz:Nat} {frz nw:Bool} {xs:List (List V)} (hρ:ρ g=some g0) (h1:s.at g0 = .row ver0 frz nw sz xs):zdP s e ρ g (.row ver frz nw sz xs):=by
 show(match ρ g with|some g0=>_|none=>_)
 rw[hρ]
 exact⟨ver0,h1⟩
theorem zo2 {s e:Mem} {ρ:Nat→Option Nat} {g ver sz:Nat} {nw:Bool} (hρ:ρ g=none):zdP s e ρ g (.row ver false nw sz []):=by
 show(match ρ g with|some g0=>_|none=>_)
 rw[hρ]
 exact⟨rfl,rfl⟩
section
variable {α : Type} (f : α → List V) (sz : Nat)
def nm (k:Nat):Nat:=k+3000
def ix (g:Nat):Nat:=g-3000
theorem zau (k:Nat):nm k=k+3000:=rfl
theorem zax (g:Nat):ix g=g-3000:=rfl
theorem zcZ (k:Nat):3000≤nm k:=Nat.le_add_left ..
theorem ztG (k:Nat):ix (nm k)=k:=Nat.add_sub_cancel ..
theorem zq3 {g:Nat} (h:3000≤g):nm (ix g)=g:=Nat.sub_add_cancel h
theorem zkr {a b:Nat} (h:nm a=nm b):a=b:=by rw[zau,zau]at h;omega
attribute [local irreducible] nm ix
def zdF (frz:Bool):Nat→List (List α)→Mem
 | _,[]=>[]
 | i,r::rs=>(nm i,.row 0 frz true sz (r.map f))::zdF frz (i+1) rs
def zd3 : Nat→List (List α)→List D
 | _,[]=>[]
 | i,r::rs=>.own (nm i) 0 0 r.length::zd3 (i+1) rs
def famM (xs:List (List α)):Mem:=zdF f sz false 0 xs
def famZ (xs:List (List α)):Mem:=zdF f sz true 0 xs
def ctrD (xs:List (List α)):List D:=zd3 0 xs
theorem zfB (frz:Bool):∀ (xs:List (List α)) (i g:Nat),Mem.at (zdF f sz frz i xs) g=if nm i≤g then(match xs[ix g-i]? with|some r=>.row 0 frz true sz (r.map f)|none=>.gone)else .gone
 | [],i,g=>by
  show Box.gone=_
  split
  ·rfl
  ·rfl
 | r::rs,i,g=>by
  show look .gone ((nm i,.row 0 frz true sz (r.map f))::zdF f sz frz (i+1) rs) g=_
  rw[zai]
  have e1:=zau i
  have e2:=zau (i+1)
  have e3:=zax g
  by_cases h:nm i=g
  ·have h0:ix g-i=0:=by omega
   rw[if_pos h,if_pos (by omega),h0]
   rfl
  ·rw[if_neg h,show look .gone (zdF f sz frz (i+1) rs) g=Mem.at (zdF f sz frz (i+1) rs) g from rfl,zfB frz rs (i+1) g]
   by_cases h2:nm (i+1)≤g
   ·have h0:ix g-i=(ix g-(i+1))+1:=by omega
    rw[if_pos h2,if_pos (by omega),h0,List.getElem?_cons_succ]
   ·rw[if_neg h2,if_neg (by omega)]
theorem zgW : ∀ (xs:List (List α)) (i j:Nat),(zd3 i xs)[j]? = (xs[j]?).map fun r=>.own (nm (i+j)) 0 0 r.length
 | [],i,j=>by simp[zd3]
 | r::rs,i,j=>by
  cases j with
  | zero=>simp[zd3]
  | succ j =>
   simp only[zd3,List.getElem?_cons_succ]
   rw[zgW rs (i+1) j,show i+1+j=i+(j+1) by omega]
theorem zdG (xs:List (List α)) (j:Nat):(ctrD xs)[j]? = (xs[j]?).map fun r=>.own (nm j) 0 0 r.length:=by
 unfold ctrD;rw[zgW,Nat.zero_add]
theorem zgX : ∀ (xs:List (List α)) (i:Nat),(zd3 i xs).length=xs.length
 | [],_=>rfl
 | r::rs,i=>by show(zd3 (i+1) rs).length+1=_;rw[zgX rs];rfl
theorem zdc (xs:List (List α)):(ctrD xs).length=xs.length:=zgX xs 0
theorem zdn (xs:List (List α)) (g:Nat):Mem.at (famM f sz xs) g=if 3000≤g then(match xs[ix g]? with|some r=>.row 0 false true sz (r.map f)|none=>.gone)else .gone:=by
 unfold famM;rw[zfB,zau];rfl
theorem zja (xs:List (List α)) (g:Nat):Mem.at (famZ f sz xs) g=if 3000≤g then(match xs[ix g]? with|some r=>.row 0 true true sz (r.map f)|none=>.gone)else .gone:=by
 unfold famZ;rw[zfB,zau];rfl
theorem zdH (xs:List (List α)) {g:Nat} (h:g<3000):Mem.at (famM f sz xs) g = .gone:=by rw[zdn,if_neg (by first|omega|(simp only[zau,zax]at *;omega))]
theorem zcu {xs:List (List α)} {k:Nat} {r:List α} (h:xs[k]? = some r):Mem.at (famM f sz xs) (nm k) = .row 0 false true sz (r.map f):=by
 rw[zdn,if_pos (zcZ k),ztG,h]
theorem zsh {a b:Nat} (h:a<b):Nat.blt a b=true:=by rw[Nat.blt_eq];exact h
theorem zic {a b:Nat} (h:Nat.blt a b=true):a<b:=by rwa[Nat.blt_eq]at h
theorem zdd {g k:Nat} {b:Box} {T:Mem} (h:g<3000):Mem.at ((g,b)::T) (nm k)=Mem.at T (nm k):=zcL _ _ _ _ _ (fun e=>by have:=zcZ k;omega)
def famS (pre:Mem) (xs:List (List α)):Mem:=pre++(950,.cells false true (ctrD xs))::famM f sz xs
def ρF (c0:Nat) (τ:Nat→Option Nat) (g:Nat):Option Nat:=bif Nat.blt g 3000 then(bif Nat.beq g 950 then some c0 else some g)else τ g
def lowB (pre:Mem):Bool:=pre.all fun p=>Nat.blt p.1 950
theorem zgY {pre:Mem} {xs:List (List α)} {g:Nat}:Mem.at (famS f sz pre xs) g=if g∈pre.map (·.1)then pre.at g else if 950=g then .cells false true (ctrD xs)else Mem.at (famM f sz xs) g:=by
 unfold famS
 rw[zaP]
 split
 ·rfl
 ·show look .gone ((950,Box.cells false true (ctrD xs))::famM f sz xs) g=_
  rw[zai]
  rfl
theorem zbS {pre:Mem} (h:lowB pre=true) {g:Nat} (hg:g∈pre.map (·.1)):g<950:=by
 obtain⟨p,hp,rfl⟩:=List.mem_map.1 hg
 unfold lowB at h
 exact zic (List.all_eq_true.1 h p hp)
theorem zdI {pre:Mem} {xs:List (List α)} (hp:lowB pre=true):Mem.at (famS f sz pre xs) 950 = .cells false true (ctrD xs):=by
 rw[zgY,if_neg (fun h=>by have:=zbS hp h;(first|omega|(simp only[zau,zax]at *;omega))),if_pos rfl]
theorem zeP {pre:Mem} {xs:List (List α)} {g:Nat} (hp:lowB pre=true) (h:950<g):Mem.at (famS f sz pre xs) g=Mem.at (famM f sz xs) g:=by
 rw[zgY,if_neg (fun h=>by have:=zbS hp h;(first|omega|(simp only[zau,zax]at *;omega))),if_neg (by first|omega|(simp only[zau,zax]at *;omega))]
theorem zo3 {pre:Mem} {xs:List (List α)} {g:Nat} (h1:g<950) (h2:(pre.any fun p=>Nat.beq p.1 g)=false):Mem.at (famS f sz pre xs) g = .gone:=by
 rw[zgY,if_neg,if_neg (by omega),zdH f sz xs (by omega)]
 intro hm
 obtain⟨p,hp,e⟩:=List.mem_map.1 hm
 have:=List.any_eq_false.1 h2 p hp
 rw[e]at this
 simp at this
theorem zlD {s:St} {env':Env} {pre':Mem} {xs':List (List α)} {CS:List D} (c0:Nat) (τ:Nat→Option Nat) (hc0:c0≤950) (hp:lowB pre'=true)
  (hi:zev (ρF c0 τ) (950::pre'.map (·.1))=true)
  (hτ:∀ g g' a,3000≤g→3000≤g'→τ g=some a→τ g'=some a→g=g') (hτ2:∀ g a,3000≤g→τ g=some a→950<a)
  (h50:s.mem.at c0 = .cells false true CS) (hl:zdt s.mem (famS f sz pre' xs') (ρF c0 τ) CS (ctrD xs'))
  (hT:∀ (k:Nat) r,xs'[k]? = some r→zdP s.mem (famS f sz pre' xs') (ρF c0 τ) (nm k) (.row 0 false true sz (r.map f)))
  (hm:zeI s ⟨env',famS f sz pre' xs',s.n⟩ (ρF c0 τ) pre') (he:zeH s ⟨env',famS f sz pre' xs',s.n⟩ (ρF c0 τ) env'):Wk s ⟨env',famS f sz pre' xs',s.n⟩:=by
 have hlo:∀ g a,g<3000→g≤950→ρF c0 τ g=some a→a≤950:=fun g a h h2 e=>by
  unfold ρF at e
  rw[zsh h]at e
  simp only[cond_true]at e
  cases hb:Nat.beq g 950 with
  | true=>rw[hb]at e;injection e with e;(first|omega|(simp only[zau,zax]at *;omega))
  | false=>rw[hb]at e;injection e with e;(first|omega|(simp only[zau,zax]at *;omega))
 have hhi:∀ g,3000≤g→ρF c0 τ g=τ g:=fun g h=>by
  unfold ρF
  have:Nat.blt g 3000=false:=by
   cases hb:Nat.blt g 3000 with
   | false=>rfl
   | true=>have:=zic hb;(first|omega|(simp only[zau,zax]at *;omega))
  rw[this];rfl
 have cls:∀ g,Mem.at (famS f sz pre' xs') g ≠ .gone→g∈(950::pre'.map (·.1))∨3000≤g:=fun g h=>by
  rw[zgY]at h
  by_cases h1:g∈pre'.map (·.1)
  ·exact .inl (List.mem_cons_of_mem _ h1)
  ·rw[if_neg h1]at h
   by_cases h2:950=g
   ·exact .inl (by rw[h2];exact List.mem_cons_self ..)
   ·rw[if_neg h2]at h
    by_cases h3:3000≤g
    ·exact .inr h3
    ·exact absurd (zdH f sz xs' (by first|omega|(simp only[zau,zax]at *;omega))) h
 have low:∀ g,g∈(950::pre'.map (·.1))→g≤950:=fun g h=>by
  rcases List.mem_cons.1 h with h|h
  ·(first|omega|(simp only[zau,zax]at *;omega))
  ·have:=zbS hp h;(first|omega|(simp only[zau,zax]at *;omega))
 refine zmG (ρF c0 τ) rfl (fun g g' a h1 h2 e1 e2=>?_) (fun g=>?_) (zeg he)
 ·rcases cls g h1 with q1|q1
  ·rcases cls g' h2 with q2|q2
   ·exact zgj hi q1 q2 e1 e2
   ·have r1:=hlo g a (by have:=low g q1;(first|omega|(simp only[zau,zax]at *;omega))) (low g q1) e1
    rw[hhi g' q2]at e2
    have:=hτ2 g' a q2 e2;(first|omega|(simp only[zau,zax]at *;omega))
  ·rcases cls g' h2 with q2|q2
   ·have r1:=hlo g' a (by have:=low g' q2;(first|omega|(simp only[zau,zax]at *;omega))) (low g' q2) e2
    rw[hhi g q1]at e1
    have:=hτ2 g a q1 e1;(first|omega|(simp only[zau,zax]at *;omega))
   ·rw[hhi g q1]at e1
    rw[hhi g' q2]at e2
    exact hτ g g' a q1 q2 e1 e2
 ·show zdP s.mem (famS f sz pre' xs') (ρF c0 τ) g (Mem.at (famS f sz pre' xs') g)
  rw[zgY]
  by_cases h1:g∈pre'.map (·.1)
  ·rw[if_pos h1]
   exact zeh hm g
  ·rw [if_neg h1]
   by_cases h2:950=g
   ·subst h2
    rw[if_pos rfl]
    exact⟨c0,CS,rfl,h50,hl⟩
   ·rw [if_neg h2,zdn]
    by_cases h3:3000≤g
    ·rw[if_pos h3]
     cases hx:xs'[ix g]? with
     | none=>trivial
     | some r =>
      have:=hT (ix g) r hx
      rwa[zq3 h3]at this
    ·rw[if_neg h3];trivial
theorem ρF_hi {c0:Nat} {τ:Nat→Option Nat} {g:Nat} (h:3000≤g):ρF c0 τ g=τ g:=by
 unfold ρF
 have:Nat.blt g 3000=false:=by
  cases hb:Nat.blt g 3000 with
  | false=>rfl
  | true=>have:=zic hb;omega
 rw[this];rfl
theorem zcJ {pre:Mem} {xs:List (List α)} {k:Nat} {r:List α} (hp:lowB pre=true) (h:xs[k]? = some r):Mem.at (famS f sz pre xs) (nm k) = .row 0 false true sz (r.map f):=by
 rw[zeP f sz hp (by have:=zcZ k;omega),zcu f sz h]
theorem zo4 {s:St} {env':Env} {pre':Mem} {l:Nat} (c0:Nat) (hc0:c0≤950) (hp:lowB pre'=true) (hi:zev (ρF c0 fun _=>none) (950::pre'.map (·.1))=true)
  (h50:s.mem.at c0 = .cells false true (List.replicate l .nil))
  (hm:zeI s ⟨env',famS f sz pre' (List.replicate l []),s.n⟩ (ρF c0 fun _=>none) pre') (he:zeH s ⟨env',famS f sz pre' (List.replicate l []),s.n⟩ (ρF c0 fun _=>none) env') :
  Wk s ⟨env',famS f sz pre' (List.replicate l []),s.n⟩:=by
 have hrep:∀ (k:Nat) (r:List α),(List.replicate l ([]:List α))[k]? = some r→r=[]:=fun k r h=>by
  rw[List.getElem?_replicate]at h
  split at h
  ·injection h with h;exact h.symm
  ·cases h
 refine zlD f sz c0 (fun _=>none) hc0 hp hi (fun _ _ _ _ _ h=>by cases h) (fun _ _ _ h=>by cases h) h50 (zbf (by rw[zdc];simp) fun j d d' h1 h2=>?_) (fun k r h=>?_) hm he
 ·rw[zdG]at h2
  obtain⟨r,hr,rfl⟩:=Option.map_eq_some_iff.1 h2
  have:=hrep j r hr
  subst this
  rw[List.getElem?_replicate]at h1
  split at h1
  ·injection h1 with h1
   subst h1
   exact zns (ρF_hi (zcZ j)) (zcJ f sz hp hr)
  ·cases h1
 ·have:=hrep k r h
  subst this
  exact zo2 (ρF_hi (zcZ k))
theorem zgn {s:St} {env':Env} {pre':Mem} {xs:List (List α)} (hp:lowB pre'=true) (hi:zev (ρF 950 some) (950::pre'.map (·.1))=true)
  (h50:s.mem.at 950 = .cells false true (ctrD xs)) (hT:∀ (k:Nat) r,xs[k]? = some r→s.mem.at (nm k) = .row 0 false true sz (r.map f))
  (hm:zeI s ⟨env',famS f sz pre' xs,s.n⟩ (ρF 950 some) pre') (he:zeH s ⟨env',famS f sz pre' xs,s.n⟩ (ρF 950 some) env') :
  Wk s ⟨env',famS f sz pre' xs,s.n⟩:=by
 refine zlD f sz 950 some (Nat.le_refl _) hp hi (fun g g' a _ _ h1 h2=>by injection h1 with h1;injection h2 with h2;omega) (fun g a h1 h2=>by injection h2 with h2;omega) h50 (zbf rfl fun j d d' h1 h2=>?_) (fun k r h=>?_) hm he
 ·rw[h1]at h2
  injection h2 with h2
  subst h2
  rw[zdG]at h1
  obtain⟨r,hr,rfl⟩:=Option.map_eq_some_iff.1 h1
  exact zbd (ρF_hi (zcZ j)) (hT j r hr) (zcJ f sz hp hr)
 ·exact zbt (ρF_hi (zcZ k)) (hT k r h)
theorem zgZ {s:St} {env':Env} {pre':Mem} {xs:List (List α)} (A:Nat) {r':List α} {ver:Nat} {CS:List D} (hA:A<xs.length) (hp:lowB pre'=true)
  (hi:zev (ρF 950 fun g=>if g=nm A then some 960 else some g) (950::pre'.map (·.1))=true)
  (h60:s.mem.at 960 = .row ver false true sz (r'.map f)) (h50:s.mem.at 950 = .cells false true CS) (hcs:CS=(ctrD xs).set A (.own 960 ver 0 r'.length))
  (hT:∀ (k:Nat) r,k≠A→xs[k]? = some r→s.mem.at (nm k) = .row 0 false true sz (r.map f))
  (hm:zeI s ⟨env',famS f sz pre' (xs.set A r'),s.n⟩ (ρF 950 fun g=>if g=nm A then some 960 else some g) pre') (he:zeH s ⟨env',famS f sz pre' (xs.set A r'),s.n⟩ (ρF 950 fun g=>if g=nm A then some 960 else some g) env') :
  Wk s ⟨env',famS f sz pre' (xs.set A r'),s.n⟩:=by
 have key:∀ (k:Nat) r,(xs.set A r')[k]? = some r→(k=A∧r=r')∨(k≠A∧xs[k]? = some r):=fun k r h=>by
  by_cases hk:k=A
  ·subst hk
   rw[List.getElem?_set_self hA]at h
   injection h with h
   exact .inl ⟨rfl,h.symm⟩
  ·rw[List.getElem?_set_ne (Ne.symm hk)]at h
   exact .inr ⟨hk,h⟩
 have rA:ρF 950 (fun g=>if g=nm A then some 960 else some g) (nm A)=some 960:=by rw[ρF_hi (zcZ A)];exact if_pos rfl
 have rN:∀ k,k≠A→ρF 950 (fun g=>if g=nm A then some 960 else some g) (nm k)=some (nm k):=fun k hk=>by rw[ρF_hi (zcZ k)];exact if_neg (fun h=>hk (zkr h))
 subst hcs
 refine zlD f sz 950 _ (Nat.le_refl _) hp hi (fun g g' a q1 q2 h1 h2=>?_) (fun g a h1 h2=>?_) h50 (zbf (by rw[zdc,List.length_set,List.length_set,zdc]) fun j d d' h1 h2=>?_) (fun k r h=>?_) hm he
 ·by_cases e1:g=nm A
  ·by_cases e2:g'=nm A
   ·omega
   ·rw[if_pos e1]at h1;rw[if_neg e2]at h2;injection h1 with h1;injection h2 with h2;omega
  ·by_cases e2:g'=nm A
   ·rw[if_neg e1]at h1;rw[if_pos e2]at h2;injection h1 with h1;injection h2 with h2;omega
   ·rw[if_neg e1]at h1;rw[if_neg e2]at h2;injection h1 with h1;injection h2 with h2;omega
 ·by_cases e1:g=nm A
  ·rw[if_pos e1]at h2;injection h2 with h2;omega
  ·rw[if_neg e1]at h2;injection h2 with h2;omega
 ·rw[zdG]at h2
  obtain⟨r,hr,rfl⟩:=Option.map_eq_some_iff.1 h2
  rcases key j r hr with⟨rfl,rfl⟩|⟨q1,q2⟩
  ·rw[List.getElem?_set_self (by rw[zdc];exact hA)]at h1
   injection h1 with h1
   subst h1
   exact zbd rA h60 (zcJ f sz hp hr)
  ·rw[List.getElem?_set_ne (Ne.symm q1),zdG,q2]at h1
   injection h1 with h1
   subst h1
   exact zbd (rN j q1) (hT j r q1 q2) (zcJ f sz hp hr)
 ·rcases key k r h with⟨rfl,rfl⟩|⟨q1,q2⟩
  ·exact zbt rA h60
  ·exact zbt (rN k q1) (hT k r q1 q2)
theorem zfC {P:Program} {c:Code} {Q:Exit→St→Prop} {env env':Env} {pre pre':Mem} {n:Nat} {xs:List (List α)} (A:Nat) {r:List α} (hr:xs[A]? = some r) (hp:lowB pre=true) (hp':lowB pre'=true)
  (_hi:zev some (pre'.map (·.1))=true)
  (hm:∀ T:Mem,zeI ⟨env,famS f sz pre xs,n⟩ ⟨env',pre'++(960,.row 0 false true sz (r.map f))::(950,.cells false true ((ctrD xs).set A (.own 960 0 0 r.length)))::T,n⟩ some pre')
  (he:∀ T:Mem,zeH ⟨env,famS f sz pre xs,n⟩ ⟨env',pre'++(960,.row 0 false true sz (r.map f))::(950,.cells false true ((ctrD xs).set A (.own 960 0 0 r.length)))::T,n⟩ some env')
  (k:∀ T:Mem,(∀ g,g<3000→T.at g = .gone)→(∀ (k:Nat) r,k≠A→xs[k]? = some r→T.at (nm k) = .row 0 false true sz (r.map f)) →
   DW P c Q ⟨env',pre'++(960,.row 0 false true sz (r.map f))::(950,.cells false true ((ctrD xs).set A (.own 960 0 0 r.length)))::T,n⟩):DW P c Q ⟨env,famS f sz pre xs,n⟩:=by
 have hA:A<xs.length:=(List.getElem?_eq_some_iff.1 hr).1
 let T:Mem:=(nm A,.gone)::famM f sz xs
 have hTat:∀ g,Mem.at T g=if nm A=g then .gone else Mem.at (famM f sz xs) g:=fun g=>zai _ _ _ _ _
 have hT1:∀ g,g<3000→T.at g = .gone:=fun g h=>by rw[hTat,if_neg (by first|omega|(simp only[zau]at *;omega))];exact zdH f sz xs h
 have hT2:∀ (k:Nat) r,k≠A→xs[k]? = some r→T.at (nm k) = .row 0 false true sz (r.map f):=fun k r h1 h2=>by rw[hTat,if_neg (by first|omega|(simp only[zau]at *;omega))];exact zcu f sz h2
 let M:Mem:=pre'++(960,.row 0 false true sz (r.map f))::(950,.cells false true ((ctrD xs).set A (.own 960 0 0 r.length)))::T
 have hMat:∀ g,Mem.at M g=if g∈pre'.map (·.1)then pre'.at g else if 960=g then .row 0 false true sz (r.map f)else if 950=g then .cells false true ((ctrD xs).set A (.own 960 0 0 r.length))else T.at g:=fun g=>by
  show Mem.at (pre'++(960,.row 0 false true sz (r.map f))::(950,.cells false true ((ctrD xs).set A (.own 960 0 0 r.length)))::T) g=_
  rw[zaP]
  split
  ·rfl
  ·show look .gone ((960,Box.row 0 false true sz (r.map f))::(950,.cells false true ((ctrD xs).set A (.own 960 0 0 r.length)))::T) g=_
   rw[zai,zai]
   rfl
 let ρ:Nat→Option Nat:=fun g=>if g=960 then some (nm A)else some g
 have r960:ρ 960=some (nm A):=if_pos rfl
 have rN:∀ g,g≠960→ρ g=some g:=fun g h=>if_neg h
 have m960:M.at 960 = .row 0 false true sz (r.map f):=by rw[hMat,if_neg (fun h=>by have:=zbS hp' h;(first|omega|(simp only[zau,zax]at *;omega))),if_pos rfl]
 have s960:Mem.at (famS f sz pre xs) 960 = .gone:=by rw[zeP f sz hp (by first|omega|(simp only[zau,zax]at *;omega)),zdH f sz xs (by first|omega|(simp only[zau,zax]at *;omega))]
 have sA:Mem.at (famS f sz pre xs) (nm A) = .row 0 false true sz (r.map f):=by rw[zeP f sz hp (by first|omega|(simp only[zau]at *;omega)),zcu f sz hr]
 have hslot:∀ d d',zbX (famS f sz pre xs) M some d d'→zbX (famS f sz pre xs) M ρ d d':=by
  intro d d' h
  cases d' with
  | own g ver lo len =>
   by_cases hg:g=960
   ·subst hg
    exfalso
    obtain⟨⟨lo',len',frz,nw,sz',xs'⟩,h1,h2⟩:=h
    obtain⟨ver0,rfl,hs⟩:=zds h1
    rw[s960]at hs
    cases hs
   ·unfold zbX at h ⊢
    simp only[ρ,if_neg hg]
    exact h
  | ptr g off =>
   obtain⟨g0,frz,nw,cs,e1,e2,e3⟩:=h
   have hg:g≠960:=fun h=>by subst h;rw[m960]at e3;cases e3
   exact⟨g0,frz,nw,cs,by simp only[ρ,if_neg hg];exact e1,e2,e3⟩
  | rptr g ver i off =>
   obtain⟨g0,frz,nw,sz',xs',ver0,e1,e2,e3,e4⟩:=h
   injection e1 with e1
   subst e1
   have hg:g≠960:=fun h=>by subst h;rw[s960]at e3;cases e3
   exact⟨g,frz,nw,sz',xs',ver0,by simp only[ρ,if_neg hg],e2,e3,e4⟩
  | mp g =>
   obtain⟨g0,kt,et,es,e1,e2,e3⟩:=h
   have hg:g≠960:=fun h=>by subst h;rw[m960]at e3;cases e3
   exact⟨g0,kt,et,es,by simp only[ρ,if_neg hg];exact e1,e2,e3⟩
  | sl g n =>
   obtain⟨g0,frz,nw,cs,e1,e2,e3⟩:=h
   have hg:g≠960:=fun h=>by subst h;rw[m960]at e3;cases e3
   exact⟨g0,frz,nw,cs,by simp only[ρ,if_neg hg];exact e1,e2,e3⟩
  | fnd f cs =>
   obtain⟨cs0,e0,hc⟩:=h
   refine⟨cs0,e0,zeO (fun a b hab=>?_) hc⟩
   cases b with
   | ptr g off =>
    obtain⟨g0,frz,nw,cs,e1,e2,e3⟩:=hab
    have hg:g≠960:=fun h=>by subst h;rw[m960]at e3;cases e3
    exact⟨g0,frz,nw,cs,by simp only[ρ,if_neg hg];exact e1,e2,e3⟩
   | _=>exact hab.elim
  | _=>exact h
 have hlist:∀ (l l':List D),zdt (famS f sz pre xs) M some l l'→zdt (famS f sz pre xs) M ρ l l':=fun l l' h=>by
  obtain⟨q1,q2⟩:=zdu h
  exact zbf q1 fun j d d' h1 h2=>hslot _ _ (q2 j d d' h1 h2)
 refine zaZ (s':=⟨env',M,n⟩) (zmG ρ rfl (fun g g' a h1 h2 e1 e2=>?_) (fun g=>?_) (fun t=>hslot _ _ (zeg (he T) t))) (k T hT1 hT2)
 ·have hgo:∀ g,Mem.at M g ≠ .gone→g≠nm A:=fun g h hg=>by
   subst hg
   rw[hMat,if_neg (fun h=>by have:=zbS hp' h;(first|omega|(simp only[zau]at *;omega))),if_neg (by first|omega|(simp only[zau]at *;omega)),if_neg (by first|omega|(simp only[zau]at *;omega)),hTat,if_pos rfl]at h
   exact h rfl
  have q1:=hgo g h1
  have q2:=hgo g' h2
  simp only[ρ]at e1 e2
  by_cases r1:g=960
  ·by_cases r2:g'=960
   ·(first|omega|(simp only[zau,zax]at *;omega))
   ·rw[if_pos r1]at e1;rw[if_neg r2]at e2;injection e1 with e1;injection e2 with e2;(first|omega|(simp only[zau,zax]at *;omega))
  ·by_cases r2:g'=960
   ·rw[if_neg r1]at e1;rw[if_pos r2]at e2;injection e1 with e1;injection e2 with e2;(first|omega|(simp only[zau,zax]at *;omega))
   ·rw[if_neg r1]at e1;rw[if_neg r2]at e2;injection e1 with e1;injection e2 with e2;(first|omega|(simp only[zau,zax]at *;omega))
 ·show zdP (famS f sz pre xs) M ρ g (Mem.at M g)
  rw[hMat]
  by_cases h1:g∈pre'.map (·.1)
  ·rw[if_pos h1]
   have hb:=zeh (hm T) g
   have hg:g≠960:=by have:=zbS hp' h1;(first|omega|(simp only[zau,zax]at *;omega))
   cases hx:pre'.at g with
   | gone=>trivial
   | row ver frz nw sz' xs' =>
    rw[hx]at hb
    unfold zdP at hb ⊢
    simp only[ρ,if_neg hg]
    exact hb
   | cells frz nw cs =>
    rw[hx]at hb
    obtain⟨g0,cs0,e1,e2,e3⟩:=hb
    exact⟨g0,cs0,by simp only[ρ,if_neg hg];exact e1,e2,hlist _ _ e3⟩
   | mapb kt et es =>
    rw[hx]at hb
    obtain⟨g0,e1,e2⟩:=hb
    exact⟨g0,by simp only[ρ,if_neg hg];exact e1,e2⟩
  ·rw [if_neg h1]
   by_cases h2:960=g
   ·subst h2
    rw[if_pos rfl]
    exact zbt r960 sA
   ·rw [if_neg h2]
    by_cases h3:950=g
    ·subst h3
     rw[if_pos rfl]
     refine⟨950,ctrD xs,rfl,zdI f sz hp,zbf (by simp) fun j d d' q1 q2=>?_⟩
     by_cases hj:j=A
     ·subst hj
      rw[List.getElem?_set_self (by rw[zdc];exact hA)]at q2
      rw[zdG,hr]at q1
      simp only[Option.map_some,Option.some.injEq]at q1 q2
      subst q1 q2
      exact zbd r960 sA m960
     ·rw[List.getElem?_set_ne (Ne.symm hj),q1]at q2
      injection q2 with q2
      subst q2
      rw[zdG]at q1
      obtain⟨r1,hr1,rfl⟩:=Option.map_eq_some_iff.1 q1
      have e2:Mem.at M (nm j) = .row 0 false true sz (r1.map f):=by
       rw[hMat,if_neg (fun h=>by have:=zbS hp' h;(first|omega|(simp only[zau]at *;omega))),if_neg (by first|omega|(simp only[zau]at *;omega)),if_neg (by first|omega|(simp only[zau]at *;omega))]
       exact hT2 j r1 hj hr1
      exact zbd (rN _ (by rw[zau];omega)) (zcJ f sz hp hr1) e2
    ·rw [if_neg h3]
     by_cases h4:3000≤g
     ·by_cases h5:nm A=g
      ·rw[hTat,if_pos h5];trivial
      ·rw[hTat,if_neg h5,zdn,if_pos h4]
       cases hx:xs[ix g]? with
       | none=>trivial
       | some r1 =>
        refine zbt (ver0:=0) (rN g (Ne.symm h2)) ?_
        rw[zeP f sz hp (by first|omega|(simp only[zau,zax]at *;omega))]
        have:=zcu f sz hx
        rwa[zq3 h4]at this
     ·rw[hT1 g (by first|omega|(simp only[zau,zax]at *;omega))];trivial
theorem zo5 {P:Program} {c:Code} {Q:Exit→St→Prop} [_hf:CellsI f sz] {env:Env} {pre:Mem} {n l:Nat} {xs:List (List α)} (t:Nat) (hp:lowB pre=true) (ht:env.at t = .sl 950 l) (hl:l=xs.length)
  (k:∀ M:Mem,DW P c Q ⟨(t,.dat true (.slice (xs.map fun r=>[V.slice (r.map f)])))::env,M,n⟩):DW P c Q ⟨env,famS f sz pre xs,n⟩:=by
 let M:Mem:=(950,.cells true true (ctrD xs))::(famZ f sz xs++famS f sz pre xs)
 have hM:∀ g,Mem.at M g=if(Nat.beq g 950 || Nat.ble 3000 g)=true then zbb (Mem.at (famS f sz pre xs) g)else Mem.at (famS f sz pre xs) g:=fun g=>by
  show look .gone ((950,Box.cells true true (ctrD xs))::(famZ f sz xs++famS f sz pre xs)) g=_
  rw[zai]
  by_cases h1:950=g
  ·subst h1
   rw[if_pos rfl,zdI f sz hp]
   rfl
  ·rw [if_neg h1,show look .gone (famZ f sz xs++famS f sz pre xs) g=Mem.at (famZ f sz xs++famS f sz pre xs) g from rfl,zaP]
   have hb:Nat.beq g 950=false:=by
    cases hb:Nat.beq g 950 with
    | false=>rfl
    | true=>exact absurd (Nat.eq_of_beq_eq_true hb).symm h1
   by_cases h2:3000≤g
   ·rw [if_pos (show(Nat.beq g 950 || Nat.ble 3000 g)=true by rw[hb,Nat.ble_eq_true_of_le h2];rfl),zeP f sz hp (by first|omega|(simp only[zau,zax]at *;omega)),zdn,if_pos h2]
    split
    ·rw[zja,if_pos h2]
     cases xs[ix g]? <;> rfl
    ·rename_i hn
     cases hx:xs[ix g]? with
     | some r =>
      exfalso
      refine hn (zdz (l:=famZ f sz xs) ?_)
      rw[zja,if_pos h2,hx]
      simp
     | none =>
      rfl
   ·have h3:Nat.ble 3000 g=false:=by
     cases hb:Nat.ble 3000 g with
     | false=>rfl
     | true=>exact absurd (Nat.le_of_ble_eq_true hb) h2
    rw[if_neg (show ¬(Nat.beq g 950 || Nat.ble 3000 g)=true by rw[hb,h3];simp)]
    split
    ·rename_i hn
     exfalso
     obtain⟨p,hp1,hp2⟩:=List.mem_map.1 hn
     have key:∀ (xs:List (List α)) (i:Nat),∀ p∈zdF f sz true i xs,3000≤p.1:=by
      intro xs
      induction xs with
      | nil=>intro i p hp;cases hp
      | cons r rs ih =>
       intro i p hp
       rcases List.mem_cons.1 hp with h|h
       ·rw[h];show 3000≤nm i;(first|omega|(simp only[zau]at *;omega))
       ·exact ih (i+1) p h
     have:=key xs 0 p hp1
     omega
    ·rfl
 refine zaZ (zib (mem':=M) (fun g=>Nat.beq g 950 || Nat.ble 3000 g) hM fun g kt et es h1 h2=>?_) ?_
 ·by_cases hg:g=950
  ·subst hg;rw[zdI f sz hp]at h2;cases h2
  ·have hb:Nat.beq g 950=false:=by
    cases hb:Nat.beq g 950 with
    | false=>rfl
    | true=>exact absurd (Nat.eq_of_beq_eq_true hb) hg
   rw[hb,Bool.false_or]at h1
   have h3:=Nat.le_of_ble_eq_true h1
   rw[zeP f sz hp (by first|omega|(simp only[zau,zax]at *;omega)),zdn,if_pos h3]at h2
   cases hx:xs[ix g]? with
   | none=>rw[hx]at h2;cases h2
   | some r=>rw[hx]at h2;cases h2
 ·refine zi9 t (.dat true (.slice (xs.map fun r=>[V.slice (r.map f)]))) (fun C v hm hd=>?_) (k M)
  rw[ht]at hd
  have h950:Mem.at M 950 = .cells true true (ctrD xs):=rfl
  refine zq2 (sz:=1) (fl:=true) hm h950 (fun _=>rfl) _ (fun i e h=>?_) (fun i j e x h1 h2=>?_) (by rw[hl];simp) hd
  ·rw[List.getElem?_map]at h
   obtain⟨r,_,rfl⟩:=Option.map_eq_some_iff.1 h
   rfl
  ·rw [List.getElem?_map]at h1
   obtain⟨r,hr,rfl⟩:=Option.map_eq_some_iff.1 h1
   have hj:j=0:=by have:=(List.getElem?_eq_some_iff.1 h2).1;simpa using this
   subst hj
   simp only[List.getElem?_cons_zero,Option.some.injEq]at h2
   subst h2
   refine⟨rfl,.own (nm i) 0 0 r.length,true,?_,?_,fun _=>.inl rfl⟩
   ·rw[Nat.mul_one,Nat.add_zero,zdG,hr];rfl
   ·have hat:Mem.at M (nm i) = .row 0 true true sz (r.map f):=by
     rw[hM,if_pos (by rw[Nat.ble_eq_true_of_le (zcZ i),Bool.or_true]),zeP f sz hp (by first|omega|(simp only[zau]at *;omega)),zcu f sz hr]
     rfl
    have h0:(List.drop 0 (r.map f)).take r.length=r.map f:=by rw[List.drop_zero];exact List.take_of_length_le (by simp)
    show(match Mem.at M (nm i)with | .row ver' true nw _ xs=>(bif Nat.beq 0 ver' then some (nw,V.slice ((xs.drop 0).take r.length))else none)|_=>none)=_
    rw[hat]
    show some (true,V.slice (List.take r.length (List.drop 0 (r.map f))))=_
    rw[h0]
end
end Go.Proofs.YtcdhlofhhcgohaaGreat
