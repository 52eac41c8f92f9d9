/- A row is a box of cells from here on, whose cells alone say what is new. -/
import Derived.Test.YtcdhlofhhcgohaaGreatwbFam
import Derived.Test.YtcdhlofhhcgohaaGreatwbGo
import Derived.Test.YtcdhlofhhcgohaaGreatwbNst
import Derived.Test.YtcdhlofhhcgohaaGreatwdPlB
namespace Go.Proofs.YtcdhlofhhcgohaaGreat
open Go.RowKit
attribute [local irreducible] nm ix
section
variable {α : Type} (f : α → List V) (sz : Nat)
def famC (pre:Mem) (CS':List D) (xs:List (List α)):Mem:=pre++(950,.cells false true CS')::famM f sz xs
theorem zfL {pre:Mem} {CS':List D} {xs:List (List α)} {g:Nat}:Mem.at (famC f sz pre CS' xs) g=if g∈pre.map (·.1)then pre.at g else if 950=g then .cells false true CS' else Mem.at (famM f sz xs) g:=by
 unfold famC
 rw[zaP]
 split
 ·rfl
 ·show look .gone ((950,Box.cells false true CS')::famM f sz xs) g=_
  rw[zai]
  rfl
theorem zmR {pre:Mem} {CS':List D} {xs:List (List α)} (hp:lowB pre=true):Mem.at (famC f sz pre CS' xs) 950 = .cells false true CS':=by
 rw[zfL,if_neg (fun h=>by have:=zbS hp h;(first|omega|(simp only[zau,zax]at *;omega))),if_pos rfl]
theorem zfM {pre:Mem} {CS':List D} {xs:List (List α)} {g:Nat} (hp:lowB pre=true) (h:950<g):Mem.at (famC f sz pre CS' xs) g=Mem.at (famM f sz xs) g:=by
 rw[zfL,if_neg (fun h=>by have:=zbS hp h;(first|omega|(simp only[zau,zax]at *;omega))),if_neg (by first|omega|(simp only[zau,zax]at *;omega))]
theorem zs5 {pre:Mem} {CS':List D} {xs:List (List α)} {g:Nat} (h1:g<950) (h2:(pre.any fun p=>Nat.beq p.1 g)=false):Mem.at (famC f sz pre CS' xs) g = .gone:=by
 rw[zfL,if_neg,if_neg (by omega),zdH f sz xs (by omega)]
 intro hm
 obtain⟨p,hp,e⟩:=List.mem_map.1 hm
 have:=List.any_eq_false.1 h2 p hp
 rw[e]at this
 simp at this
theorem zgs {s:St} {env':Env} {pre':Mem} {CS':List D} {xs':List (List α)} {CS:List D} (c0:Nat) (τ:Nat→Option Nat) (hc0:c0≤950) (hp:lowB pre'=true)
  (hi:zev (ρF c0 τ) (950::pre'.map (·.1))=true)
  (hτ:∀ g g' a,3000≤g→3000≤g'→τ g=some a→τ g'=some a→g=g') (hτ2:∀ g a,3000≤g→τ g=some a→950<a)
  (h50:s.mem.at c0 = .cells false true CS) (hl:zdt s.mem (famC f sz pre' CS' xs') (ρF c0 τ) CS CS')
  (hT:∀ (k:Nat) r,xs'[k]? = some r→zdP s.mem (famC f sz pre' CS' xs') (ρF c0 τ) (nm k) (.row 0 false true sz (r.map f)))
  (hm:zeI s ⟨env',famC f sz pre' CS' xs',s.n⟩ (ρF c0 τ) pre') (he:zeH s ⟨env',famC f sz pre' CS' xs',s.n⟩ (ρF c0 τ) env'):Wk s ⟨env',famC f sz pre' CS' xs',s.n⟩:=by
 have hlo:∀ g a,g<3000→g≤950→ρF c0 τ g=some a→a≤950:=fun g a h h2 e=>by
  unfold ρF at e
  rw[zsh h]at e
  simp only[cond_true]at e
  cases hb:Nat.beq g 950 with
  | true=>rw[hb]at e;injection e with e;(first|omega|(simp only[zau,zax]at *;omega))
  | false=>rw[hb]at e;injection e with e;(first|omega|(simp only[zau,zax]at *;omega))
 have hhi:∀ g,3000≤g→ρF c0 τ g=τ g:=fun g h=>by
  unfold ρF
  have:Nat.blt g 3000=false:=by
   cases hb:Nat.blt g 3000 with
   | false=>rfl
   | true=>have:=zic hb;(first|omega|(simp only[zau,zax]at *;omega))
  rw[this];rfl
 have cls:∀ g,Mem.at (famC f sz pre' CS' xs') g ≠ .gone→g∈(950::pre'.map (·.1))∨3000≤g:=fun g h=>by
  rw[zfL]at h
  by_cases h1:g∈pre'.map (·.1)
  ·exact .inl (List.mem_cons_of_mem _ h1)
  ·rw[if_neg h1]at h
   by_cases h2:950=g
   ·exact .inl (by rw[h2];exact List.mem_cons_self ..)
   ·rw[if_neg h2]at h
    by_cases h3:3000≤g
    ·exact .inr h3
    ·exact absurd (zdH f sz xs' (by first|omega|(simp only[zau,zax]at *;omega))) h
 have low:∀ g,g∈(950::pre'.map (·.1))→g≤950:=fun g h=>by
  rcases List.mem_cons.1 h with h|h
  ·(first|omega|(simp only[zau,zax]at *;omega))
  ·have:=zbS hp h;(first|omega|(simp only[zau,zax]at *;omega))
 refine zmG (ρF c0 τ) rfl (fun g g' a h1 h2 e1 e2=>?_) (fun g=>?_) (zeg he)
 ·rcases cls g h1 with q1|q1
  ·rcases cls g' h2 with q2|q2
   ·exact zgj hi q1 q2 e1 e2
   ·have r1:=hlo g a (by have:=low g q1;(first|omega|(simp only[zau,zax]at *;omega))) (low g q1) e1
    rw[hhi g' q2]at e2
    have:=hτ2 g' a q2 e2;(first|omega|(simp only[zau,zax]at *;omega))
  ·rcases cls g' h2 with q2|q2
   ·have r1:=hlo g' a (by have:=low g' q2;(first|omega|(simp only[zau,zax]at *;omega))) (low g' q2) e2
    rw[hhi g q1]at e1
    have:=hτ2 g a q1 e1;(first|omega|(simp only[zau,zax]at *;omega))
   ·rw[hhi g q1]at e1
    rw[hhi g' q2]at e2
    exact hτ g g' a q1 q2 e1 e2
 ·show zdP s.mem (famC f sz pre' CS' xs') (ρF c0 τ) g (Mem.at (famC f sz pre' CS' xs') g)
  rw[zfL]
  by_cases h1:g∈pre'.map (·.1)
  ·rw[if_pos h1]
   exact zeh hm g
  ·rw [if_neg h1]
   by_cases h2:950=g
   ·subst h2
    rw[if_pos rfl]
    exact⟨c0,CS,rfl,h50,hl⟩
   ·rw [if_neg h2,zdn]
    by_cases h3:3000≤g
    ·rw[if_pos h3]
     cases hx:xs'[ix g]? with
     | none=>trivial
     | some r =>
      have:=hT (ix g) r hx
      rwa[zq3 h3]at this
    ·rw[if_neg h3];trivial
theorem za5 {pre:Mem} {CS':List D} {xs:List (List α)} {k:Nat} {r:List α} (hp:lowB pre=true) (h:xs[k]? = some r):Mem.at (famC f sz pre CS' xs) (nm k) = .row 0 false true sz (r.map f):=by
 rw[zfM f sz hp (by have:=zcZ k;omega),zcu f sz h]
def zpE (CS:List D) (xs:List (List α)):Prop:=∀ (j:Nat) d,CS[j]? = some d→(∃ n x,d = .dat n x)∨d = .any∨∃ k r,xs[k]? = some r∧d = .own (nm k) 0 0 r.length
theorem zcB {s:St} {env':Env} {pre':Mem} {CS:List D} {xs:List (List α)} (hok:zpE CS xs) (hp:lowB pre'=true) (hi:zev (ρF 950 some) (950::pre'.map (·.1))=true)
  (h50:s.mem.at 950 = .cells false true CS) (hT:∀ (k:Nat) r,xs[k]? = some r→s.mem.at (nm k) = .row 0 false true sz (r.map f))
  (hm:zeI s ⟨env',famC f sz pre' CS xs,s.n⟩ (ρF 950 some) pre') (he:zeH s ⟨env',famC f sz pre' CS xs,s.n⟩ (ρF 950 some) env') :
  Wk s ⟨env',famC f sz pre' CS xs,s.n⟩:=by
 refine zgs f sz 950 some (Nat.le_refl _) hp hi (fun g g' a _ _ h1 h2=>by injection h1 with h1;injection h2 with h2;omega) (fun g a h1 h2=>by injection h2 with h2;omega) h50 (zbf rfl fun j d d' h1 h2=>?_) (fun k r h=>?_) hm he
 ·rw[h1]at h2
  injection h2 with h2
  subst h2
  rcases hok j d h1 with⟨n',x,rfl⟩|rfl|⟨k1,r1,hr1,rfl⟩
  ·exact⟨n',rfl,.inl rfl⟩
  ·trivial
  ·exact zbd (ρF_hi (zcZ k1)) (hT k1 r1 hr1) (za5 f sz hp hr1)
 ·exact zbt (ρF_hi (zcZ k)) (hT k r h)
theorem znO {s:St} {env':Env} {pre':Mem} {xs:List (List α)} (A p:Nat) {r':List α} {ver:Nat} {CS CS':List D} (hA:A<xs.length) (hok:zpE CS' (xs.set A r')) (hcp:CS'[p]? = some (.own (nm A) 0 0 r'.length)) (huq:∀ (j len:Nat),CS'[j]? = some (.own (nm A) 0 0 len)→j=p) (hp:lowB pre'=true)
  (hi:zev (ρF 950 fun g=>if g=nm A then some 960 else some g) (950::pre'.map (·.1))=true)
  (h60:s.mem.at 960 = .row ver false true sz (r'.map f)) (h50:s.mem.at 950 = .cells false true CS) (hcs:CS=CS'.set p (.own 960 ver 0 r'.length))
  (hT:∀ (k:Nat) r,k≠A→xs[k]? = some r→s.mem.at (nm k) = .row 0 false true sz (r.map f))
  (hm:zeI s ⟨env',famC f sz pre' CS' (xs.set A r'),s.n⟩ (ρF 950 fun g=>if g=nm A then some 960 else some g) pre') (he:zeH s ⟨env',famC f sz pre' CS' (xs.set A r'),s.n⟩ (ρF 950 fun g=>if g=nm A then some 960 else some g) env') :
  Wk s ⟨env',famC f sz pre' CS' (xs.set A r'),s.n⟩:=by
 have key:∀ (k:Nat) r,(xs.set A r')[k]? = some r→(k=A∧r=r')∨(k≠A∧xs[k]? = some r):=fun k r h=>by
  by_cases hk:k=A
  ·subst hk
   rw[List.getElem?_set_self hA]at h
   injection h with h
   exact .inl ⟨rfl,h.symm⟩
  ·rw[List.getElem?_set_ne (Ne.symm hk)]at h
   exact .inr ⟨hk,h⟩
 have rA:ρF 950 (fun g=>if g=nm A then some 960 else some g) (nm A)=some 960:=by rw[ρF_hi (zcZ A)];exact if_pos rfl
 have rN:∀ k,k≠A→ρF 950 (fun g=>if g=nm A then some 960 else some g) (nm k)=some (nm k):=fun k hk=>by rw[ρF_hi (zcZ k)];exact if_neg (fun h=>hk (zkr h))
 subst hcs
 refine zgs f sz 950 _ (Nat.le_refl _) hp hi (fun g g' a q1 q2 h1 h2=>?_) (fun g a h1 h2=>?_) h50 (zbf (by rw[List.length_set]) fun j d d' h1 h2=>?_) (fun k r h=>?_) hm he
 ·by_cases e1:g=nm A
  ·by_cases e2:g'=nm A
   ·omega
   ·rw[if_pos e1]at h1;rw[if_neg e2]at h2;injection h1 with h1;injection h2 with h2;omega
  ·by_cases e2:g'=nm A
   ·rw[if_neg e1]at h1;rw[if_pos e2]at h2;injection h1 with h1;injection h2 with h2;omega
   ·rw[if_neg e1]at h1;rw[if_neg e2]at h2;injection h1 with h1;injection h2 with h2;omega
 ·by_cases e1:g=nm A
  ·rw[if_pos e1]at h2;injection h2 with h2;omega
  ·rw[if_neg e1]at h2;injection h2 with h2;omega
 ·by_cases hj:j=p
  ·subst hj
   rw[List.getElem?_set_self (List.getElem?_eq_some_iff.1 hcp).1]at h1
   rw[hcp]at h2
   injection h1 with h1
   injection h2 with h2
   subst h1 h2
   exact zbd rA h60 (za5 f sz hp (List.getElem?_set_self hA))
  ·rw[List.getElem?_set_ne (Ne.symm hj),h2]at h1
   injection h1 with h1
   subst h1
   rcases hok j _ h2 with⟨n',x,rfl⟩|rfl|⟨k1,r1,hr1,rfl⟩
   ·exact⟨n',rfl,.inl rfl⟩
   ·trivial
   ·have hkA:k1≠A:=fun e=>by subst e;exact hj (huq j _ h2)
    rcases key k1 r1 hr1 with⟨e,_⟩|⟨_,q2⟩
    ·exact absurd e hkA
    ·exact zbd (rN k1 hkA) (hT k1 r1 hkA q2) (za5 f sz hp hr1)
 ·rcases key k r h with⟨rfl,rfl⟩|⟨q1,q2⟩
  ·exact zbt rA h60
  ·exact zbt (rN k q1) (hT k r q1 q2)
theorem zl2 {P:Program} {c:Code} {Q:Exit→St→Prop} {env env':Env} {pre pre':Mem} {n:Nat} {CS:List D} {xs:List (List α)} (A p:Nat) {r:List α} (hr:xs[A]? = some r) (hok:zpE CS xs) (hcp:CS[p]? = some (.own (nm A) 0 0 r.length)) (huq:∀ (j len:Nat),CS[j]? = some (.own (nm A) 0 0 len)→j=p) (hp:lowB pre=true) (hp':lowB pre'=true)
  (_hi:zev some (pre'.map (·.1))=true)
  (hm:∀ T:Mem,zeI ⟨env,famC f sz pre CS xs,n⟩ ⟨env',pre'++(960,.row 0 false true sz (r.map f))::(950,.cells false true (CS.set p (.own 960 0 0 r.length)))::T,n⟩ some pre')
  (he:∀ T:Mem,zeH ⟨env,famC f sz pre CS xs,n⟩ ⟨env',pre'++(960,.row 0 false true sz (r.map f))::(950,.cells false true (CS.set p (.own 960 0 0 r.length)))::T,n⟩ some env')
  (k:∀ T:Mem,(∀ g,g<3000→T.at g = .gone)→(∀ (k:Nat) r,k≠A→xs[k]? = some r→T.at (nm k) = .row 0 false true sz (r.map f)) →
   DW P c Q ⟨env',pre'++(960,.row 0 false true sz (r.map f))::(950,.cells false true (CS.set p (.own 960 0 0 r.length)))::T,n⟩):DW P c Q ⟨env,famC f sz pre CS xs,n⟩:=by
 have hA:A<xs.length:=(List.getElem?_eq_some_iff.1 hr).1
 let T:Mem:=(nm A,.gone)::famM f sz xs
 have hTat:∀ g,Mem.at T g=if nm A=g then .gone else Mem.at (famM f sz xs) g:=fun g=>zai _ _ _ _ _
 have hT1:∀ g,g<3000→T.at g = .gone:=fun g h=>by rw[hTat,if_neg (by first|omega|(simp only[zau]at *;omega))];exact zdH f sz xs h
 have hT2:∀ (k:Nat) r,k≠A→xs[k]? = some r→T.at (nm k) = .row 0 false true sz (r.map f):=fun k r h1 h2=>by rw[hTat,if_neg (by first|omega|(simp only[zau]at *;omega))];exact zcu f sz h2
 let M:Mem:=pre'++(960,.row 0 false true sz (r.map f))::(950,.cells false true (CS.set p (.own 960 0 0 r.length)))::T
 have hMat:∀ g,Mem.at M g=if g∈pre'.map (·.1)then pre'.at g else if 960=g then .row 0 false true sz (r.map f)else if 950=g then .cells false true (CS.set p (.own 960 0 0 r.length))else T.at g:=fun g=>by
  show Mem.at (pre'++(960,.row 0 false true sz (r.map f))::(950,.cells false true (CS.set p (.own 960 0 0 r.length)))::T) g=_
  rw[zaP]
  split
  ·rfl
  ·show look .gone ((960,Box.row 0 false true sz (r.map f))::(950,.cells false true (CS.set p (.own 960 0 0 r.length)))::T) g=_
   rw[zai,zai]
   rfl
 let ρ:Nat→Option Nat:=fun g=>if g=960 then some (nm A)else some g
 have r960:ρ 960=some (nm A):=if_pos rfl
 have rN:∀ g,g≠960→ρ g=some g:=fun g h=>if_neg h
 have m960:M.at 960 = .row 0 false true sz (r.map f):=by rw[hMat,if_neg (fun h=>by have:=zbS hp' h;(first|omega|(simp only[zau,zax]at *;omega))),if_pos rfl]
 have s960:Mem.at (famC f sz pre CS xs) 960 = .gone:=by rw[zfM f sz hp (by first|omega|(simp only[zau,zax]at *;omega)),zdH f sz xs (by first|omega|(simp only[zau,zax]at *;omega))]
 have sA:Mem.at (famC f sz pre CS xs) (nm A) = .row 0 false true sz (r.map f):=by rw[zfM f sz hp (by first|omega|(simp only[zau]at *;omega)),zcu f sz hr]
 have hslot:∀ d d',zbX (famC f sz pre CS xs) M some d d'→zbX (famC f sz pre CS xs) M ρ d d':=by
  intro d d' h
  cases d' with
  | own g ver lo len =>
   by_cases hg:g=960
   ·subst hg
    exfalso
    obtain⟨⟨lo',len',frz,nw,sz',xs'⟩,h1,h2⟩:=h
    obtain⟨ver0,rfl,hs⟩:=zds h1
    rw[s960]at hs
    cases hs
   ·unfold zbX at h ⊢
    simp only[ρ,if_neg hg]
    exact h
  | ptr g off =>
   obtain⟨g0,frz,nw,cs,e1,e2,e3⟩:=h
   have hg:g≠960:=fun h=>by subst h;rw[m960]at e3;cases e3
   exact⟨g0,frz,nw,cs,by simp only[ρ,if_neg hg];exact e1,e2,e3⟩
  | rptr g ver i off =>
   obtain⟨g0,frz,nw,sz',xs',ver0,e1,e2,e3,e4⟩:=h
   injection e1 with e1
   subst e1
   have hg:g≠960:=fun h=>by subst h;rw[s960]at e3;cases e3
   exact⟨g,frz,nw,sz',xs',ver0,by simp only[ρ,if_neg hg],e2,e3,e4⟩
  | mp g =>
   obtain⟨g0,kt,et,es,e1,e2,e3⟩:=h
   have hg:g≠960:=fun h=>by subst h;rw[m960]at e3;cases e3
   exact⟨g0,kt,et,es,by simp only[ρ,if_neg hg];exact e1,e2,e3⟩
  | sl g n =>
   obtain⟨g0,frz,nw,cs,e1,e2,e3⟩:=h
   have hg:g≠960:=fun h=>by subst h;rw[m960]at e3;cases e3
   exact⟨g0,frz,nw,cs,by simp only[ρ,if_neg hg];exact e1,e2,e3⟩
  | fnd f cs =>
   obtain⟨cs0,e0,hc⟩:=h
   refine⟨cs0,e0,zeO (fun a b hab=>?_) hc⟩
   cases b with
   | ptr g off =>
    obtain⟨g0,frz,nw,cs,e1,e2,e3⟩:=hab
    have hg:g≠960:=fun h=>by subst h;rw[m960]at e3;cases e3
    exact⟨g0,frz,nw,cs,by simp only[ρ,if_neg hg];exact e1,e2,e3⟩
   | _=>exact hab.elim
  | _=>exact h
 have hlist:∀ (l l':List D),zdt (famC f sz pre CS xs) M some l l'→zdt (famC f sz pre CS xs) M ρ l l':=fun l l' h=>by
  obtain⟨q1,q2⟩:=zdu h
  exact zbf q1 fun j d d' h1 h2=>hslot _ _ (q2 j d d' h1 h2)
 refine zaZ (s':=⟨env',M,n⟩) (zmG ρ rfl (fun g g' a h1 h2 e1 e2=>?_) (fun g=>?_) (fun t=>hslot _ _ (zeg (he T) t))) (k T hT1 hT2)
 ·have hgo:∀ g,Mem.at M g ≠ .gone→g≠nm A:=fun g h hg=>by
   subst hg
   rw[hMat,if_neg (fun h=>by have:=zbS hp' h;(first|omega|(simp only[zau]at *;omega))),if_neg (by first|omega|(simp only[zau]at *;omega)),if_neg (by first|omega|(simp only[zau]at *;omega)),hTat,if_pos rfl]at h
   exact h rfl
  have q1:=hgo g h1
  have q2:=hgo g' h2
  simp only[ρ]at e1 e2
  by_cases r1:g=960
  ·by_cases r2:g'=960
   ·(first|omega|(simp only[zau,zax]at *;omega))
   ·rw[if_pos r1]at e1;rw[if_neg r2]at e2;injection e1 with e1;injection e2 with e2;(first|omega|(simp only[zau,zax]at *;omega))
  ·by_cases r2:g'=960
   ·rw[if_neg r1]at e1;rw[if_pos r2]at e2;injection e1 with e1;injection e2 with e2;(first|omega|(simp only[zau,zax]at *;omega))
   ·rw[if_neg r1]at e1;rw[if_neg r2]at e2;injection e1 with e1;injection e2 with e2;(first|omega|(simp only[zau,zax]at *;omega))
 ·show zdP (famC f sz pre CS xs) M ρ g (Mem.at M g)
  rw[hMat]
  by_cases h1:g∈pre'.map (·.1)
  ·rw[if_pos h1]
   have hb:=zeh (hm T) g
   have hg:g≠960:=by have:=zbS hp' h1;(first|omega|(simp only[zau,zax]at *;omega))
   cases hx:pre'.at g with
   | gone=>trivial
   | row ver frz nw sz' xs' =>
    rw[hx]at hb
    unfold zdP at hb ⊢
    simp only[ρ,if_neg hg]
    exact hb
   | cells frz nw cs =>
    rw[hx]at hb
    obtain⟨g0,cs0,e1,e2,e3⟩:=hb
    exact⟨g0,cs0,by simp only[ρ,if_neg hg];exact e1,e2,hlist _ _ e3⟩
   | mapb kt et es =>
    rw[hx]at hb
    obtain⟨g0,e1,e2⟩:=hb
    exact⟨g0,by simp only[ρ,if_neg hg];exact e1,e2⟩
  ·rw [if_neg h1]
   by_cases h2:960=g
   ·subst h2
    rw[if_pos rfl]
    exact zbt r960 sA
   ·rw [if_neg h2]
    by_cases h3:950=g
    ·subst h3
     rw[if_pos rfl]
     refine⟨950,CS,rfl,zmR f sz hp,zbf (by simp) fun j d d' q1 q2=>?_⟩
     by_cases hj:j=p
     ·subst hj
      rw[List.getElem?_set_self (List.getElem?_eq_some_iff.1 hcp).1]at q2
      rw[hcp]at q1
      injection q1 with q1
      injection q2 with q2
      subst q1 q2
      exact zbd r960 sA m960
     ·rw [List.getElem?_set_ne (Ne.symm hj),q1]at q2
      injection q2 with q2
      subst q2
      rcases hok j d q1 with⟨n',x,rfl⟩|rfl|⟨k1,r1,hr1,rfl⟩
      ·exact⟨n',rfl,.inl rfl⟩
      ·trivial
      ·have hkA:k1≠A:=fun e=>by subst e;exact hj (huq j _ q1)
       have e2:Mem.at M (nm k1) = .row 0 false true sz (r1.map f):=by
        rw[hMat,if_neg (fun h=>by have:=zbS hp' h;(first|omega|(simp only[zau]at *;omega))),if_neg (by first|omega|(simp only[zau]at *;omega)),if_neg (by first|omega|(simp only[zau]at *;omega))]
        exact hT2 k1 r1 hkA hr1
       exact zbd (rN _ (by rw[zau];omega)) (za5 f sz hp hr1) e2
    ·rw [if_neg h3]
     by_cases h4:3000≤g
     ·by_cases h5:nm A=g
      ·rw[hTat,if_pos h5];trivial
      ·rw[hTat,if_neg h5,zdn,if_pos h4]
       cases hx:xs[ix g]? with
       | none=>trivial
       | some r1 =>
        refine zbt (ver0:=0) (rN g (Ne.symm h2)) ?_
        rw[zfM f sz hp (by first|omega|(simp only[zau,zax]at *;omega))]
        have:=zcu f sz hx
        rwa[zq3 h4]at this
     ·rw[hT1 g (by first|omega|(simp only[zau,zax]at *;omega))];trivial
theorem znP {s:St} {env':Env} {pre':Mem} {xs:List (List α)} (p:Nat) {r':List α} {ver:Nat} {CS CS':List D} (hok:zpE CS' (xs++[r'])) (hcp:CS'[p]? = some (.own (nm xs.length) 0 0 r'.length)) (huq:∀ (j len:Nat),CS'[j]? = some (.own (nm xs.length) 0 0 len)→j=p) (hp:lowB pre'=true)
  (hi:zev (ρF 950 fun g=>if g=nm xs.length then some 960 else some g) (950::pre'.map (·.1))=true)
  (h60:s.mem.at 960 = .row ver false true sz (r'.map f)) (h50:s.mem.at 950 = .cells false true CS) (hcs:CS=CS'.set p (.own 960 ver 0 r'.length))
  (hT:∀ (k:Nat) r,xs[k]? = some r→s.mem.at (nm k) = .row 0 false true sz (r.map f))
  (hm:zeI s ⟨env',famC f sz pre' CS' (xs++[r']),s.n⟩ (ρF 950 fun g=>if g=nm xs.length then some 960 else some g) pre') (he:zeH s ⟨env',famC f sz pre' CS' (xs++[r']),s.n⟩ (ρF 950 fun g=>if g=nm xs.length then some 960 else some g) env') :
  Wk s ⟨env',famC f sz pre' CS' (xs++[r']),s.n⟩:=by
 generalize hA:xs.length=A at *
 have hself:(xs++[r'])[A]? = some r':=by rw[←hA];simp
 have key:∀ (k:Nat) r,(xs++[r'])[k]? = some r→(k=A∧r=r')∨(k≠A∧xs[k]? = some r):=fun k r h=>by
  by_cases hk:k=A
  ·subst hk
   rw[hself]at h
   injection h with h
   exact .inl ⟨rfl,h.symm⟩
  ·refine .inr ⟨hk,?_⟩
   have hlt:=(List.getElem?_eq_some_iff.1 h).1
   rw[List.length_append,List.length_singleton]at hlt
   rwa[List.getElem?_append_left (by omega)]at h
 have rA:ρF 950 (fun g=>if g=nm A then some 960 else some g) (nm A)=some 960:=by rw[ρF_hi (zcZ A)];exact if_pos rfl
 have rN:∀ k,k≠A→ρF 950 (fun g=>if g=nm A then some 960 else some g) (nm k)=some (nm k):=fun k hk=>by rw[ρF_hi (zcZ k)];exact if_neg (fun h=>hk (zkr h))
 subst hcs
 refine zgs f sz 950 _ (Nat.le_refl _) hp hi (fun g g' a q1 q2 h1 h2=>?_) (fun g a h1 h2=>?_) h50 (zbf (by rw[List.length_set]) fun j d d' h1 h2=>?_) (fun k r h=>?_) hm he
 ·by_cases e1:g=nm A
  ·by_cases e2:g'=nm A
   ·omega
   ·rw[if_pos e1]at h1;rw[if_neg e2]at h2;injection h1 with h1;injection h2 with h2;omega
  ·by_cases e2:g'=nm A
   ·rw[if_neg e1]at h1;rw[if_pos e2]at h2;injection h1 with h1;injection h2 with h2;omega
   ·rw[if_neg e1]at h1;rw[if_neg e2]at h2;injection h1 with h1;injection h2 with h2;omega
 ·by_cases e1:g=nm A
  ·rw[if_pos e1]at h2;injection h2 with h2;omega
  ·rw[if_neg e1]at h2;injection h2 with h2;omega
 ·by_cases hj:j=p
  ·subst hj
   rw[List.getElem?_set_self (List.getElem?_eq_some_iff.1 hcp).1]at h1
   rw[hcp]at h2
   injection h1 with h1
   injection h2 with h2
   subst h1 h2
   exact zbd rA h60 (za5 f sz hp hself)
  ·rw[List.getElem?_set_ne (Ne.symm hj),h2]at h1
   injection h1 with h1
   subst h1
   rcases hok j _ h2 with⟨n',x,rfl⟩|rfl|⟨k1,r1,hr1,rfl⟩
   ·exact⟨n',rfl,.inl rfl⟩
   ·trivial
   ·have hkA:k1≠A:=fun e=>by subst e;exact hj (huq j _ h2)
    rcases key k1 r1 hr1 with⟨e,_⟩|⟨_,q2⟩
    ·exact absurd e hkA
    ·exact zbd (rN k1 hkA) (hT k1 r1 q2) (za5 f sz hp hr1)
 ·rcases key k r h with⟨rfl,rfl⟩|⟨q1,q2⟩
  ·exact zbt rA h60
  ·exact zbt (rN k q1) (hT k r q2)
theorem znQ {s:St} {env':Env} {pre':Mem} {CS:List D} (c0:Nat) (hc0:c0≤950) (hdat:∀ (j:Nat) d,CS[j]? = some d→(∃ n x,d = .dat n x)∨d = .any) (hp:lowB pre'=true) (hi:zev (ρF c0 fun _=>none) (950::pre'.map (·.1))=true)
  (h50:s.mem.at c0 = .cells false true CS)
  (hm:zeI s ⟨env',famC f sz pre' CS [],s.n⟩ (ρF c0 fun _=>none) pre') (he:zeH s ⟨env',famC f sz pre' CS [],s.n⟩ (ρF c0 fun _=>none) env') :
  Wk s ⟨env',famC f sz pre' CS [],s.n⟩:=by
 refine zgs f sz c0 (fun _=>none) hc0 hp hi (fun _ _ _ _ _ h=>by cases h) (fun _ _ _ h=>by cases h) h50 (zbf rfl fun j d d' h1 h2=>?_) (fun k r h=>by cases h) hm he
 rw[h1]at h2
 injection h2 with h2
 subst h2
 rcases hdat j d h1 with⟨n',x,rfl⟩|rfl
 ·exact⟨n',rfl,.inl rfl⟩
 ·trivial
end
end Go.Proofs.YtcdhlofhhcgohaaGreat
namespace Go.Proofs.YtcdhlofhhcgohaaGreat
open Go.RowKit
inductive Lnd (m:Mem):D→V→Prop
 | asb {d:D} {x:V} (h:asB m d=some x):Lnd m d x
 | sl {g n sz:Nat} {frz nw:Bool} {cs:List D} {xs:List (List V)} (dc:Nat→Nat→D) (hm:m.at g = .cells frz nw cs) (hn:n=xs.length) (hsz:∀ (i:Nat) (e:List V),xs[i]? = some e→e.length=sz)
   (h1:∀ (i j:Nat) (e:List V) (x:V),xs[i]? = some e→e[j]? = some x→x.one=true) (hc:∀ (i j:Nat) (e:List V) (x:V),xs[i]? = some e→e[j]? = some x→cs[i*sz+j]? = some (dc i j))
   (hl:∀ (i j:Nat) (e:List V) (x:V),xs[i]? = some e→e[j]? = some x→Lnd m (dc i j) x):Lnd m (.sl g n) (.slice xs)
 | ptr {g off:Nat} {frz nw:Bool} {cs:List D} {xs:List V} (dc:Nat→D) (hm:m.at g = .cells frz nw cs) (h1:∀ (j:Nat) (x:V),xs[j]? = some x→x.one=true)
   (hc:∀ (j:Nat) (x:V),xs[j]? = some x→cs[off+j]? = some (dc j)) (hl:∀ (j:Nat) (x:V),xs[j]? = some x→Lnd m (dc j) x):Lnd m (.ptr g off) (.rp xs)
 | aggd {cs:List D} {xs:List V} (hn:cs.length=xs.length) (hl:∀ (j:Nat) (d:D) (x:V),cs[j]? = some d→xs[j]? = some x→Lnd m d x):Lnd m (.aggd cs) (.agg xs)
theorem Lnd.ok {C:Cf} {m:Mem} (hm:HoldsM C m) {d:D} {x:V} (h:Lnd m d x):∀ {v:Value},RdD C m d v→Rd (C.lent m) C.w x v:=by
 induction h with
 | asb h=>intro v hv;exact zr8 hm h hv
 | @sl g n sz frz nw cs xs dc hg hn hsz h1 hc hl ih =>
  intro v hv
  have hv:RdS C m (.sl g n) v:=hv
  obtain⟨frz',nw',cs',b,cap,e1,hi,rfl,hle,hmx⟩:=hv
  have hb:=hm.box g
  rw[hg]at hb
  obtain⟨b',hi',arr,T,fz,k1,k2,k3,k4,k5⟩:=hb
  rw[hi]at hi'
  injection hi' with hi'
  subst hi' hn
  have key:∀ (i j:Nat) (e:List V) (x:V),xs[i]? = some e→e[j]? = some x→arr[i*sz+j]? = some (arr.getD (i*sz+j) undef)∧Rd (C.lent m) C.w x (arr.getD (i*sz+j) undef):=by
   intro i j e x hx hj
   have hd:=hc i j e x hx hj
   have hlt:i*sz+j<arr.size:=by have:=(List.getElem?_eq_some_iff.1 hd).1;omega
   have ha:arr[i*sz+j]? = some (arr.getD (i*sz+j) undef):=by simp[hlt]
   exact⟨ha,ih i j e x hx hj (k4 _ _ _ hd ha).rd⟩
  refine Rd.slice xs b 0 cap sz (fun i j=>arr.getD (i*sz+j) undef) hle hmx hsz h1 (fun _=>.inr ⟨g,by rw[hg];simp,hi⟩) (fun i j e d q1 q2=>?_) (fun i j e d q1 q2=>(key i j e d q1 q2).2)
  rw[Nat.zero_add,zaz k1]
  exact(key i j e d q1 q2).1
 | @ptr g off frz nw cs xs dc hg h1 hc hl ih =>
  intro v hv
  have hv:RdS C m (.ptr g off) v:=hv
  obtain⟨frz',nw',cs',b,e1,hi,rfl⟩:=hv
  have hb:=hm.box g
  rw[hg]at hb
  obtain⟨b',hi',arr,T,fz,k1,k2,k3,k4,k5⟩:=hb
  rw[hi]at hi'
  injection hi' with hi'
  subst hi'
  have key:∀ (j:Nat) (x:V),xs[j]? = some x→arr[off+j]? = some (arr.getD (off+j) undef)∧Rd (C.lent m) C.w x (arr.getD (off+j) undef):=by
   intro j x hj
   have hd:=hc j x hj
   have hlt:off+j<arr.size:=by have:=(List.getElem?_eq_some_iff.1 hd).1;omega
   have ha:arr[off+j]? = some (arr.getD (off+j) undef):=by simp[hlt]
   exact⟨ha,ih j x hj (k4 _ _ _ hd ha).rd⟩
  refine Rd.rp xs b off (fun j=>arr.getD (off+j) undef) h1 (.inr ⟨g,by rw[hg];simp,hi⟩) (fun j d q=>?_) (fun j d q=>(key j d q).2)
  rw[zaz k1]
  exact(key j d q).1
 | @aggd cs xs hn hl ih =>
  intro v hv
  obtain⟨vs,rfl,hsz,hr⟩:=hv
  refine Rd.agg xs vs (by omega) (fun j x c hx hcv=>?_)
  have hj:j<cs.length:=by have:=(List.getElem?_eq_some_iff.1 hx).1;omega
  exact ih j cs[j] x (List.getElem?_eq_getElem hj) hx (hr j _ c (List.getElem?_eq_getElem hj) hcv).rd
def LndL (m:Mem):List D→List V→Prop
 | [],[]=>True
 | d::r,x::s=>Lnd m d x∧LndL m r s
 | _,_=>False
theorem LndL.get {m:Mem}:∀ {ds:List D} {xs:List V},LndL m ds xs→ds.length=xs.length∧∀ (j:Nat) d x,ds[j]? = some d→xs[j]? = some x→Lnd m d x
 | [],[],_=>⟨rfl,by simp⟩
 | d::r,x::s,h=>by
  obtain⟨h1,h2⟩:=LndL.get h.2
  refine⟨by simp[h1],fun j d' x' a b=>?_⟩
  cases j with
  | zero =>
   simp only[List.getElem?_cons_zero,Option.some.injEq]at a b
   subst a b;exact h.1
  | succ j=>exact h2 j d' x' (by simpa using a) (by simpa using b)
 | [],_::_,h=>h.elim
 | _::_,[],h=>h.elim
section
variable {P : Program} {e : Operand → D} {m : Mem} {dst : Option Tmp} {ty : TypeId} {pos : String} {af : Array Edge} {gd : Option (Nat × Bool)}
theorem zl3 {f:FuncId} {args:Array Operand} {ats:Array TypeId} {ds:List V} {r:V} (rd:List Nat) (hc:FnF P f ds r) (ha:∀ m':Mem,(∀ g,g∈rd→m'.at g=m.at g)→LndL m' (args.toList.map e) ds) :
  SStep P ⟨dst,.call { callee := .value (.func f),args:=args,argTypes:=ats },ty,pos,af,gd⟩ e m rd (.dat true r) []:=by
 intro C m' a next Q hag hm hx hn
 have hl:=ha m' (fun g hg=>hag g (.inl hg))
 obtain⟨hlen,hall⟩:=hl.get
 have hrun:(execOp a.eval ⟨dst,.call { callee := .value (.func f),args:=args,argTypes:=ats },ty,pos,af,gd⟩).run P C.w = .ok (.enter f (args.map a.eval)) C.w:=by
  have hev:a.eval (.func f) = .func (.func f) #[] #[]:=rfl
  simp only[execOp,resolve,hev,Deferred.ofValue,Sem.run_bind,Sem.run_pure,Result.andThen_ok,invoke,za6 hc.1]
  simp
 obtain⟨_,hc⟩:=hc
 unfold Oper.wp
 rw[hrun]
 show Calls P f (args.map a.eval) C.w _
 have hsd:∀ b,C.lent m' b→b<C.w.heap.size:=by
  rintro b (hb|⟨g,h1,h2⟩)
  ·exact hm.sdom b hb
  ·exact BoxOK.lt hm h1 h2
 have hr:RdL (C.lent m') C.w ds (args.map a.eval):=by
  refine⟨by simpa using hlen,fun j d c hd hcv=>?_⟩
  simp only[Array.getElem?_map,Option.map_eq_some_iff]at hcv
  obtain⟨y,hy,rfl⟩:=hcv
  refine(hall j (e y) d (by rw[List.getElem?_map,Array.getElem?_toList,hy];rfl) hd).ok hm (hx y ?_)
  simp only[Op.operands,Call.operands]
  exact Array.mem_append.2 (.inr (Array.mem_of_getElem? hy))
 refine(hc (C.lent m') C.w (args.map a.eval) hsd hr).mono ?_
 rintro e' w' ⟨v,rfl,hb,hrd⟩
 have hg:Grew C.w w':=⟨hb.os,hb.tape,hb.output,hb.size,hb.block⟩
 have hst:=zc9 (newB C.w w') hm hg (fun k hk=>hk)
 exact hn v _ hst (Rd.mono hrd (fun _ h=>.inr h) (fun _ _=>rfl))
end
end Go.Proofs.YtcdhlofhhcgohaaGreat
namespace Go.Proofs.YtcdhlofhhcgohaaGreat
open Go.RowKit
attribute [local irreducible] nm ix
def zec (k i:Nat) (b:Bridge):List D :=
 [.dat true (.int .u64 b.addr),if i<k then .own (nm i) 0 0 b.prios.length else .dat false (.slice (b.prios.map zad)),.dat true (.str b.region.name),.dat true (.int .i64 b.region.rev),.dat (decide (i<k)) (.slice (b.region.ways.map wayV))]
theorem zkT (k i:Nat) (b:Bridge):(zec k i b).length=5:=rfl
def brCS (k:Nat) (bs:List Bridge):List D:=(bs.mapIdx (zec k)).flatten
theorem zcK (k:Nat) (bs:List Bridge):(brCS k bs).length=bs.length*5:=by
 unfold brCS
 rw[zcX (sz:=5) _ (fun i e h=>by
  rw[List.getElem?_mapIdx]at h
  obtain⟨b,_,rfl⟩:=Option.map_eq_some_iff.1 h
  exact zkT k i b),List.length_mapIdx]
theorem zcv (k:Nat) (bs:List Bridge) (i o:Nat) (ho:o<5):(brCS k bs)[i*5+o]? = (bs[i]?).bind fun b=>(zec k i b)[o]? := by
 unfold brCS
 rw[zcW (sz:=5) _ (fun i e h=>by
  rw[List.getElem?_mapIdx]at h
  obtain⟨b,_,rfl⟩:=Option.map_eq_some_iff.1 h
  exact zkT k i b) i o ho,List.getElem?_mapIdx]
 cases bs[i]? <;> rfl
theorem zed {k i o:Nat} {b:Bridge} {d:D} (h:(zec k i b)[o]? = some d):(∃ n x,d = .dat n x)∨(o=1∧i<k∧d = .own (nm i) 0 0 b.prios.length):=by
 match o with
 | 0=>injection h with h;exact .inl ⟨_,_,h.symm⟩
 | 1 =>
  injection h with h
  by_cases hk:i<k
  ·rw[if_pos hk]at h;exact .inr ⟨rfl,hk,h.symm⟩
  ·rw[if_neg hk]at h;exact .inl ⟨_,_,h.symm⟩
 | 2=>injection h with h;exact .inl ⟨_,_,h.symm⟩
 | 3=>injection h with h;exact .inl ⟨_,_,h.symm⟩
 | 4=>injection h with h;exact .inl ⟨_,_,h.symm⟩
 | o+5=>simp[zec]at h
def zaA (k:Nat) (bs:List Bridge):List (List Int):=(bs.take k).map (·.prios)
theorem zcq {k i:Nat} {bs:List Bridge} (h:i<k):(zaA k bs)[i]? = (bs[i]?).map (·.prios):=by
 unfold zaA
 rw[List.getElem?_map,List.getElem?_take,if_pos h]
theorem zfN {k j:Nat} {bs:List Bridge} {d:D} (h:(brCS k bs)[j]? = some d):∃ b,bs[j / 5]? = some b∧(zec k (j / 5) b)[j % 5]? = some d:=by
 have e:j=j / 5*5+j % 5:=by omega
 rw[e,zcv k bs _ _ (Nat.mod_lt _ (by decide))]at h
 obtain⟨b,hb,hd⟩:=Option.bind_eq_some_iff.1 h
 exact⟨b,hb,hd⟩
def brT (k K:Nat) (bs:List Bridge):List D:=brCS k bs++List.replicate K .any
theorem zs6 {k K j:Nat} {bs:List Bridge} (h:j<bs.length*5):(brT k K bs)[j]? = (brCS k bs)[j]? := by
 unfold brT
 rw[List.getElem?_append_left (by rw[zcK];exact h)]
theorem zjt {k i:Nat} {bs:List Bridge} {b:Bridge} (hi:i<k) (hb:bs[i]? = some b):(brCS k bs)[i*5+1]? = some (.own (nm i) 0 0 b.prios.length):=by
 rw[zcv k bs i 1 (by decide),hb]
 show some (if i<k then D.own (nm i) 0 0 b.prios.length else _)=_
 rw[if_pos hi]
theorem zl4 {k i:Nat} {bs:List Bridge} (j len:Nat) (h:(brCS k bs)[j]? = some (.own (nm i) 0 0 len)):j=i*5+1:=by
 obtain⟨b,hb,hd⟩:=zfN h
 rcases zed hd with⟨n,x,e⟩|⟨ho,_,e⟩
 ·cases e
 ·injection e with e
  have:=zkr e
  omega
theorem zmS {bs:List Bridge} (j:Nat) (d:D) (h:(brCS 0 bs)[j]? = some d):∃ n x,d = .dat n x:=by
 obtain⟨b,hb,hd⟩:=zfN h
 rcases zed hd with⟨n,x,rfl⟩|⟨_,hk,_⟩
 ·exact⟨n,x,rfl⟩
 ·omega
theorem zpF {k:Nat} {bs:List Bridge} {b:Bridge} (hb:bs[k]? = some b) (d:D):((brCS k bs).set (k*5+1) d).set (k*5+4) (.dat true (.slice (b.region.ways.map wayV)))=(brCS (k+1) bs).set (k*5+1) d:=by
 have hk:=(List.getElem?_eq_some_iff.1 hb).1
 refine List.ext_getElem? fun j=>?_
 rw[List.getElem?_set,List.getElem?_set,List.getElem?_set,List.length_set,zcK,zcK]
 by_cases h4:k*5+4=j
 ·rw[if_pos h4,if_pos (by omega),if_neg (by omega),←h4,zcv (k+1) bs k 4 (by decide),hb]
  show _=some (D.dat (decide (k<k+1)) _)
  rw[decide_eq_true (by omega)]
 rw[if_neg h4]
 split
 ·rfl
 ·rename_i hj
  have e:j=j / 5*5+j % 5:=by omega
  have h5:j % 5<5:=Nat.mod_lt _ (by decide)
  rw[e,zcv k bs _ _ h5,zcv (k+1) bs _ _ h5]
  cases hbj:bs[j / 5]? with
  | none=>rfl
  | some b1 =>
   show(zec k (j / 5) b1)[j % 5]? = (zec (k+1) (j / 5) b1)[j % 5]?
   by_cases h1:j / 5=k
   ·have ho:j % 5=0∨j % 5=2∨j % 5=3:=by omega
    rcases ho with ho|ho|ho<;>rw[ho]<;>rfl
   ·have hlt:j / 5<k↔j / 5<k+1:=by omega
    unfold zec
    simp only[hlt]
theorem zrs {k A:Nat} {bs:List Bridge} {b:Bridge} {ps:List Int} (_hA:A<k) (hb:bs[A]? = some b) (d:D):(brCS k (bs.set A { b with prios:=ps })).set (A*5+1) d=(brCS k bs).set (A*5+1) d:=by
 have hAl:=(List.getElem?_eq_some_iff.1 hb).1
 refine List.ext_getElem? fun j=>?_
 rw[List.getElem?_set,List.getElem?_set,zcK,zcK,List.length_set]
 split
 ·rfl
 ·rename_i hj
  have e:j=j / 5*5+j % 5:=by omega
  have h5:j % 5<5:=Nat.mod_lt _ (by decide)
  rw[e,zcv k _ _ _ h5,zcv k bs _ _ h5,List.getElem?_set]
  by_cases h1:A=j / 5
  ·have ho:j % 5=0∨j % 5=2∨j % 5=3∨j % 5=4:=by omega
   rw[if_pos h1,if_pos hAl,←h1,hb]
   show(zec k A { b with prios:=ps })[j % 5]? = (zec k A b)[j % 5]?
   rcases ho with ho|ho|ho|ho<;>rw[ho]<;>rfl
  ·rw[if_neg h1]
theorem zs7 {m:Mem} {N ver vl K:Nat} {frz nw fr2:Bool} {n:Net} (h1:m.at N = .cells frz nw [.sl 950 n.bridges.length,.own 941 ver 0 n.links.length]) (h2:m.at 950 = .cells false true (brT n.bridges.length K n.bridges)) (h3:m.at 941 = .row vl fr2 true 6 (n.links.map zar)) (hv:ver=vl)
  (h4:∀ (k:Nat) b,n.bridges[k]? = some b→m.at (nm k) = .row 0 false true 1 (b.prios.map zad)):Lnd m (.ptr N 0) (.rp n.cells):=by
 subst hv
 have hasb:∀ d x,asB0 m d=some x→(∀ g off,d ≠ .ptr g off)→(∀ g v i o,d ≠ .rptr g v i o)→(∀ cs,d ≠ .aggd cs)→asB m d=some x:=fun d x h q1 q2 q3=>by
  cases d with
  | ptr g off=>exact absurd rfl (q1 g off)
  | rptr g v i o=>exact absurd rfl (q2 g v i o)
  | aggd cs=>exact absurd rfl (q3 cs)
  | _=>exact h
 refine .ptr (fun j=>if j=0 then .sl 950 n.bridges.length else .own 941 ver 0 n.links.length) h1 (fun j x hx=>?_) (fun j x hx=>?_) (fun j x hx=>?_)
 ·match j with
  | 0=>simp[Net.cells]at hx;subst hx;rfl
  | 1=>simp[Net.cells]at hx;subst hx;rfl
  | j+2=>simp[Net.cells]at hx
 ·match j with
  | 0=>rfl
  | 1=>rfl
  | j+2=>simp[Net.cells]at hx
 ·match j with
  | 0 =>
   simp only[Net.cells,List.getElem?_cons_zero,Option.some.injEq]at hx
   subst hx
   rw[if_pos rfl]
   have hget:∀ (i:Nat) (e:List V),(n.bridges.map zaj)[i]? = some e→∃ b,n.bridges[i]? = some b∧e=zaj b:=fun i e h=>by
    rw[List.getElem?_map]at h
    obtain⟨b,hb,rfl⟩:=Option.map_eq_some_iff.1 h
    exact⟨b,hb,rfl⟩
   have h5:∀ (b:Bridge),(zaj b).length=5:=fun _=>rfl
   have hcell:∀ (i o:Nat) (b:Bridge) (x:V),n.bridges[i]? = some b→(zaj b)[o]? = some x→(brT n.bridges.length K n.bridges)[i*5+o]? = some (if o=1 then .own (nm i) 0 0 b.prios.length else .dat true x):=fun i o b x hb hx=>by
    have ho:o<5:=by have:=(List.getElem?_eq_some_iff.1 hx).1;rw[h5]at this;exact this
    have hil:=(List.getElem?_eq_some_iff.1 hb).1
    rw[zs6 (by omega),zcv _ _ i o ho,hb]
    show(zec n.bridges.length i b)[o]? = _
    unfold zec
    rw[if_pos hil,decide_eq_true hil]
    match o,ho,hx with
    | 0,_,hx=>injection hx with hx;subst hx;rfl
    | 1,_,hx=>rfl
    | 2,_,hx=>injection hx with hx;subst hx;rfl
    | 3,_,hx=>injection hx with hx;subst hx;rfl
    | 4,_,hx=>injection hx with hx;subst hx;rfl
   refine .sl (sz:=5) (fun i o=>((brT n.bridges.length K n.bridges)[i*5+o]?).getD .any) h2 (by simp) (fun i e he=>?_) (fun i j e x he hx=>?_) (fun i j e x he hx=>?_) (fun i j e x he hx=>?_)
   ·obtain⟨b,_,rfl⟩:=hget i e he
    rfl
   ·obtain⟨b,_,rfl⟩:=hget i e he
    have:=List.mem_of_getElem? hx
    simp only[zaj,List.mem_cons,List.mem_nil_iff,or_false]at this
    rcases this with rfl|rfl|rfl|rfl|rfl<;>rfl
   ·obtain⟨b,hb,rfl⟩:=hget i e he
    rw[hcell i j b x hb hx];rfl
   ·obtain⟨b,hb,rfl⟩:=hget i e he
    rw[hcell i j b x hb hx,Option.getD_some]
    by_cases h1:j=1
    ·subst h1
     rw[if_pos rfl]
     have hx:some (V.slice (b.prios.map zad))=some x:=hx
     injection hx with hx
     subst hx
     refine .asb (hasb _ _ ?_ (fun _ _=>nofun) (fun _ _ _ _=>nofun) (fun _=>nofun))
     simp only[asB0,h4 i b hb]
     show some (V.slice (((b.prios.map zad).drop 0).take b.prios.length))=_
     rw[List.drop_zero,List.take_of_length_le (by simp)]
    ·rw[if_neg h1]
     exact .asb rfl
  | 1 =>
   simp only[Net.cells,List.getElem?_cons_succ,List.getElem?_cons_zero,Option.some.injEq]at hx
   subst hx
   rw[if_neg (by decide)]
   refine .asb (hasb _ _ ?_ (fun _ _=>nofun) (fun _ _ _ _=>nofun) (fun _=>nofun))
   simp only[asB0,h3,show Nat.beq ver ver=true from Nat.beq_refl _]
   show some (V.slice (((n.links.map zar).drop 0).take n.links.length))=_
   rw[List.drop_zero,List.take_of_length_le (by simp)]
  | j+2=>simp[Net.cells]at hx
end Go.Proofs.YtcdhlofhhcgohaaGreat
namespace Go.Proofs.YtcdhlofhhcgohaaGreat
open Go.RowKit
theorem zeY {P:Program} {c:Code} {Q:Exit→St→Prop} {env:Env} {mem:Mem} {n:Nat} (g:Nat) {ver sz:Nat} {nw:Bool} {xs:List (List V)} (hg:mem.at g = .row ver false nw sz xs) (hsz:0<sz) (hne:xs≠[])
  (k:DW P c Q ⟨cvE g ver env,(g,.cells false true (xs.flatten.map (.dat nw)))::cvM g ver mem,n⟩):DW P c Q ⟨env,mem,n⟩:=by
 intro C a hh
 have hb:=hh.mem.box g
 rw[show St.mem ⟨env,mem,n⟩=mem from rfl,hg]at hb
 cases hi:C.ι g with
 | none=>rw[hi]at hb;exact absurd hb hne
 | some b =>
  rw[hi]at hb
  obtain⟨arr,T,fz,h1,h2,h3,h4,h5,h6,h7⟩:=hb
  have hfl:xs.flatten.length=xs.length*sz:=zcX xs h4
  let cs:=xs.flatten.map (D.dat nw)
  have hcl:cs.length≤arr.size:=by show(xs.flatten.map (D.dat nw)).length≤_;rw[List.length_map,hfl];omega
  let m':Mem:=(g,.cells false true cs)::cvM g ver mem
  have hat:∀ k,Mem.at m' k=if g=k then .cells false true cs else cvB g ver (mem.at k):=fun k=>by
   rw[show Mem.at m' k=look .gone ((g,.cells false true cs)::cvM g ver mem) k from rfl,zai]
   by_cases h:g=k
   ·rw[if_pos h,if_pos h]
   ·rw[if_neg h,if_neg h];exact zo1 g ver mem k h
  have hmut:∀ k,(Mem.at m' k).mut=(mem.at k).mut:=fun k=>by
   rw[hat]
   by_cases hk:g=k
   ·subst hk;rw[if_pos rfl,hg];rfl
   ·rw[if_neg hk];cases mem.at k<;>rfl
  have hgone:∀ k,Mem.at m' k ≠ .gone→mem.at k ≠ .gone:=fun k h=>by
   rw[hat]at h
   by_cases hk:g=k
   ·subst hk;rw[hg];simp
   ·rw[if_neg hk]at h
    intro h0;rw[h0]at h;exact h rfl
  have hs:∀ d v,RdS C mem d v→RdS C m' (cvD g ver d) v:=by
   intro d v h
   cases d with
   | any=>trivial
   | nil=>exact h
   | dat n x=>exact h
   | grd _ _=>exact h.elim
   | aggd _=>exact h.elim
   | fnd _ _=>exact h.elim
   | own g' v' lo len =>
    obtain⟨ver',frz,nw',sz',xs',e1,e2,e3,e4⟩:=id h
    simp only[cvD]
    cases hb:Nat.beq g g' with
    | false =>
     have hne':g≠g':=fun h=>by subst h;simp at hb
     exact⟨ver',frz,nw',sz',xs',by rw[hat,if_neg hne',e1];rfl,e2,e3,e4⟩
    | true =>
     have:=Nat.eq_of_beq_eq_true hb
     subst this
     simp only[cond_true]
     cases hv:(Nat.beq v' ver && Nat.beq lo 0)with
     | false=>trivial
     | true =>
      simp only[Bool.and_eq_true]at hv
      have q1:=Nat.eq_of_beq_eq_true hv.1
      have q2:=Nat.eq_of_beq_eq_true hv.2
      subst q1 q2
      rw[hg]at e1
      injection e1 with z1 z2 z3 z4 z5
      obtain⟨r1,r2⟩:=e4 z1
      unfold OwnV at r2
      simp only[hi]at r2
      obtain⟨cap,arr',T',fz',y1,y2,y3,y4,y5⟩:=r2
      exact⟨false,true,cs,b,cap,by rw[hat,if_pos rfl],hi,by rw[y1,Nat.zero_mul],y4,y5⟩
   | ptr g' off =>
    obtain⟨frz,nw',cs',b',e1,e2,e3⟩:=h
    have hne':g≠g':=fun h=>by subst h;rw[hg]at e1;cases e1
    exact⟨frz,nw',cs'.map (cvD g ver),b',by rw[hat,if_neg hne',e1];rfl,e2,e3⟩
   | sl g' n' =>
    obtain⟨frz,nw',cs',b',cap,e1,e2,e3⟩:=h
    have hne':g≠g':=fun h=>by subst h;rw[hg]at e1;cases e1
    exact⟨frz,nw',cs'.map (cvD g ver),b',cap,by rw[hat,if_neg hne',e1];rfl,e2,e3⟩
   | rptr g' v' i off =>
    obtain⟨ver',frz,nw',sz',xs',e1,e2,e3,e4⟩:=id h
    simp only[cvD]
    cases hb:Nat.beq g g' with
    | false =>
     have hne':g≠g':=fun h=>by subst h;simp at hb
     exact⟨ver',frz,nw',sz',xs',by rw[hat,if_neg hne',e1];rfl,e2,e3,e4⟩
    | true=>trivial
   | mp g' =>
    obtain⟨kt,et,es,b',e1,e2,e3⟩:=h
    have hne':g≠g':=fun h=>by subst h;rw[hg]at e1;cases e1
    exact⟨kt,et,es,b',by rw[hat,if_neg hne',e1];rfl,e2,e3⟩
  have hsD:∀ d v,RdD C mem d v→RdD C m' (cvD g ver d) v:=by
   intro d v h
   cases d with
   | grd _ _=>trivial
   | aggd _=>trivial
   | fnd _ _=>trivial
   | _=>exact RdS.rd (hs _ _ h)
  have hh':Holds C ⟨cvE g ver env,m',n⟩ a:=by
   refine⟨⟨fun k=>?_,fun k k' b1 q1 q2=>hh.mem.inj k k' b1 (hgone k q1) (hgone k' q2),fun k b1 q1=>hh.mem.sep k b1 (by rw[←hmut k];exact q1),hh.mem.sdom,hh.mem.ns⟩,hh.defers,hh.size,fun t=>?_⟩
   ·show BoxOK C m' (C.ι k) (Mem.at m' k)
    rw[hat]
    by_cases hk:g=k
    ·subst hk
     rw[if_pos rfl,hi]
     refine⟨b,rfl,arr,T,fz,h1,⟨h2.1,h2.2.1,.inl rfl⟩,hcl,fun j d c hd hc=>?_,fun h=>by cases h⟩
     have hj:j<xs.length*sz:=by
      have:=(List.getElem?_eq_some_iff.1 hd).1
      rw[show cs.length=xs.length*sz from by show(xs.flatten.map (D.dat nw)).length=_;rw[List.length_map,hfl]]at this
      exact this
     have hd:(xs.flatten.map (D.dat nw))[j]? = some d:=hd
     rw[List.getElem?_map]at hd
     obtain⟨x,hx,rfl⟩:=Option.map_eq_some_iff.1 hd
     have hj2:j % sz<sz:=Nat.mod_lt _ hsz
     have he:j / sz*sz+j % sz=j:=by rw[Nat.mul_comm];exact Nat.div_add_mod j sz
     rw[←he,zcW xs h4 _ _ hj2]at hx
     obtain⟨u,hu,hx⟩:=Option.bind_eq_some_iff.1 hx
     exact h6 _ _ u x c hu hx (by rw[he];exact hc)
    ·rw[if_neg hk]
     have h0:=hh.mem.box k
     rw[show St.mem ⟨env,mem,n⟩=mem from rfl]at h0
     cases hbx:mem.at k with
     | gone=>trivial
     | row ver' frz' nw' sz' xs'=>rw[hbx]at h0;exact h0
     | mapb kt et es=>rw[hbx]at h0;exact h0
     | cells frz' nw' cs' =>
      rw[hbx]at h0
      obtain⟨b',y0,arr',T',fz',y1,y2,y3,y4,y5⟩:=h0
      refine⟨b',y0,arr',T',fz',y1,y2,by simpa using y3,fun j d c hd hc=>?_,y5⟩
      rw[List.getElem?_map]at hd
      obtain⟨d0,hd0,rfl⟩:=Option.map_eq_some_iff.1 hd
      exact hs _ _ (y4 j d0 c hd0 hc)
   ·show RdD C m' (Env.at (cvE g ver env) t) _
    rw[zsg]
    exact hsD _ _ (hh.env t)
  have hx:Ext C mem C m':=⟨rfl,rfl,rfl,Nat.le_refl _,fun _ _ _=>rfl,fun k b1 q1 q2=>.inr ⟨k,by rw[←hmut k];exact q1,q2⟩,fun _ h=>h,fun _ h=>h,fun _ h=>.inl h,fun _ h=>.inl h⟩
  exact Code.wp_mono (fun ex a2 w2 ⟨C2,s2,e2,q2,r2,x2⟩=>⟨C2,s2,e2,q2,r2,hx.trans x2⟩) (k C a hh')
end Go.Proofs.YtcdhlofhhcgohaaGreat
