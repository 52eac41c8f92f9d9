/- Families of own rows that hang in other cells of a box: bridges whose priorities are their own. -/
import Derived.Test.YtcdhlofhhcgohaaGreatxbFam
namespace Go.Proofs.YtcdhlofhhcgohaaGreat
open Go.RowKit
attribute [local irreducible] nm ix
section
variable {α : Type} (f : α → List V) (sz : Nat)
def famC (pre:Mem) (CS':List D) (xs:List (List α)):Mem:=pre++(950,.cells false true CS')::famM f sz xs
theorem famC_at {pre:Mem} {CS':List D} {xs:List (List α)} {g:Nat}:Mem.at (famC f sz pre CS' xs) g=if g∈pre.map (·.1)then pre.at g else if 950=g then .cells false true CS' else Mem.at (famM f sz xs) g:=by
 unfold famC
 rw[look_append]
 split
 ·rfl
 ·show look .gone ((950,Box.cells false true CS')::famM f sz xs) g=_
  rw[look_cons]
  rfl
theorem famC_950 {pre:Mem} {CS':List D} {xs:List (List α)} (hp:lowB pre=true):Mem.at (famC f sz pre CS' xs) 950 = .cells false true CS':=by
 rw[famC_at,if_neg (fun h=>by have:=lowB_lt hp h;(first|omega|(simp only[nm_def,ix_def]at *;omega))),if_pos rfl]
theorem famC_hi {pre:Mem} {CS':List D} {xs:List (List α)} {g:Nat} (hp:lowB pre=true) (h:950<g):Mem.at (famC f sz pre CS' xs) g=Mem.at (famM f sz xs) g:=by
 rw[famC_at,if_neg (fun h=>by have:=lowB_lt hp h;(first|omega|(simp only[nm_def,ix_def]at *;omega))),if_neg (by first|omega|(simp only[nm_def,ix_def]at *;omega))]
theorem famC_lo {pre:Mem} {CS':List D} {xs:List (List α)} {g:Nat} (h1:g<950) (h2:(pre.any fun p=>Nat.beq p.1 g)=false):Mem.at (famC f sz pre CS' xs) g = .gone:=by
 rw[famC_at,if_neg,if_neg (by omega),famM_lo f sz xs (by omega)]
 intro hm
 obtain⟨p,hp,e⟩:=List.mem_map.1 hm
 have:=List.any_eq_false.1 h2 p hp
 rw[e]at this
 simp at this
theorem Wk_famCG {s:St} {env':Env} {pre':Mem} {CS':List D} {xs':List (List α)} {CS:List D} (c0:Nat) (τ:Nat→Option Nat) (hc0:c0≤950) (hp:lowB pre'=true)
  (hi:injOn (ρF c0 τ) (950::pre'.map (·.1))=true)
  (hτ:∀ g g' a,3000≤g→3000≤g'→τ g=some a→τ g'=some a→g=g') (hτ2:∀ g a,3000≤g→τ g=some a→950<a)
  (h50:s.mem.at c0 = .cells false true CS) (hl:listLe s.mem (famC f sz pre' CS' xs') (ρF c0 τ) CS CS')
  (hT:∀ (k:Nat) r,xs'[k]? = some r→boxLe s.mem (famC f sz pre' CS' xs') (ρF c0 τ) (nm k) (.row 0 false true sz (r.map f)))
  (hm:memLe s ⟨env',famC f sz pre' CS' xs',s.n⟩ (ρF c0 τ) pre') (he:envLe s ⟨env',famC f sz pre' CS' xs',s.n⟩ (ρF c0 τ) env'):Wk s ⟨env',famC f sz pre' CS' xs',s.n⟩:=by
 have hlo:∀ g a,g<3000→g≤950→ρF c0 τ g=some a→a≤950:=fun g a h h2 e=>by
  unfold ρF at e
  rw[blt_of h]at e
  simp only[cond_true]at e
  cases hb:Nat.beq g 950 with
  | true=>rw[hb]at e;injection e with e;(first|omega|(simp only[nm_def,ix_def]at *;omega))
  | false=>rw[hb]at e;injection e with e;(first|omega|(simp only[nm_def,ix_def]at *;omega))
 have hhi:∀ g,3000≤g→ρF c0 τ g=τ g:=fun g h=>by
  unfold ρF
  have:Nat.blt g 3000=false:=by
   cases hb:Nat.blt g 3000 with
   | false=>rfl
   | true=>have:=of_blt hb;(first|omega|(simp only[nm_def,ix_def]at *;omega))
  rw[this];rfl
 have cls:∀ g,Mem.at (famC f sz pre' CS' xs') g ≠ .gone→g∈(950::pre'.map (·.1))∨3000≤g:=fun g h=>by
  rw[famC_at]at h
  by_cases h1:g∈pre'.map (·.1)
  ·exact .inl (List.mem_cons_of_mem _ h1)
  ·rw[if_neg h1]at h
   by_cases h2:950=g
   ·exact .inl (by rw[h2];exact List.mem_cons_self ..)
   ·rw[if_neg h2]at h
    by_cases h3:3000≤g
    ·exact .inr h3
    ·exact absurd (famM_lo f sz xs' (by first|omega|(simp only[nm_def,ix_def]at *;omega))) h
 have low:∀ g,g∈(950::pre'.map (·.1))→g≤950:=fun g h=>by
  rcases List.mem_cons.1 h with h|h
  ·(first|omega|(simp only[nm_def,ix_def]at *;omega))
  ·have:=lowB_lt hp h;(first|omega|(simp only[nm_def,ix_def]at *;omega))
 refine Wk_fun (ρF c0 τ) rfl (fun g g' a h1 h2 e1 e2=>?_) (fun g=>?_) (envLe_at he)
 ·rcases cls g h1 with q1|q1
  ·rcases cls g' h2 with q2|q2
   ·exact injOn_ok hi q1 q2 e1 e2
   ·have r1:=hlo g a (by have:=low g q1;(first|omega|(simp only[nm_def,ix_def]at *;omega))) (low g q1) e1
    rw[hhi g' q2]at e2
    have:=hτ2 g' a q2 e2;(first|omega|(simp only[nm_def,ix_def]at *;omega))
  ·rcases cls g' h2 with q2|q2
   ·have r1:=hlo g' a (by have:=low g' q2;(first|omega|(simp only[nm_def,ix_def]at *;omega))) (low g' q2) e2
    rw[hhi g q1]at e1
    have:=hτ2 g a q1 e1;(first|omega|(simp only[nm_def,ix_def]at *;omega))
   ·rw[hhi g q1]at e1
    rw[hhi g' q2]at e2
    exact hτ g g' a q1 q2 e1 e2
 ·show boxLe s.mem (famC f sz pre' CS' xs') (ρF c0 τ) g (Mem.at (famC f sz pre' CS' xs') g)
  rw[famC_at]
  by_cases h1:g∈pre'.map (·.1)
  ·rw[if_pos h1]
   exact memLe_at hm g
  ·rw [if_neg h1]
   by_cases h2:950=g
   ·subst h2
    rw[if_pos rfl]
    exact⟨c0,CS,rfl,h50,hl⟩
   ·rw [if_neg h2,famM_at]
    by_cases h3:3000≤g
    ·rw[if_pos h3]
     cases hx:xs'[ix g]? with
     | none=>trivial
     | some r =>
      have:=hT (ix g) r hx
      rwa[nm_ix h3]at this
    ·rw[if_neg h3];trivial
theorem famC_row {pre:Mem} {CS':List D} {xs:List (List α)} {k:Nat} {r:List α} (hp:lowB pre=true) (h:xs[k]? = some r):Mem.at (famC f sz pre CS' xs) (nm k) = .row 0 false true sz (r.map f):=by
 rw[famC_hi f sz hp (by have:=nm_ge k;omega),famM_row f sz h]
def FamOK (CS:List D) (xs:List (List α)):Prop:=∀ (j:Nat) d,CS[j]? = some d→(∃ n x,d = .dat n x)∨d = .any∨∃ k r,xs[k]? = some r∧d = .own (nm k) 0 0 r.length
theorem Wk_famCId {s:St} {env':Env} {pre':Mem} {CS:List D} {xs:List (List α)} (hok:FamOK CS xs) (hp:lowB pre'=true) (hi:injOn (ρF 950 some) (950::pre'.map (·.1))=true)
  (h50:s.mem.at 950 = .cells false true CS) (hT:∀ (k:Nat) r,xs[k]? = some r→s.mem.at (nm k) = .row 0 false true sz (r.map f))
  (hm:memLe s ⟨env',famC f sz pre' CS xs,s.n⟩ (ρF 950 some) pre') (he:envLe s ⟨env',famC f sz pre' CS xs,s.n⟩ (ρF 950 some) env') :
  Wk s ⟨env',famC f sz pre' CS xs,s.n⟩:=by
 refine Wk_famCG f sz 950 some (Nat.le_refl _) hp hi (fun g g' a _ _ h1 h2=>by injection h1 with h1;injection h2 with h2;omega) (fun g a h1 h2=>by injection h2 with h2;omega) h50 (listLe_of rfl fun j d d' h1 h2=>?_) (fun k r h=>?_) hm he
 ·rw[h1]at h2
  injection h2 with h2
  subst h2
  rcases hok j d h1 with⟨n',x,rfl⟩|rfl|⟨k1,r1,hr1,rfl⟩
  ·exact⟨n',rfl,.inl rfl⟩
  ·trivial
  ·exact slotLe_own (ρF_hi (nm_ge k1)) (hT k1 r1 hr1) (famC_row f sz hp hr1)
 ·exact boxLe_row (ρF_hi (nm_ge k)) (hT k r h)
theorem Wk_famCPut {s:St} {env':Env} {pre':Mem} {xs:List (List α)} (A p:Nat) {r':List α} {ver:Nat} {CS CS':List D} (hA:A<xs.length) (hok:FamOK CS' (xs.set A r')) (hcp:CS'[p]? = some (.own (nm A) 0 0 r'.length)) (huq:∀ (j len:Nat),CS'[j]? = some (.own (nm A) 0 0 len)→j=p) (hp:lowB pre'=true)
  (hi:injOn (ρF 950 fun g=>if g=nm A then some 960 else some g) (950::pre'.map (·.1))=true)
  (h60:s.mem.at 960 = .row ver false true sz (r'.map f)) (h50:s.mem.at 950 = .cells false true CS) (hcs:CS=CS'.set p (.own 960 ver 0 r'.length))
  (hT:∀ (k:Nat) r,k≠A→xs[k]? = some r→s.mem.at (nm k) = .row 0 false true sz (r.map f))
  (hm:memLe s ⟨env',famC f sz pre' CS' (xs.set A r'),s.n⟩ (ρF 950 fun g=>if g=nm A then some 960 else some g) pre') (he:envLe s ⟨env',famC f sz pre' CS' (xs.set A r'),s.n⟩ (ρF 950 fun g=>if g=nm A then some 960 else some g) env') :
  Wk s ⟨env',famC f sz pre' CS' (xs.set A r'),s.n⟩:=by
 have key:∀ (k:Nat) r,(xs.set A r')[k]? = some r→(k=A∧r=r')∨(k≠A∧xs[k]? = some r):=fun k r h=>by
  by_cases hk:k=A
  ·subst hk
   rw[List.getElem?_set_self hA]at h
   injection h with h
   exact .inl ⟨rfl,h.symm⟩
  ·rw[List.getElem?_set_ne (Ne.symm hk)]at h
   exact .inr ⟨hk,h⟩
 have rA:ρF 950 (fun g=>if g=nm A then some 960 else some g) (nm A)=some 960:=by rw[ρF_hi (nm_ge A)];exact if_pos rfl
 have rN:∀ k,k≠A→ρF 950 (fun g=>if g=nm A then some 960 else some g) (nm k)=some (nm k):=fun k hk=>by rw[ρF_hi (nm_ge k)];exact if_neg (fun h=>hk (nm_inj h))
 subst hcs
 refine Wk_famCG f sz 950 _ (Nat.le_refl _) hp hi (fun g g' a q1 q2 h1 h2=>?_) (fun g a h1 h2=>?_) h50 (listLe_of (by rw[List.length_set]) fun j d d' h1 h2=>?_) (fun k r h=>?_) hm he
 ·by_cases e1:g=nm A
  ·by_cases e2:g'=nm A
   ·omega
   ·rw[if_pos e1]at h1;rw[if_neg e2]at h2;injection h1 with h1;injection h2 with h2;omega
  ·by_cases e2:g'=nm A
   ·rw[if_neg e1]at h1;rw[if_pos e2]at h2;injection h1 with h1;injection h2 with h2;omega
   ·rw[if_neg e1]at h1;rw[if_neg e2]at h2;injection h1 with h1;injection h2 with h2;omega
 ·by_cases e1:g=nm A
  ·rw[if_pos e1]at h2;injection h2 with h2;omega
  ·rw[if_neg e1]at h2;injection h2 with h2;omega
 ·by_cases hj:j=p
  ·subst hj
   rw[List.getElem?_set_self (List.getElem?_eq_some_iff.1 hcp).1]at h1
   rw[hcp]at h2
   injection h1 with h1
   injection h2 with h2
   subst h1 h2
   exact slotLe_own rA h60 (famC_row f sz hp (List.getElem?_set_self hA))
  ·rw[List.getElem?_set_ne (Ne.symm hj),h2]at h1
   injection h1 with h1
   subst h1
   rcases hok j _ h2 with⟨n',x,rfl⟩|rfl|⟨k1,r1,hr1,rfl⟩
   ·exact⟨n',rfl,.inl rfl⟩
   ·trivial
   ·have hkA:k1≠A:=fun e=>by subst e;exact hj (huq j _ h2)
    rcases key k1 r1 hr1 with⟨e,_⟩|⟨_,q2⟩
    ·exact absurd e hkA
    ·exact slotLe_own (rN k1 hkA) (hT k1 r1 hkA q2) (famC_row f sz hp hr1)
 ·rcases key k r h with⟨rfl,rfl⟩|⟨q1,q2⟩
  ·exact boxLe_row rA h60
  ·exact boxLe_row (rN k q1) (hT k r q1 q2)
theorem DW_famCTake {P:Program} {c:Code} {Q:Exit→St→Prop} {env env':Env} {pre pre':Mem} {n:Nat} {CS:List D} {xs:List (List α)} (A p:Nat) {r:List α} (hr:xs[A]? = some r) (hok:FamOK CS xs) (hcp:CS[p]? = some (.own (nm A) 0 0 r.length)) (huq:∀ (j len:Nat),CS[j]? = some (.own (nm A) 0 0 len)→j=p) (hp:lowB pre=true) (hp':lowB pre'=true)
  (_hi:injOn some (pre'.map (·.1))=true)
  (hm:∀ T:Mem,memLe ⟨env,famC f sz pre CS xs,n⟩ ⟨env',pre'++(960,.row 0 false true sz (r.map f))::(950,.cells false true (CS.set p (.own 960 0 0 r.length)))::T,n⟩ some pre')
  (he:∀ T:Mem,envLe ⟨env,famC f sz pre CS xs,n⟩ ⟨env',pre'++(960,.row 0 false true sz (r.map f))::(950,.cells false true (CS.set p (.own 960 0 0 r.length)))::T,n⟩ some env')
  (k:∀ T:Mem,(∀ g,g<3000→T.at g = .gone)→(∀ (k:Nat) r,k≠A→xs[k]? = some r→T.at (nm k) = .row 0 false true sz (r.map f)) →
   DW P c Q ⟨env',pre'++(960,.row 0 false true sz (r.map f))::(950,.cells false true (CS.set p (.own 960 0 0 r.length)))::T,n⟩):DW P c Q ⟨env,famC f sz pre CS xs,n⟩:=by
 have hA:A<xs.length:=(List.getElem?_eq_some_iff.1 hr).1
 let T:Mem:=(nm A,.gone)::famM f sz xs
 have hTat:∀ g,Mem.at T g=if nm A=g then .gone else Mem.at (famM f sz xs) g:=fun g=>look_cons _ _ _ _ _
 have hT1:∀ g,g<3000→T.at g = .gone:=fun g h=>by rw[hTat,if_neg (by first|omega|(simp only[nm_def]at *;omega))];exact famM_lo f sz xs h
 have hT2:∀ (k:Nat) r,k≠A→xs[k]? = some r→T.at (nm k) = .row 0 false true sz (r.map f):=fun k r h1 h2=>by rw[hTat,if_neg (by first|omega|(simp only[nm_def]at *;omega))];exact famM_row f sz h2
 let M:Mem:=pre'++(960,.row 0 false true sz (r.map f))::(950,.cells false true (CS.set p (.own 960 0 0 r.length)))::T
 have hMat:∀ g,Mem.at M g=if g∈pre'.map (·.1)then pre'.at g else if 960=g then .row 0 false true sz (r.map f)else if 950=g then .cells false true (CS.set p (.own 960 0 0 r.length))else T.at g:=fun g=>by
  show Mem.at (pre'++(960,.row 0 false true sz (r.map f))::(950,.cells false true (CS.set p (.own 960 0 0 r.length)))::T) g=_
  rw[look_append]
  split
  ·rfl
  ·show look .gone ((960,Box.row 0 false true sz (r.map f))::(950,.cells false true (CS.set p (.own 960 0 0 r.length)))::T) g=_
   rw[look_cons,look_cons]
   rfl
 let ρ:Nat→Option Nat:=fun g=>if g=960 then some (nm A)else some g
 have r960:ρ 960=some (nm A):=if_pos rfl
 have rN:∀ g,g≠960→ρ g=some g:=fun g h=>if_neg h
 have m960:M.at 960 = .row 0 false true sz (r.map f):=by rw[hMat,if_neg (fun h=>by have:=lowB_lt hp' h;(first|omega|(simp only[nm_def,ix_def]at *;omega))),if_pos rfl]
 have s960:Mem.at (famC f sz pre CS xs) 960 = .gone:=by rw[famC_hi f sz hp (by first|omega|(simp only[nm_def,ix_def]at *;omega)),famM_lo f sz xs (by first|omega|(simp only[nm_def,ix_def]at *;omega))]
 have sA:Mem.at (famC f sz pre CS xs) (nm A) = .row 0 false true sz (r.map f):=by rw[famC_hi f sz hp (by first|omega|(simp only[nm_def]at *;omega)),famM_row f sz hr]
 have hslot:∀ d d',slotLe (famC f sz pre CS xs) M some d d'→slotLe (famC f sz pre CS xs) M ρ d d':=by
  intro d d' h
  cases d' with
  | own g ver lo len =>
   by_cases hg:g=960
   ·subst hg
    exfalso
    obtain⟨⟨lo',len',frz,nw,sz',xs'⟩,h1,h2⟩:=h
    obtain⟨ver0,rfl,hs⟩:=ownView_ok h1
    rw[s960]at hs
    cases hs
   ·unfold slotLe at h ⊢
    simp only[ρ,if_neg hg]
    exact h
  | ptr g off =>
   obtain⟨g0,frz,nw,cs,e1,e2,e3⟩:=h
   have hg:g≠960:=fun h=>by subst h;rw[m960]at e3;cases e3
   exact⟨g0,frz,nw,cs,by simp only[ρ,if_neg hg];exact e1,e2,e3⟩
  | rptr g ver i off =>
   obtain⟨g0,frz,nw,sz',xs',ver0,e1,e2,e3,e4⟩:=h
   injection e1 with e1
   subst e1
   have hg:g≠960:=fun h=>by subst h;rw[s960]at e3;cases e3
   exact⟨g,frz,nw,sz',xs',ver0,by simp only[ρ,if_neg hg],e2,e3,e4⟩
  | mp g =>
   obtain⟨g0,kt,et,es,e1,e2,e3⟩:=h
   have hg:g≠960:=fun h=>by subst h;rw[m960]at e3;cases e3
   exact⟨g0,kt,et,es,by simp only[ρ,if_neg hg];exact e1,e2,e3⟩
  | sl g n =>
   obtain⟨g0,frz,nw,cs,e1,e2,e3⟩:=h
   have hg:g≠960:=fun h=>by subst h;rw[m960]at e3;cases e3
   exact⟨g0,frz,nw,cs,by simp only[ρ,if_neg hg];exact e1,e2,e3⟩
  | fnd f cs =>
   obtain⟨cs0,e0,hc⟩:=h
   refine⟨cs0,e0,capsLe_mono (fun a b hab=>?_) hc⟩
   cases b with
   | ptr g off =>
    obtain⟨g0,frz,nw,cs,e1,e2,e3⟩:=hab
    have hg:g≠960:=fun h=>by subst h;rw[m960]at e3;cases e3
    exact⟨g0,frz,nw,cs,by simp only[ρ,if_neg hg];exact e1,e2,e3⟩
   | _=>exact hab.elim
  | _=>exact h
 have hlist:∀ (l l':List D),listLe (famC f sz pre CS xs) M some l l'→listLe (famC f sz pre CS xs) M ρ l l':=fun l l' h=>by
  obtain⟨q1,q2⟩:=listLe_get h
  exact listLe_of q1 fun j d d' h1 h2=>hslot _ _ (q2 j d d' h1 h2)
 refine DW_weak (s':=⟨env',M,n⟩) (Wk_fun ρ rfl (fun g g' a h1 h2 e1 e2=>?_) (fun g=>?_) (fun t=>hslot _ _ (envLe_at (he T) t))) (k T hT1 hT2)
 ·have hgo:∀ g,Mem.at M g ≠ .gone→g≠nm A:=fun g h hg=>by
   subst hg
   rw[hMat,if_neg (fun h=>by have:=lowB_lt hp' h;(first|omega|(simp only[nm_def]at *;omega))),if_neg (by first|omega|(simp only[nm_def]at *;omega)),if_neg (by first|omega|(simp only[nm_def]at *;omega)),hTat,if_pos rfl]at h
   exact h rfl
  have q1:=hgo g h1
  have q2:=hgo g' h2
  simp only[ρ]at e1 e2
  by_cases r1:g=960
  ·by_cases r2:g'=960
   ·(first|omega|(simp only[nm_def,ix_def]at *;omega))
   ·rw[if_pos r1]at e1;rw[if_neg r2]at e2;injection e1 with e1;injection e2 with e2;(first|omega|(simp only[nm_def,ix_def]at *;omega))
  ·by_cases r2:g'=960
   ·rw[if_neg r1]at e1;rw[if_pos r2]at e2;injection e1 with e1;injection e2 with e2;(first|omega|(simp only[nm_def,ix_def]at *;omega))
   ·rw[if_neg r1]at e1;rw[if_neg r2]at e2;injection e1 with e1;injection e2 with e2;(first|omega|(simp only[nm_def,ix_def]at *;omega))
 ·show boxLe (famC f sz pre CS xs) M ρ g (Mem.at M g)
  rw[hMat]
  by_cases h1:g∈pre'.map (·.1)
  ·rw[if_pos h1]
   have hb:=memLe_at (hm T) g
   have hg:g≠960:=by have:=lowB_lt hp' h1;(first|omega|(simp only[nm_def,ix_def]at *;omega))
   cases hx:pre'.at g with
   | gone=>trivial
   | row ver frz nw sz' xs' =>
    rw[hx]at hb
    unfold boxLe at hb ⊢
    simp only[ρ,if_neg hg]
    exact hb
   | cells frz nw cs =>
    rw[hx]at hb
    obtain⟨g0,cs0,e1,e2,e3⟩:=hb
    exact⟨g0,cs0,by simp only[ρ,if_neg hg];exact e1,e2,hlist _ _ e3⟩
   | mapb kt et es =>
    rw[hx]at hb
    obtain⟨g0,e1,e2⟩:=hb
    exact⟨g0,by simp only[ρ,if_neg hg];exact e1,e2⟩
  ·rw [if_neg h1]
   by_cases h2:960=g
   ·subst h2
    rw[if_pos rfl]
    exact boxLe_row r960 sA
   ·rw [if_neg h2]
    by_cases h3:950=g
    ·subst h3
     rw[if_pos rfl]
     refine⟨950,CS,rfl,famC_950 f sz hp,listLe_of (by simp) fun j d d' q1 q2=>?_⟩
     by_cases hj:j=p
     ·subst hj
      rw[List.getElem?_set_self (List.getElem?_eq_some_iff.1 hcp).1]at q2
      rw[hcp]at q1
      injection q1 with q1
      injection q2 with q2
      subst q1 q2
      exact slotLe_own r960 sA m960
     ·rw [List.getElem?_set_ne (Ne.symm hj),q1]at q2
      injection q2 with q2
      subst q2
      rcases hok j d q1 with⟨n',x,rfl⟩|rfl|⟨k1,r1,hr1,rfl⟩
      ·exact⟨n',rfl,.inl rfl⟩
      ·trivial
      ·have hkA:k1≠A:=fun e=>by subst e;exact hj (huq j _ q1)
       have e2:Mem.at M (nm k1) = .row 0 false true sz (r1.map f):=by
        rw[hMat,if_neg (fun h=>by have:=lowB_lt hp' h;(first|omega|(simp only[nm_def]at *;omega))),if_neg (by first|omega|(simp only[nm_def]at *;omega)),if_neg (by first|omega|(simp only[nm_def]at *;omega))]
        exact hT2 k1 r1 hkA hr1
       exact slotLe_own (rN _ (by rw[nm_def];omega)) (famC_row f sz hp hr1) e2
    ·rw [if_neg h3]
     by_cases h4:3000≤g
     ·by_cases h5:nm A=g
      ·rw[hTat,if_pos h5];trivial
      ·rw[hTat,if_neg h5,famM_at,if_pos h4]
       cases hx:xs[ix g]? with
       | none=>trivial
       | some r1 =>
        refine boxLe_row (ver0:=0) (rN g (Ne.symm h2)) ?_
        rw[famC_hi f sz hp (by first|omega|(simp only[nm_def,ix_def]at *;omega))]
        have:=famM_row f sz hx
        rwa[nm_ix h4]at this
     ·rw[hT1 g (by first|omega|(simp only[nm_def,ix_def]at *;omega))];trivial
theorem Wk_famCAdd {s:St} {env':Env} {pre':Mem} {xs:List (List α)} (p:Nat) {r':List α} {ver:Nat} {CS CS':List D} (hok:FamOK CS' (xs++[r'])) (hcp:CS'[p]? = some (.own (nm xs.length) 0 0 r'.length)) (huq:∀ (j len:Nat),CS'[j]? = some (.own (nm xs.length) 0 0 len)→j=p) (hp:lowB pre'=true)
  (hi:injOn (ρF 950 fun g=>if g=nm xs.length then some 960 else some g) (950::pre'.map (·.1))=true)
  (h60:s.mem.at 960 = .row ver false true sz (r'.map f)) (h50:s.mem.at 950 = .cells false true CS) (hcs:CS=CS'.set p (.own 960 ver 0 r'.length))
  (hT:∀ (k:Nat) r,xs[k]? = some r→s.mem.at (nm k) = .row 0 false true sz (r.map f))
  (hm:memLe s ⟨env',famC f sz pre' CS' (xs++[r']),s.n⟩ (ρF 950 fun g=>if g=nm xs.length then some 960 else some g) pre') (he:envLe s ⟨env',famC f sz pre' CS' (xs++[r']),s.n⟩ (ρF 950 fun g=>if g=nm xs.length then some 960 else some g) env') :
  Wk s ⟨env',famC f sz pre' CS' (xs++[r']),s.n⟩:=by
 generalize hA:xs.length=A at *
 have hself:(xs++[r'])[A]? = some r':=by rw[←hA];simp
 have key:∀ (k:Nat) r,(xs++[r'])[k]? = some r→(k=A∧r=r')∨(k≠A∧xs[k]? = some r):=fun k r h=>by
  by_cases hk:k=A
  ·subst hk
   rw[hself]at h
   injection h with h
   exact .inl ⟨rfl,h.symm⟩
  ·refine .inr ⟨hk,?_⟩
   have hlt:=(List.getElem?_eq_some_iff.1 h).1
   rw[List.length_append,List.length_singleton]at hlt
   rwa[List.getElem?_append_left (by omega)]at h
 have rA:ρF 950 (fun g=>if g=nm A then some 960 else some g) (nm A)=some 960:=by rw[ρF_hi (nm_ge A)];exact if_pos rfl
 have rN:∀ k,k≠A→ρF 950 (fun g=>if g=nm A then some 960 else some g) (nm k)=some (nm k):=fun k hk=>by rw[ρF_hi (nm_ge k)];exact if_neg (fun h=>hk (nm_inj h))
 subst hcs
 refine Wk_famCG f sz 950 _ (Nat.le_refl _) hp hi (fun g g' a q1 q2 h1 h2=>?_) (fun g a h1 h2=>?_) h50 (listLe_of (by rw[List.length_set]) fun j d d' h1 h2=>?_) (fun k r h=>?_) hm he
 ·by_cases e1:g=nm A
  ·by_cases e2:g'=nm A
   ·omega
   ·rw[if_pos e1]at h1;rw[if_neg e2]at h2;injection h1 with h1;injection h2 with h2;omega
  ·by_cases e2:g'=nm A
   ·rw[if_neg e1]at h1;rw[if_pos e2]at h2;injection h1 with h1;injection h2 with h2;omega
   ·rw[if_neg e1]at h1;rw[if_neg e2]at h2;injection h1 with h1;injection h2 with h2;omega
 ·by_cases e1:g=nm A
  ·rw[if_pos e1]at h2;injection h2 with h2;omega
  ·rw[if_neg e1]at h2;injection h2 with h2;omega
 ·by_cases hj:j=p
  ·subst hj
   rw[List.getElem?_set_self (List.getElem?_eq_some_iff.1 hcp).1]at h1
   rw[hcp]at h2
   injection h1 with h1
   injection h2 with h2
   subst h1 h2
   exact slotLe_own rA h60 (famC_row f sz hp hself)
  ·rw[List.getElem?_set_ne (Ne.symm hj),h2]at h1
   injection h1 with h1
   subst h1
   rcases hok j _ h2 with⟨n',x,rfl⟩|rfl|⟨k1,r1,hr1,rfl⟩
   ·exact⟨n',rfl,.inl rfl⟩
   ·trivial
   ·have hkA:k1≠A:=fun e=>by subst e;exact hj (huq j _ h2)
    rcases key k1 r1 hr1 with⟨e,_⟩|⟨_,q2⟩
    ·exact absurd e hkA
    ·exact slotLe_own (rN k1 hkA) (hT k1 r1 q2) (famC_row f sz hp hr1)
 ·rcases key k r h with⟨rfl,rfl⟩|⟨q1,q2⟩
  ·exact boxLe_row rA h60
  ·exact boxLe_row (rN k q1) (hT k r q2)
theorem Wk_famCNew {s:St} {env':Env} {pre':Mem} {CS:List D} (c0:Nat) (hc0:c0≤950) (hdat:∀ (j:Nat) d,CS[j]? = some d→(∃ n x,d = .dat n x)∨d = .any) (hp:lowB pre'=true) (hi:injOn (ρF c0 fun _=>none) (950::pre'.map (·.1))=true)
  (h50:s.mem.at c0 = .cells false true CS)
  (hm:memLe s ⟨env',famC f sz pre' CS [],s.n⟩ (ρF c0 fun _=>none) pre') (he:envLe s ⟨env',famC f sz pre' CS [],s.n⟩ (ρF c0 fun _=>none) env') :
  Wk s ⟨env',famC f sz pre' CS [],s.n⟩:=by
 refine Wk_famCG f sz c0 (fun _=>none) hc0 hp hi (fun _ _ _ _ _ h=>by cases h) (fun _ _ _ h=>by cases h) h50 (listLe_of rfl fun j d d' h1 h2=>?_) (fun k r h=>by cases h) hm he
 rw[h1]at h2
 injection h2 with h2
 subst h2
 rcases hdat j d h1 with⟨n',x,rfl⟩|rfl
 ·exact⟨n',rfl,.inl rfl⟩
 ·trivial
end
end Go.Proofs.YtcdhlofhhcgohaaGreat
