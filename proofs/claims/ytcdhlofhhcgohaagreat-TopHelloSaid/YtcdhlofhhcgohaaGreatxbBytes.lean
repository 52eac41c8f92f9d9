/- Bytes and strings. -/
import Derived.Test.YtcdhlofhhcgohaaGreatxbApp
import Derived.Laws.BytesArg
import Derived.Laws.IdiomStrings
namespace Go.Proofs.YtcdhlofhhcgohaaGreat
open Go.RowKit
inductive BndD : Option D→Nat→Nat→Prop
 | none (d:Nat):BndD none d d
 | some (n:Bool) (k:IntKind) (i:Int) (d v:Nat) (h:i=(v:Int)):BndD (some (.dat n (.int k i))) d v
section
variable {P : Program} {e : Operand → D} {m : Mem} {dst : Option Tmp} {ty : TypeId} {pos : String} {af : Array Edge} {gd : Option (Nat × Bool)} {x : Operand} {t : TypeId}
theorem run_bound {w:World} {k:IntKind} {v y:Nat} {c:BoundsCode} (h:v≤y):(Instr.sliceBound (.int k (v:Int)) y c).run P w = .ok v w:=by
 have h1:(v:Int)≤(y:Int):=by omega
 simp[Instr.sliceBound,asIntOf,h1]
theorem run_bounds {C:Cf} {m':Mem} {isS:Bool} {len cap l h:Nat} {lo hi:Option Operand} {ac:Act} (hlo:BndD (lo.map e) 0 l) (hhi:BndD (hi.map e) len h) (h1:l≤h) (h2:h≤cap)
  (hl:∀ o,lo=some o→RdD C m' (e o) (ac.eval o)) (hh:∀ o,hi=some o→RdD C m' (e o) (ac.eval o)) :
  (Instr.sliceBounds isS len cap (lo.map ac.eval) (hi.map ac.eval) none).run P C.w = .ok (l,h,cap) C.w:=by
 have e1:hi.map ac.eval=none∧h=len∨∃ k,hi.map ac.eval=some (.int k (h:Int)):=by
  cases hi with
  | none=>cases hhi;exact .inl ⟨rfl,rfl⟩
  | some o =>
   have g:=hh o rfl
   simp only[Option.map_some]at hhi ⊢
   generalize e o=d at g hhi
   cases hhi with
   | some n k i _ _ hv=>exact .inr ⟨k,by rw[rd_int g,hv]⟩
 have e2:lo.map ac.eval=none∧l=0∨∃ k,lo.map ac.eval=some (.int k (l:Int)):=by
  cases lo with
  | none=>cases hlo;exact .inl ⟨rfl,rfl⟩
  | some o =>
   have g:=hl o rfl
   simp only[Option.map_some]at hlo ⊢
   generalize e o=d at g hlo
   cases hlo with
   | some n k i _ _ hv=>exact .inr ⟨k,by rw[rd_int g,hv]⟩
 rcases e1 with⟨e1,rfl⟩|⟨k1,e1⟩<;>rcases e2 with⟨e2,rfl⟩|⟨k2,e2⟩<;>rw[e1,e2]
 ·simp[Instr.sliceBounds]
 ·simp[Instr.sliceBounds,run_bound h1]
 ·simp[Instr.sliceBounds,run_bound h2]
 ·simp[Instr.sliceBounds,run_bound h2,run_bound h1]
theorem S_slice {n agg:Bool} {el s by_ l h:Nat} {zs:List V} {xs:List (List V)} {lo hi:Option Operand} [hu:SlcI P t el] [ht:TyI P el agg s by_ zs] (h1:e x = .dat n (.slice xs)) (hlo:BndD (lo.map e) 0 l) (hhi:BndD (hi.map e) xs.length h)
  (hle:l≤h) (hhl:h≤xs.length) (hs:∀ y∈xs,y.length=s) :
  SStep P ⟨dst,.slice t x lo hi none,ty,pos,af,gd⟩ e m [] (.dat n (.slice ((xs.drop l).take (h-l)))) [] :=
 .pure fun C m' ac _ hm hx=>by
  have g1:=hx x (by simp[Op.operands]);rw[h1]at g1
  have gl:∀ o,lo=some o→RdD C m' (e o) (ac.eval o):=fun o ho=>hx o (by subst ho;simp[Op.operands])
  have gh:∀ o,hi=some o→RdD C m' (e o) (ac.eval o):=fun o ho=>hx o (by subst ho;simp[Op.operands])
  have hexec:∀ v,(Instr.slice t (ac.eval x) (lo.map ac.eval) (hi.map ac.eval) none).run P C.w = .ok v C.w→(execOp ac.eval ⟨dst,.slice t x lo hi none,ty,pos,af,gd⟩).run P C.w = .ok (.value v) C.w:=fun v hv=>by
   simp[execOp,Instr.sliceAt,run_under hu.out,hv]
  generalize hxx:V.slice xs=X at g1
  have g1:Rd (C.D n) C.w X (ac.eval x):=g1
  cases hg:ac.eval x with
  | slice a len cap =>
   rw[hg]at g1
   have hrun:h≤cap→len=xs.length→(Instr.slice t (ac.eval x) (lo.map ac.eval) (hi.map ac.eval) none).run P C.w = .ok (.slice (if cap=l then a else a.map (·.add (l*s))) (h-l) (cap-l)) C.w:=fun hc hlen=>by
    rw[hg]
    subst hlen
    simp only[Instr.slice,Sem.run_bind,run_under hu.out,Result.andThen_ok,run_bounds hlo hhi hle hc gl gh,run_size ht,Sem.run_pure]
   cases g1 with
   | nil =>
    injection hxx with hxx;subst hxx
    simp at hhl;subst hhl
    obtain rfl:l=0:=by omega
    refine⟨_,hexec _ (hrun (Nat.le_refl _) rfl),?_⟩
    show Rd _ _ _ _
    simp
    exact Rd.nil
   | undef=>cases hxx
   | mt a cap hmx =>
    injection hxx with hxx;subst hxx
    simp at hhl;subst hhl
    obtain rfl:l=0:=by omega
    refine⟨_,hexec _ (hrun (Nat.zero_le _) rfl),?_⟩
    show Rd _ _ _ _
    by_cases hc:cap=0
    ·simp[hc];exact Rd.mt a 0 (by omega)
    ·simp[hc];exact Rd.mt _ cap hmx
   | slice _ b off cap sz cell hcap hmx hsz hone hS hw hr =>
    injection hxx with hxx;subst hxx
    refine⟨_,hexec _ (hrun (by omega) rfl),?_⟩
    show Rd _ _ _ _
    by_cases hc:cap=l
    ·have e0:(xs.drop l).take (h-l)=[]:=by rw[show h-l=0 by omega];simp
     rw[e0,if_pos hc,show h-l=0 by omega]
     exact Rd.mt _ _ (by omega)
    ·rw [if_neg hc]
     simp only[Option.map_some,aadd]
     have hlen:((xs.drop l).take (h-l)).length=h-l:=by simp;omega
     have hget:∀ (i:Nat) (y:List V),((xs.drop l).take (h-l))[i]? = some y→xs[l+i]? = some y:=fun i y hy=>by
      rw[List.getElem?_take]at hy
      split at hy
      ·rwa[List.getElem?_drop]at hy
      ·cases hy
     have hss:∀ (i:Nat) (y:List V),((xs.drop l).take (h-l))[i]? = some y→sz=s:=fun i y hy=>by
      rw[←hsz _ _ (hget i y hy)]
      exact hs y (List.mem_of_getElem? (hget i y hy))
     have:=Rd.slice (S:=C.D n) (w:=C.w) ((xs.drop l).take (h-l)) b (off+l*s) (cap-l) s (fun i j=>cell (l+i) j) (by omega) (by omega)
      (fun i y hy=>by rw[←hss i y hy];exact hsz _ _ (hget i y hy)) (fun i j y d hy hd=>hone _ _ _ _ (hget i y hy) hd) (fun hne=>hS (by rintro rfl;simp at hne))
      (fun i j y d hy hd=>by
       have:=hw _ _ _ _ (hget i y hy) hd
       rw[hss i y hy]at this
       rw[←this]
       congr 2
       rw[Nat.add_mul];omega)
      (fun i j y d hy hd=>hr _ _ _ _ (hget i y hy) hd)
     rw[hlen]at this
     exact this
  | _=>rw[hg]at g1;subst hxx;cases g1
theorem extract_list (s:List UInt8) (l h:Nat):(⟨s.toArray⟩:ByteArray).extract l h=⟨((s.drop l).take (h-l)).toArray⟩:=by
 apply ByteArray.ext
 simp[ByteArray.data_extract]
end
end Go.Proofs.YtcdhlofhhcgohaaGreat
namespace Go.Proofs.YtcdhlofhhcgohaaGreat
open Go.RowKit
def bytesV (l:List UInt8):List (List V):=l.map fun b=>[.int .u8 b.toNat]
theorem bytesV_len (l:List UInt8):(bytesV l).length=l.length:=by simp[bytesV]
section
variable {P : Program} {e : Operand → D} {m : Mem} {dst : Option Tmp} {ty : TypeId} {pos : String} {af : Array Edge} {gd : Option (Nat × Bool)} {x : Operand} {t s el : TypeId}
theorem S_bytes_str {n:Bool} {l:List UInt8} [hu:SlcI P s el] (he:P.underlying el=some (.int .u8)) (ht:P.underlying t=some .string) (h:e x = .dat n (.slice (bytesV l))) :
  SStep P ⟨dst,.convert s t x,ty,pos,af,gd⟩ e m [] (.dat true (.str l)) [] :=
 .pure fun C m' ac _ _ hx=>by
  have g1:=hx x (by simp[Op.operands]);rw[h]at g1
  have g1:Rd (C.D n) C.w (.slice (bytesV l)) (ac.eval x):=g1
  refine⟨.string ⟨l.toArray⟩,?_,Rd.str l⟩
  have hrun:(convert s t (ac.eval x)).run P C.w = .ok (.string ⟨l.toArray⟩) C.w:=by
   generalize hX:V.slice (bytesV l)=X at g1
   generalize ac.eval x=v at g1
   cases g1 with
   | nil =>
    injection hX with hX
    obtain rfl:l=[]:=by cases l with|nil=>rfl|cons _ _=>simp[bytesV]at hX
    exact run_convert_bytes_nil C.w s el hu.out he 0 0 t ht
   | mt a cap hm =>
    injection hX with hX
    obtain rfl:l=[]:=by cases l with|nil=>rfl|cons _ _=>simp[bytesV]at hX
    exact run_convert_bytes_back C.w s t el a cap [] hu.out he ht (fun j hj=>by simp at hj)
   | slice xs b off cap sz cell hc hm hsz hone hS hw hr =>
    injection hX with hX
    subst hX
    have hl:=bytesV_len l
    rw[hl]
    refine run_convert_bytes_back C.w s t el _ cap l hu.out he ht (fun j hj=>?_)
    have hx:(bytesV l)[j]? = some [.int .u8 l[j].toNat]:=by simp[bytesV,hj]
    have h1:sz=1:=by rw[←hsz j _ hx];rfl
    have h2:=hw j 0 _ _ hx rfl
    have h3:=hr j 0 _ _ hx rfl
    cases hcell:cell j 0 with
    | int k v =>
     rw[hcell]at h2 h3
     cases h3
     rw[aadd]
     rw[h1]at h2
     simpa using h2
    | _=>rw[hcell]at h3;cases h3
   | undef=>cases hX
   | _=>cases hX
  simp[execOp,hrun]
end
end Go.Proofs.YtcdhlofhhcgohaaGreat
