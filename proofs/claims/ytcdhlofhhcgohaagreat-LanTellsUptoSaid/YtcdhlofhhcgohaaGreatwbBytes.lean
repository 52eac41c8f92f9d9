/- Bytes and strings. -/
import Derived.Test.YtcdhlofhhcgohaaGreatwbApp
import Derived.Laws.BytesArg
import Derived.Laws.IdiomStrings
namespace Go.Proofs.YtcdhlofhhcgohaaGreat
open Go.RowKit
inductive BndD : Option D→Nat→Nat→Prop
 | none (d:Nat):BndD none d d
 | some (n:Bool) (k:IntKind) (i:Int) (d v:Nat) (h:i=(v:Int)):BndD (some (.dat n (.int k i))) d v
section
variable {P : Program} {e : Operand → D} {m : Mem} {dst : Option Tmp} {ty : TypeId} {pos : String} {af : Array Edge} {gd : Option (Nat × Bool)} {x : Operand} {t : TypeId}
theorem ze5 {w:World} {k:IntKind} {v y:Nat} {c:BoundsCode} (h:v≤y):(Instr.sliceBound (.int k (v:Int)) y c).run P w = .ok v w:=by
 have h1:(v:Int)≤(y:Int):=by omega
 simp[Instr.sliceBound,asIntOf,h1]
theorem zei {C:Cf} {m':Mem} {isS:Bool} {len cap l h:Nat} {lo hi:Option Operand} {ac:Act} (hlo:BndD (lo.map e) 0 l) (hhi:BndD (hi.map e) len h) (h1:l≤h) (h2:h≤cap)
  (hl:∀ o,lo=some o→RdD C m' (e o) (ac.eval o)) (hh:∀ o,hi=some o→RdD C m' (e o) (ac.eval o)) :
  (Instr.sliceBounds isS len cap (lo.map ac.eval) (hi.map ac.eval) none).run P C.w = .ok (l,h,cap) C.w:=by
 have e1:hi.map ac.eval=none∧h=len∨∃ k,hi.map ac.eval=some (.int k (h:Int)):=by
  cases hi with
  | none=>cases hhi;exact .inl ⟨rfl,rfl⟩
  | some o =>
   have g:=hh o rfl
   simp only[Option.map_some]at hhi ⊢
   generalize e o=d at g hhi
   cases hhi with
   | some n k i _ _ hv=>exact .inr ⟨k,by rw[zbq g,hv]⟩
 have e2:lo.map ac.eval=none∧l=0∨∃ k,lo.map ac.eval=some (.int k (l:Int)):=by
  cases lo with
  | none=>cases hlo;exact .inl ⟨rfl,rfl⟩
  | some o =>
   have g:=hl o rfl
   simp only[Option.map_some]at hlo ⊢
   generalize e o=d at g hlo
   cases hlo with
   | some n k i _ _ hv=>exact .inr ⟨k,by rw[zbq g,hv]⟩
 rcases e1 with⟨e1,rfl⟩|⟨k1,e1⟩<;>rcases e2 with⟨e2,rfl⟩|⟨k2,e2⟩<;>rw[e1,e2]
 ·simp[Instr.sliceBounds]
 ·simp[Instr.sliceBounds,ze5 h1]
 ·simp[Instr.sliceBounds,ze5 h2]
 ·simp[Instr.sliceBounds,ze5 h2,ze5 h1]
theorem zsD {n agg:Bool} {el s by_ l h:Nat} {zs:List V} {xs:List (List V)} {lo hi:Option Operand} [hu:SlcI P t el] [ht:TyI P el agg s by_ zs] (h1:e x = .dat n (.slice xs)) (hlo:BndD (lo.map e) 0 l) (hhi:BndD (hi.map e) xs.length h)
  (hle:l≤h) (hhl:h≤xs.length) (hs:∀ y∈xs,y.length=s) :
  SStep P ⟨dst,.slice t x lo hi none,ty,pos,af,gd⟩ e m [] (.dat n (.slice ((xs.drop l).take (h-l)))) [] :=
 .pure fun C m' ac _ hm hx=>by
  have g1:=hx x (by simp[Op.operands]);rw[h1]at g1
  have gl:∀ o,lo=some o→RdD C m' (e o) (ac.eval o):=fun o ho=>hx o (by subst ho;simp[Op.operands])
  have gh:∀ o,hi=some o→RdD C m' (e o) (ac.eval o):=fun o ho=>hx o (by subst ho;simp[Op.operands])
  have hexec:∀ v,(Instr.slice t (ac.eval x) (lo.map ac.eval) (hi.map ac.eval) none).run P C.w = .ok v C.w→(execOp ac.eval ⟨dst,.slice t x lo hi none,ty,pos,af,gd⟩).run P C.w = .ok (.value v) C.w:=fun v hv=>by
   simp[execOp,Instr.sliceAt,zao hu.out,hv]
  generalize hxx:V.slice xs=X at g1
  have g1:Rd (C.D n) C.w X (ac.eval x):=g1
  cases hg:ac.eval x with
  | slice a len cap =>
   rw[hg]at g1
   have hrun:h≤cap→len=xs.length→(Instr.slice t (ac.eval x) (lo.map ac.eval) (hi.map ac.eval) none).run P C.w = .ok (.slice (if cap=l then a else a.map (·.add (l*s))) (h-l) (cap-l)) C.w:=fun hc hlen=>by
    rw[hg]
    subst hlen
    simp only[Instr.slice,Sem.run_bind,zao hu.out,Result.andThen_ok,zei hlo hhi hle hc gl gh,zaS ht,Sem.run_pure]
   cases g1 with
   | nil =>
    injection hxx with hxx;subst hxx
    simp at hhl;subst hhl
    obtain rfl:l=0:=by omega
    refine⟨_,hexec _ (hrun (Nat.le_refl _) rfl),?_⟩
    show Rd _ _ _ _
    simp
    exact Rd.nil
   | undef=>cases hxx
   | mt a cap hmx =>
    injection hxx with hxx;subst hxx
    simp at hhl;subst hhl
    obtain rfl:l=0:=by omega
    refine⟨_,hexec _ (hrun (Nat.zero_le _) rfl),?_⟩
    show Rd _ _ _ _
    by_cases hc:cap=0
    ·simp[hc];exact Rd.mt a 0 (by omega)
    ·simp[hc];exact Rd.mt _ cap hmx
   | slice _ b off cap sz cell hcap hmx hsz hone hS hw hr =>
    injection hxx with hxx;subst hxx
    refine⟨_,hexec _ (hrun (by omega) rfl),?_⟩
    show Rd _ _ _ _
    by_cases hc:cap=l
    ·have e0:(xs.drop l).take (h-l)=[]:=by rw[show h-l=0 by omega];simp
     rw[e0,if_pos hc,show h-l=0 by omega]
     exact Rd.mt _ _ (by omega)
    ·rw [if_neg hc]
     simp only[Option.map_some,aadd]
     have hlen:((xs.drop l).take (h-l)).length=h-l:=by simp;omega
     have hget:∀ (i:Nat) (y:List V),((xs.drop l).take (h-l))[i]? = some y→xs[l+i]? = some y:=fun i y hy=>by
      rw[List.getElem?_take]at hy
      split at hy
      ·rwa[List.getElem?_drop]at hy
      ·cases hy
     have hss:∀ (i:Nat) (y:List V),((xs.drop l).take (h-l))[i]? = some y→sz=s:=fun i y hy=>by
      rw[←hsz _ _ (hget i y hy)]
      exact hs y (List.mem_of_getElem? (hget i y hy))
     have:=Rd.slice (S:=C.D n) (w:=C.w) ((xs.drop l).take (h-l)) b (off+l*s) (cap-l) s (fun i j=>cell (l+i) j) (by omega) (by omega)
      (fun i y hy=>by rw[←hss i y hy];exact hsz _ _ (hget i y hy)) (fun i j y d hy hd=>hone _ _ _ _ (hget i y hy) hd) (fun hne=>hS (by rintro rfl;simp at hne))
      (fun i j y d hy hd=>by
       have:=hw _ _ _ _ (hget i y hy) hd
       rw[hss i y hy]at this
       rw[←this]
       congr 2
       rw[Nat.add_mul];omega)
      (fun i j y d hy hd=>hr _ _ _ _ (hget i y hy) hd)
     rw[hlen]at this
     exact this
  | _=>rw[hg]at g1;subst hxx;cases g1
theorem zj3 (s:List UInt8) (l h:Nat):(⟨s.toArray⟩:ByteArray).extract l h=⟨((s.drop l).take (h-l)).toArray⟩:=by
 apply ByteArray.ext
 simp[ByteArray.data_extract]
end
end Go.Proofs.YtcdhlofhhcgohaaGreat
namespace Go.Proofs.YtcdhlofhhcgohaaGreat
open Go.RowKit
def zbZ (l:List UInt8):List (List V):=l.map fun b=>[.int .u8 b.toNat]
theorem zcN (l:List UInt8):(zbZ l).length=l.length:=by simp[zbZ]
section
variable {P : Program} {e : Operand → D} {m : Mem} {dst : Option Tmp} {ty : TypeId} {pos : String} {af : Array Edge} {gd : Option (Nat × Bool)} {x : Operand} {t s el : TypeId}
theorem zeK {n:Bool} {l:List UInt8} [hu:SlcI P s el] (he:P.underlying el=some (.int .u8)) (ht:P.underlying t=some .string) (h:e x = .dat n (.slice (zbZ l))) :
  SStep P ⟨dst,.convert s t x,ty,pos,af,gd⟩ e m [] (.dat true (.str l)) [] :=
 .pure fun C m' ac _ _ hx=>by
  have g1:=hx x (by simp[Op.operands]);rw[h]at g1
  have g1:Rd (C.D n) C.w (.slice (zbZ l)) (ac.eval x):=g1
  refine⟨.string ⟨l.toArray⟩,?_,Rd.str l⟩
  have hrun:(convert s t (ac.eval x)).run P C.w = .ok (.string ⟨l.toArray⟩) C.w:=by
   generalize hX:V.slice (zbZ l)=X at g1
   generalize ac.eval x=v at g1
   cases g1 with
   | nil =>
    injection hX with hX
    obtain rfl:l=[]:=by cases l with|nil=>rfl|cons _ _=>simp[zbZ]at hX
    exact run_convert_bytes_nil C.w s el hu.out he 0 0 t ht
   | mt a cap hm =>
    injection hX with hX
    obtain rfl:l=[]:=by cases l with|nil=>rfl|cons _ _=>simp[zbZ]at hX
    exact run_convert_bytes_back C.w s t el a cap [] hu.out he ht (fun j hj=>by simp at hj)
   | slice xs b off cap sz cell hc hm hsz hone hS hw hr =>
    injection hX with hX
    subst hX
    have hl:=zcN l
    rw[hl]
    refine run_convert_bytes_back C.w s t el _ cap l hu.out he ht (fun j hj=>?_)
    have hx:(zbZ l)[j]? = some [.int .u8 l[j].toNat]:=by simp[zbZ,hj]
    have h1:sz=1:=by rw[←hsz j _ hx];rfl
    have h2:=hw j 0 _ _ hx rfl
    have h3:=hr j 0 _ _ hx rfl
    cases hcell:cell j 0 with
    | int k v =>
     rw[hcell]at h2 h3
     cases h3
     rw[aadd]
     rw[h1]at h2
     simpa using h2
    | _=>rw[hcell]at h3;cases h3
   | undef=>cases hX
   | _=>cases hX
  simp[execOp,hrun]
theorem zlq {n:Bool} {l:List UInt8} [hu:SlcI P t el] (he:P.underlying el=some (.int .u8)) (ht:P.underlying s=some .string) (h:e x = .dat n (.str l)) (hl:l.length≤140737488355328) :
  SStep P ⟨dst,.convert s t x,ty,pos,af,gd⟩ e m [] (.dat true (.slice (zbZ l))) []:=by
 intro C m' a next Q ha hm hx hn
 have g1:=hx x (by simp[Op.operands]);rw[h]at g1
 have hrun:=run_bytes_of_string (P:=P) C.w s t el ⟨l.toArray⟩ ht hu.out he
 have hsz:(⟨l.toArray⟩:ByteArray).size=l.length:=by simp[ByteArray.size]
 rw[hsz]at hrun
 generalize hcap:grownCap C.w l.length 0 el=cap at hrun
 have hge:l.length≤cap:=by rw[←hcap];exact grownCap_ge _ _ _ _
 have hle:cap≤maxLen:=by rw[←hcap];exact grownCap_le_maxLen _ _ _ _ (by unfold maxLen;omega)
 generalize hrow:bytesRow ⟨l.toArray⟩ cap=row at hrun
 have hrowg:∀ (i:Nat) (b:UInt8),l[i]? = some b→row[i]? = some (Value.int .u8 b.toNat):=fun i b hb=>by
  have hi:i<l.length:=(List.getElem?_eq_some_iff.1 hb).1
  rw[←hrow]
  unfold bytesRow
  rw[Array.getElem?_append_left (by simpa using hi)]
  simp[hb]
 have hst:=zc9 (w:=C.w.drew.alloc (.cells row el (row.size,row.size+1))) (fun k=>k=C.w.heap.size) hm (Grew.drewAlloc _ _) (fun k hk=>by subst hk;simp)
 have hexec:(execOp a.eval ⟨dst,.convert s t x,ty,pos,af,gd⟩).run P C.w = .ok (.value (.slice (some ⟨C.w.heap.size,0,none⟩) l.length cap)) (C.w.drew.alloc (.cells row el (row.size,row.size+1))):=by
  simp[execOp,ze1 g1,hrun]
 refine zaC hexec (hn _ _ hst ?_)
 have hblk:(C.w.drew.alloc (.cells row el (row.size,row.size+1))).heap[C.w.heap.size]? = some (.cells row el (row.size,row.size+1)):=heap_alloc_new C.w.drew _
 have hget:∀ (i j:Nat) (y:List V) (d:V),(zbZ l)[i]? = some y→y[j]? = some d→∃ b,l[i]? = some b∧y=[.int .u8 b.toNat]∧j=0∧d = .int .u8 b.toNat:=fun i j y d hy hd=>by
  simp only[zbZ,List.getElem?_map,Option.map_eq_some_iff]at hy
  obtain⟨b,hb,rfl⟩:=hy
  have hj:j=0:=by have:=(List.getElem?_eq_some_iff.1 hd).1;simp at this;exact this
  subst hj
  simp at hd
  exact⟨b,hb,rfl,rfl,hd.symm⟩
 have:=Rd.slice (S:=(C.put (fun k=>k=C.w.heap.size) (C.w.drew.alloc (.cells row el (row.size,row.size+1)))).D true) (w:=C.w.drew.alloc (.cells row el (row.size,row.size+1))) (zbZ l) C.w.heap.size 0 cap 1
  (fun i _=>row.getD i undef) (by rw[zcN];exact hge) hle
  (fun i y hy=>by simp only[zbZ,List.getElem?_map,Option.map_eq_some_iff]at hy;obtain⟨b,_,rfl⟩:=hy;rfl)
  (fun i j y d hy hd=>by obtain⟨b,_,_,_,rfl⟩:=hget i j y d hy hd;rfl) (fun _=>.inr rfl)
  (fun i j y d hy hd=>by
   obtain⟨b,hb,_,rfl,_⟩:=hget i j y d hy hd
   rw[zaz hblk]
   simp[hrowg i b hb])
  (fun i j y d hy hd=>by
   obtain⟨b,hb,_,rfl,rfl⟩:=hget i j y d hy hd
   have:row.getD i undef=Value.int .u8 b.toNat:=by simp[hrowg i b hb]
   rw[this]
   exact .int _ _)
 rw[zcN]at this
 exact this
end
end Go.Proofs.YtcdhlofhhcgohaaGreat
