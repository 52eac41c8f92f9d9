/- Regions: what is said of them. -/
import Derived.Test.YtcdhlofhhcgohaaGreatwbGo
import Derived.Test.YtcdhlofhhcgohaaGreatwTy
namespace Go.Proofs.YtcdhlofhhcgohaaGreat
open Go.RowKit
theorem zbp {α:Type} {f:α→List V} {us:List α} {n:Nat} (h:us.length=n):((us.map f).drop 0).take n=us.map f:=by
 subst h;simp[List.take_of_length_le]
theorem zsH {α:Type} {us:List α} {l:Nat}:(us.drop l).take (us.length-l)=us.drop l:=List.take_of_length_le (by simp)
theorem zsI {α:Type} (a:α) {d:Decidable (a≠a)}:decide (a≠a)=false:=decide_eq_false (fun h=>h rfl)
theorem zls {α:Type} (a:α) {d:Decidable (a=a)}:decide (a=a)=true:=decide_eq_true rfl
theorem zdV {P:Program} {f:FuncId} {ds:List V} {sz len:Nat} {xs:List (List V)} (h:FnG P f (ds.map (.dat false)) [] (.own 1000 0 0 len) [(1000,.row 0 false true sz xs)]) (hl:len=xs.length):FnF P f ds (.slice xs):=by
 subst hl
 refine⟨h.1,fun S w vs hS hr=>?_⟩
 have hc:=h.2 ⟨fun _=>none,S,fun _=>False,w⟩ vs
  ⟨fun g=>trivial,fun g g' b (h:Box.gone≠Box.gone)=>absurd rfl h,fun g b (h:false=true)=>by(cases h),hS,fun b (h:False)=>h.elim⟩ (by simp[hr.1])
  (fun j d v h1 h2=>by
   rw[List.getElem?_map]at h1
   cases hd:ds[j]? with
   | none=>rw[hd]at h1;cases h1
   | some x =>
    rw[hd]at h1
    injection h1 with h1
    subst h1
    exact hr.2 j x v hd h2)
 refine Calls.mono hc ?_
 rintro e w' ⟨v,C',rfl,rfl,hx,hm,hv⟩
 have hz:Env.at [(0,D.own 1000 0 0 xs.length)] 0 = .own 1000 0 0 xs.length:=zcP _ _ _ _
 obtain ⟨C1,e1,h1,x1⟩:=zjZ (env := [(0,.own 1000 0 0 xs.length)]) (mem := [(1000,.row 0 false true sz xs)]) (n:=1) 1000 (fun kt et es h=>by rw[Mem.at_cons_same]at h;cases h) C' ⟨#[v],[]⟩
  ⟨hm,rfl,rfl,fun t=>by
   match t with
   | 0=>rw[show(St.mk [(0,D.own 1000 0 0 xs.length)] [(1000,Box.row 0 false true sz xs)] 1).env=[(0,D.own 1000 0 0 xs.length)]from rfl,hz];exact hv
   | t+1=>exact trivial⟩
 have hv1:=h1.env 0
 rw[show(St.mk [(0,D.own 1000 0 0 xs.length)] ((1000,zbb (Mem.at [(1000,Box.row 0 false true sz xs)] 1000))::[(1000,Box.row 0 false true sz xs)]) 1).env=[(0,D.own 1000 0 0 xs.length)]from rfl,hz]at hv1
 have hr1:=zcF (n:=true) (x := .slice xs) h1.mem (fun _ _=>rfl) (by
  show asV ((1000,zbb (Mem.at [(1000,Box.row 0 false true sz xs)] 1000))::[(1000,Box.row 0 false true sz xs)]) _=_
  simp[asV,asV0,Mem.at_cons_same,zbb]) hv1
 refine⟨v,rfl,⟨hx.os,hx.tape,hx.output,hx.size,fun k hk=>hx.keep k hk (fun g hg=>by simp[Mem.at,look,Box.mut]at hg)⟩,?_⟩
 have hxx:=hx.trans x1
 rw[←e1]
 refine Rd.mono hr1 (fun b hb=>?_) (fun _ _=>rfl)
 refine⟨?_,h1.mem.sdom b (h1.mem.ns b hb)⟩
 rcases hxx.supN b hb with k1|k1|⟨g0,k1,_⟩
 ·exact k1.elim
 ·exact k1
 ·simp[Mem.at,look,Box.mut]at k1
class DatI {α:Type} (f:α→D):Prop where
 out:∀ a,∃ n x,f a = .dat n x
theorem zas {α:Type} {f:α→D} [hf:DatI f] {s e:Mem} {ρ:Nat→Option Nat}:∀ us:List α,zdt s e ρ (us.map f) (us.map f)
 | []=>trivial
 | a::r=>by
  obtain⟨n,x,h⟩:=hf.out a
  refine⟨?_,zas r⟩
  show zbX s e ρ (f a) (f a)
  rw[h]
  exact⟨n,rfl,.inl rfl⟩
section
variable {P : Program} {e : Operand → D} {m : Mem} {dst : Option Tmp} {ty : TypeId} {pos : String} {af : Array Edge} {gd : Option (Nat × Bool)} {x y : Operand} {t : TypeId}
theorem zoE {α:Type} {f:α→List V} {us:List α} {n agg:Bool} {el s by_ l h:Nat} {zs:List V} {lo hi:Option Operand} (us':List α) [hu:SlcI P t el] [ht:TyI P el agg s by_ zs] [hf:CellsI f s] (h1:e x = .dat n (.slice (us.map f)))
  (hlo:BndD (lo.map e) 0 l) (hhi:BndD (hi.map e) us.length h) (hle:l≤h) (hhl:h≤us.length) (hq:(us.drop l).take (h-l)=us') :
  SStep P ⟨dst,.slice t x lo hi none,ty,pos,af,gd⟩ e m [] (.dat n (.slice (us'.map f))) []:=by
 have hl:(us.map f).length=us.length:=by simp
 have:=zsD (P:=P) (m:=m) (t:=t) (el:=el) (by_:=by_) (zs:=zs) (agg:=agg) (dst:=dst) (ty:=ty) (pos:=pos) (af:=af) (gd:=gd) h1 hlo (by rw[hl];exact hhi) hle (by rw[hl];exact hhl) (zgN us)
 rw[←List.map_drop,←List.map_take,hq]at this
 exact this
theorem ztB {α:Type} {f:α→List V} {el s by_ l c:Nat} {agg n1 n2:Bool} {k1 k2:IntKind} {zs:List V} {a b:Int} (z:α) [hu:SlcI P t el] [ht:TyI P el agg s by_ zs] (h1:e x = .dat n1 (.int k1 a)) (h2:e y = .dat n2 (.int k2 b)) (ha:a=(l:Int)) (hb:b=(c:Int)) (hlc:l≤c)
  (hby:c*(by_+1)≤140737488355328) (hfz:f z=zs) :
  SStep P ⟨dst,.makeSlice t x y,ty,pos,af,gd⟩ e m [] (.dat true (.slice ((List.replicate l z).map f))) []:=by
 intro C m' ac next Q hag hm hx hn
 have g1:=zbq (by have:=hx x (by simp[Op.operands]);rwa[h1]at this)
 have g2:=zbq (by have:=hx y (by simp[Op.operands]);rwa[h2]at this)
 obtain⟨i,hi,hsz,hbt,hz⟩:=ht.info
 have hb1:c*by_≤140737488355328:=Nat.le_trans (Nat.mul_le_mul_left _ (Nat.le_succ _)) hby
 have hb2:c≤140737488355328:=by
  have:c*1≤c*(by_+1):=Nat.mul_le_mul_left _ (by omega)
  omega
 have hrun:=run_make (P:=P) C.w t el i _ hu.out hi hz k1 k2 l c (by omega) (by omega) (by
  rw[hbt]
  have:((by_*c:Nat):Int)≤281474976710656:=by rw[Nat.mul_comm];omega
  rwa[Int.natCast_mul]at this) (by omega)
 simp only[Int.toNat_natCast,hsz]at hrun
 have hexec:(execOp ac.eval ⟨dst,.makeSlice t x y,ty,pos,af,gd⟩).run P C.w = .ok (.value (.slice (some ⟨C.w.heap.size,0,none⟩) l c)) (C.w.alloc (.cells (madeCells (zval agg zs).cells (c*s)) el)):=by
  simp[execOp,g1,g2,ha,hb,hrun]
 have hblk:(C.w.alloc (.cells (madeCells (zval agg zs).cells (c*s)) el)).heap[C.w.heap.size]? = some (.cells (madeCells (zval agg zs).cells (c*s)) el (0,0)):=heap_alloc_new C.w _
 have hz0:=zcells ht
 have hzl:=ht.zl
 have hzc:=ht.zc
 rw[List.all_eq_true]at hzc
 have hrep:∀ (i:Nat) (e:List V),((List.replicate l z).map f)[i]? = some e→i<l∧e=zs:=fun i e h=>by
  rw[List.map_replicate,hfz,List.getElem?_replicate]at h
  split at h
  ·injection h with h;exact⟨by assumption,h.symm⟩
  ·cases h
 have hst:=zc9 (w:=C.w.alloc (.cells (madeCells (zval agg zs).cells (c*s)) el)) (fun k=>k=C.w.heap.size) hm (Grew.alloc C.w _)
  (fun k hk=>by subst hk;exact⟨Nat.le_refl _,(Array.getElem?_eq_some_iff.1 hblk).1⟩)
 refine zaC hexec (hn _ _ hst ?_)
 have hcell:∀ (i j:Nat) (e:List V) (d:V),((List.replicate l z).map f)[i]? = some e→e[j]? = some d →
   (C.w.alloc (.cells (madeCells (zval agg zs).cells (c*s)) el)).cell? ⟨C.w.heap.size,0+i*s+j,none⟩=some d.val∧V.isC d=true:=fun i j e d h1 h2=>by
  obtain⟨hil,he⟩:=hrep i e h1
  rw[he]at h2
  have hj:j<s:=by rw[←hzl];exact(List.getElem?_eq_some_iff.1 h2).1
  rw[zaz hblk,Nat.zero_add,zdA (Nat.lt_of_lt_of_le (zdr hil hj) (Nat.mul_le_mul_right _ hlc)),hz0]
  simp only[List.size_toArray,List.length_map,hzl,zot hj]
  have:(zs.map V.val).toArray[j]! = d.val:=by simp[h2]
  rw[this]
  exact⟨rfl,hzc d (List.mem_of_getElem? h2)⟩
 have hlen:((List.replicate l z).map f).length=l:=by simp
 have:=Rd.slice (S:=(C.put (fun k=>k=C.w.heap.size) (C.w.alloc (.cells (madeCells (zval agg zs).cells (c*s)) el))).D true) (w:=C.w.alloc (.cells (madeCells (zval agg zs).cells (c*s)) el))
  ((List.replicate l z).map f) C.w.heap.size 0 c s (fun i j=>((((List.replicate l z).map f)[i]?.getD [])[j]?.getD .undef).val) (by rw[hlen];exact hlc) (by unfold maxLen;omega)
  (fun i e h=>by rw[(hrep i e h).2,hzl])
  (fun i j e d h1 h2=>zog (hcell i j e d h1 h2).2) (fun _=>.inr rfl)
  (fun i j e d h1 h2=>by rw[h1,Option.getD_some,h2,Option.getD_some];exact(hcell i j e d h1 h2).1)
  (fun i j e d h1 h2=>by rw[h1,Option.getD_some,h2,Option.getD_some];exact zof (hcell i j e d h1 h2).2)
 rw[hlen]at this
 exact this
theorem S_bs {n:Bool} {l:List UInt8} {s el:TypeId} [hu:SlcI P s el] (he:P.underlying el=some (.int .u8)) (ht:P.underlying t=some .string) (h:e x = .dat n (.slice (l.map zak))) :
  SStep P ⟨dst,.convert s t x,ty,pos,af,gd⟩ e m [] (.dat true (.str l)) []:=zeK he ht h
theorem zdW {n:Bool} {k:IntKind} {a:Int} (h:e x = .dat n (.int k a)):SStep P ⟨dst,.unOp .xor t x,ty,pos,af,gd⟩ e m [] (.dat true (.int k (k.xorI (if k.signed then -1 else k.max) a))) [] :=
 .pure fun C m' ac _ _ hx=>by
  have h1:=hx x (by simp[Op.operands]);rw[h]at h1
  exact⟨.int k (k.xorI (if k.signed then -1 else k.max) a),by simp[execOp,zbq h1,Op.unary,Op.intBits,IntKind.xorI],zbB⟩
theorem zb0 {cs:List D} {off:Nat} {d:D} (h:off<cs.length):splice cs off [d]=cs.set off d:=by
 apply List.ext_getElem?
 intro j
 rw[zfp (by simp only[List.length_singleton];omega),List.getElem?_set]
 simp only[List.length_singleton]
 by_cases hj:off=j
 ·subst hj
  rw[if_pos ⟨Nat.le_refl _,by omega⟩,if_pos rfl,if_pos h,Nat.sub_self];rfl
 ·rw[if_neg (by omega),if_neg hj]
theorem ziY {α:Type} {f:α→D} {us:List α} {a:α} {nw:Bool} {by_ g off:Nat} {zs:List V} [ht:TyI P t false 1 by_ zs] (h:e x = .ptr g off) (hm:m.at g = .cells false nw (us.map f))
  (hd:(e y).cells=some [f a]) (hok:zli [f a]=true) (hlt:off<us.length) :
  SStep P ⟨none,.store t x y,ty,pos,af,gd⟩ e m [g] .any [(g,.cells false nw ((us.set off a).map f))]:=by
 have:=zbg (P:=P) (t:=t) (m:=m) (ty:=ty) (pos:=pos) (af:=af) (gd:=gd) h hm hd hok rfl (Nat.ble_eq_true_of_le (by rw[List.length_map];omega))
 rw[zb0 (by simpa using hlt),←List.map_set]at this
 exact this
end
end Go.Proofs.YtcdhlofhhcgohaaGreat
namespace Go.Proofs.YtcdhlofhhcgohaaGreat
open Go.RowKit
section
variable {P : Program} {e : Operand → D} {m : Mem} {dst : Option Tmp} {ty : TypeId} {pos : String} {af : Array Edge} {gd : Option (Nat × Bool)} {x y : Operand} {t s el : TypeId}
theorem zqN {n n':Bool} {k:IntKind} {i:Int} {l:List UInt8} {c:UInt8} (hu:P.underlying t=some .string) (h1:e x = .dat n (.str l)) (h2:e y = .dat n' (.int k i)) (hi:0≤i) (hc:l[i.toNat]? = some c) :
  SStep P ⟨dst,.index t x y,ty,pos,af,gd⟩ e m [] (.dat true (.int .u8 c.toNat)) [] :=
 .pure fun C m' ac _ hh hx=>by
  have g1:=hx x (by simp[Op.operands]);rw[h1]at g1
  have g2:=zbq (by have:=hx y (by simp[Op.operands]);rwa[h2]at this)
  refine⟨.int .u8 c.toNat,?_,zbB⟩
  have hg:(⟨l.toArray⟩:ByteArray)[i.toNat]? = some c:=by
   have h3:i.toNat<l.length:=(List.getElem?_eq_some_iff.1 hc).1
   have h4:l[i.toNat]=c:=(List.getElem?_eq_some_iff.1 hc).2
   have h5:i.toNat<(⟨l.toArray⟩:ByteArray).size:=by simpa[ByteArray.size]using h3
   rw[getElem?_pos (⟨l.toArray⟩:ByteArray) i.toNat h5]
   exact congrArg some h4
  simp[execOp,Instr.index,ze1 g1,g2,asIntOf,zao hu,hi,hg]
theorem zkb {n:Bool} {l:List UInt8} (g:Nat) [hu:SlcI P t el] (he:P.underlying el=some (.int .u8)) (ht:P.underlying s=some .string) (h:e x = .dat n (.str l)) (hl:l.length≤140737488355328) (hg:m.at g = .gone) :
  SStep P ⟨dst,.convert s t x,ty,pos,af,gd⟩ e m [] (.own g 0 0 l.length) [(g,.row 0 false true 1 (l.map zak))]:=by
 intro C m' a next Q ha hm hx hn
 have g1:=hx x (by simp[Op.operands]);rw[h]at g1
 have hrun:=run_bytes_of_string (P:=P) C.w s t el ⟨l.toArray⟩ ht hu.out he
 have hsz:(⟨l.toArray⟩:ByteArray).size=l.length:=by simp[ByteArray.size]
 rw[hsz]at hrun
 generalize hcap:grownCap C.w l.length 0 el=cap at hrun
 have hge:l.length≤cap:=by rw[←hcap];exact grownCap_ge _ _ _ _
 have hle:cap≤maxLen:=by rw[←hcap];exact grownCap_le_maxLen _ _ _ _ (by unfold maxLen;omega)
 generalize hrow:bytesRow ⟨l.toArray⟩ cap=row at hrun
 have hrs:row.size=cap:=by
  rw[←hrow];unfold bytesRow
  simp
  omega
 have hrowg:∀ (i:Nat) (b:UInt8),l[i]? = some b→row[i]? = some (Value.int .u8 b.toNat):=fun i b hb=>by
  have hi:i<l.length:=(List.getElem?_eq_some_iff.1 hb).1
  rw[←hrow]
  unfold bytesRow
  rw[Array.getElem?_append_left (by simpa using hi)]
  simp[hb]
 have hg':m'.at g = .gone:=(ha g (by simp)).trans hg
 have hexec:(execOp a.eval ⟨dst,.convert s t x,ty,pos,af,gd⟩).run P C.w = .ok (.value (.slice (some ⟨C.w.heap.size,0,none⟩) l.length cap)) (C.w.drew.alloc (.cells row el (row.size,row.size+1))):=by
  simp[execOp,ze1 g1,hrun]
 have hblk:(C.w.drew.alloc (.cells row el (row.size,row.size+1))).heap[C.w.heap.size]? = some (.cells row el (row.size,row.size+1)):=heap_alloc_new C.w.drew _
 have hget:∀ (i j:Nat) (y:List V) (d:V),(l.map zak)[i]? = some y→y[j]? = some d→∃ b,l[i]? = some b∧y=[.int .u8 b.toNat]∧j=0∧d = .int .u8 b.toNat:=fun i j y d hy hd=>by
  simp only[List.getElem?_map,Option.map_eq_some_iff]at hy
  obtain⟨b,hb,rfl⟩:=hy
  have hj:j=0:=by have:=(List.getElem?_eq_some_iff.1 hd).1;simp[zak]at this;exact this
  subst hj
  simp[zak]at hd
  exact⟨b,hb,rfl,rfl,hd.symm⟩
 have hst:=ziL (g:=g) (xs:=l.map zak) (sz:=1) (nw:=true) hm hg' (Grew.drewAlloc C.w (.cells row el (row.size,row.size+1))) C.w.heap.size (Nat.le_refl _) hblk ⟨fun i hi h=>by simp only at h;omega,Nat.le_succ _,.inl rfl⟩
  (by rw[List.length_map,hrs];omega) (fun i y hy=>zgN (f:=zak) l y (List.mem_of_getElem? hy)) (fun i j y d hy hd=>by obtain⟨b,_,_,_,rfl⟩:=hget i j y d hy hd;rfl)
  (fun i j y d u hy hd hu'=>by
   obtain⟨b,hb,_,rfl,rfl⟩:=hget i j y d hy hd
   have h3:=hrowg i b hb
   rw[show i*1+0=i by omega,h3]at hu'
   injection hu' with hu'
   rw[←hu']
   exact Rd.int _ _)
 refine zaC hexec (hn _ _ hst ?_)
 refine⟨0,false,true,1,l.map zak,Mem.at_cons_same _ _ _,Nat.le_refl _,⟨_,_,_,rfl⟩,fun _=>⟨by simp,?_⟩⟩
 rw[Cf.set_same]
 exact⟨cap,row,el,_,by simp,hblk,by rw[hrs];simp,hge,hle⟩
end
end Go.Proofs.YtcdhlofhhcgohaaGreat
namespace Go.Proofs.YtcdhlofhhcgohaaGreat
open Go.RowKit
theorem zqO {C:Cf} {mem:Mem} (hm:HoldsM C mem) (g:Nat) (hk:∀ kt et es,mem.at g ≠ .mapb kt et es):∃ C',C'.w=C.w∧Step C mem C' ((g,zbb (mem.at g))::mem):=by
 let X:Nat→Prop:=fun b=>(mem.at g).mut=true∧C.ι g=some b
 let C':Cf := { C with S:=fun b=>C.S b∨X b,N:=fun b=>C.N b∨X b }
 have hD:∀ nw b,C.D nw b→C'.D nw b:=fun nw b h=>by cases nw<;>exact .inl h
 have hd:∀ n x v,RdF C n x v→RdF C' n x v:=fun n x v h=>Rd.mono h (hD n) (fun _ _=>rfl)
 have hat:∀ g',Mem.at ((g,zbb (mem.at g))::mem) g'=if g=g' then zbb (mem.at g)else mem.at g':=fun g'=>zai _ _ _ _ _
 have hs:∀ d v,RdS C mem d v→RdS C' ((g,zbb (mem.at g))::mem) d v:=by
  intro d v h
  cases d with
  | any=>trivial
  | nil=>exact h
  | dat n x=>exact hd n x v h
  | own g' ver lo len =>
   obtain⟨ver',frz,nw,sz,xs,h1,h2,h3,h4⟩:=h
   by_cases hg:g=g'
   ·subst hg
    exact⟨ver',true,nw,sz,xs,by rw[hat,if_pos rfl,h1];rfl,h2,h3,h4⟩
   ·exact⟨ver',frz,nw,sz,xs,by rw[hat,if_neg hg];exact h1,h2,h3,h4⟩
  | ptr g' off =>
   obtain⟨frz,nw,cs,b,h1,h2,h3⟩:=h
   by_cases hg:g=g'
   ·subst hg
    exact⟨true,nw,cs,b,by rw[hat,if_pos rfl,h1];rfl,h2,h3⟩
   ·exact⟨frz,nw,cs,b,by rw[hat,if_neg hg];exact h1,h2,h3⟩
  | rptr g' ver i off =>
   obtain⟨ver',frz,nw,sz,xs,h1,h2,h3,h4⟩:=h
   by_cases hg:g=g'
   ·subst hg
    exact⟨ver',true,nw,sz,xs,by rw[hat,if_pos rfl,h1];rfl,h2,h3,h4⟩
   ·exact⟨ver',frz,nw,sz,xs,by rw[hat,if_neg hg];exact h1,h2,h3,h4⟩
  | mp g' =>
   obtain⟨kt,et,es,b,h1,h2,h3⟩:=h
   have hg:g≠g':=by rintro rfl;exact hk _ _ _ h1
   exact⟨kt,et,es,b,by rw[hat,if_neg hg];exact h1,h2,h3⟩
  | sl g' n =>
   obtain⟨frz,nw,cs,b,cap,h1,h2,h3⟩:=h
   by_cases hg:g=g'
   ·subst hg
    exact⟨true,nw,cs,b,cap,by rw[hat,if_pos rfl,h1];rfl,h2,h3⟩
   ·exact⟨frz,nw,cs,b,cap,by rw[hat,if_neg hg];exact h1,h2,h3⟩
  | _=>exact h.elim
 have hmutne:∀ g',(Mem.at ((g,zbb (mem.at g))::mem) g').mut=true→g≠g'∧(mem.at g').mut=true:=by
  intro g' h
  rw[hat]at h
  by_cases hg:g=g'
  ·rw[if_pos hg]at h
   cases hb:mem.at g with
   | mapb kt et es=>exact absurd hb (hk _ _ _)
   | _=>rw[hb]at h;simp[zbb,Box.mut]at h
  ·rw[if_neg hg]at h
   exact⟨hg,h⟩
 have hgone:∀ g',Mem.at ((g,zbb (mem.at g))::mem) g' ≠ .gone→mem.at g' ≠ .gone:=by
  intro g' h
  rw[hat]at h
  by_cases hg:g=g'
  ·rw[if_pos hg]at h
   subst hg
   intro h0
   rw[h0]at h
   exact h rfl
  ·rwa[if_neg hg]at h
 have hext:Ext C mem C' ((g,zbb (mem.at g))::mem):=by
  refine⟨rfl,rfl,rfl,Nat.le_refl _,fun _ _ _=>rfl,fun g' b h1 h2=>.inr ⟨g',(hmutne g' h1).2,h2⟩,fun _ h=>.inl h,fun _ h=>.inl h,fun b hb=>?_,fun b hb=>?_⟩
  ·rcases hb with hb|hb
   ·exact .inl hb
   ·exact .inr (.inr hb)
  ·rcases hb with hb|⟨h1,h2⟩
   ·exact .inl hb
   ·exact .inr (.inr ⟨g,h1,h2⟩)
 refine⟨C',rfl,⟨hext,⟨fun g'=>?_,fun g1 g2 b h1 h2=>hm.inj g1 g2 b (hgone g1 h1) (hgone g2 h2),fun g' b h1 h2 h3=>?_,fun b hb=>?_,fun b hb=>hb.imp (hm.ns b) id⟩,fun d v h=>RdD.of_S hs d v h⟩⟩
 ·have h0:=BoxOK.upd (hm.box g') (C':=C') (fun _ _=>rfl) hd hs (fun b h=>.inl h) (fun b h=>.inl h)
  show BoxOK C' _ (C.ι g') _
  rw[hat]
  by_cases hg:g=g'
  ·subst hg
   rw[if_pos rfl]
   cases hb:mem.at g with
   | cells frz nw cs =>
    rw[hb]at h0
    obtain⟨b,hi,arr,T,fz,h1,h2,h3,h4,h5⟩:=h0
    refine⟨b,hi,arr,T,fz,h1,h2,h3,h4,fun _=>?_⟩
    cases frz with
    | true=>exact h5 rfl
    | false =>
     have hx:X b:=⟨by rw[hb];rfl,hi⟩
     cases nw<;>exact .inr hx
   | row ver frz nw sz xs =>
    rw[hb]at h0
    cases hi:C.ι g with
    | none=>rw[hi]at h0;exact h0
    | some b =>
     rw[hi]at h0
     obtain⟨arr,T,fz,h1,h2,h3,h4,h5,h6,h7⟩:=h0
     refine⟨arr,T,fz,h1,h2,h3,h4,h5,h6,fun _=>?_⟩
     cases frz with
     | true=>exact h7 rfl
     | false=>exact .inr ⟨by rw[hb];rfl,hi⟩
   | mapb kt et es=>exact absurd hb (hk _ _ _)
   | gone=>trivial
  ·rw[if_neg hg]
   exact h0
 ·obtain ⟨hg,hmt⟩:=hmutne g' h1
  rcases h3 with h3|⟨h3,h4⟩
  ·exact hm.sep g' b hmt h2 h3
  ·refine hg (hm.inj g g' b ?_ ?_ h4 h2)
   ·intro h0
    have h0:mem.at g = .gone:=h0
    rw[h0]at h3;cases h3
   ·intro h0
    have h0:mem.at g' = .gone:=h0
    rw[h0]at hmt;cases hmt
 ·rcases hb with hb|⟨h1,h2⟩
  ·exact hm.sdom b hb
  ·exact BoxOK.lt hm (g:=g) (by intro h0;have h0:mem.at g = .gone:=h0;rw[h0]at h1;cases h1) h2
section
variable {P : Program} {e : Operand → D} {m : Mem} {o : Oper} {rd : List Nat} {val : D} {wr : Mem}
theorem zcI (g:Nat) {bx:Box} (hmg:m.at g=bx) (hk:(match bx with | .mapb _ _ _=>false|_=>true)=true) (h:SStep P o e ((g,zbb bx)::m) rd val wr) :
  SStep P o e m (g::rd) val (wr++[(g,zbb bx)]):=by
 intro C m' a next Q hag hm hxs hn
 have hg':m'.at g=bx:=(hag g (.inl (List.mem_cons.2 (.inl rfl)))).trans hmg
 obtain⟨C1,e1,h1⟩:=zqO hm g (fun kt et es h0=>by rw[hg']at h0;subst h0;cases hk)
 rw[hg']at h1
 rw[←e1]
 refine h C1 ((g,zbb bx)::m') a next Q (fun g' hg''=>?_) h1.holds (fun x hx'=>h1.slot _ _ (hxs x hx')) (fun v C2 h2 hv=>?_)
 ·show Mem.at ((g,zbb bx)::m') g'=Mem.at ((g,zbb bx)::m) g'
  unfold Mem.at
  rw[zai,zai]
  by_cases he:g=g'
  ·rw[if_pos he,if_pos he]
  ·rw[if_neg he,if_neg he]
   refine hag g' ?_
   rcases hg'' with h0|h0
   ·exact .inl (List.mem_cons.2 (.inr h0))
   ·refine .inr ?_
    rw[List.map_append,List.mem_append]
    exact .inl h0
 ·have e2:wr++[(g,zbb bx)]++m'=wr++((g,zbb bx)::m'):=by simp
  refine hn v C2 ?_ ?_
  ·rw[e2];exact h1.trans h2
  ·rw[e2];exact hv
end
section
variable {P : Program} {ops : Array Oper} {r : List Oper} {env : Env} {mem : Mem} {nt : Nat} {acc : List (List Nat × List Nat)} {K : List (List Nat × List Nat) → St → Prop} {rd : List Nat} {val : D} {wr : Mem}
 {t:Nat} {c:Call} {ty:TypeId} {pos:String} {af:Array Edge}
end
end Go.Proofs.YtcdhlofhhcgohaaGreat
namespace Go.Proofs.YtcdhlofhhcgohaaGreat
open Go.RowKit
structure Way where
 vid:Int
 tree:Int
def wayV (w:Way):List V := [.int .i64 w.vid,.int .i64 w.tree]
instance : CellsI wayV 2:=⟨fun _=>rfl,fun t d h=>by
 simp only[wayV,List.mem_cons,List.mem_nil_iff,or_false]at h
 rcases h with rfl|rfl<;>rfl⟩
instance : FlatI wayV:=⟨fun t d h=>by
 simp only[wayV,List.mem_cons,List.mem_nil_iff,or_false]at h
 rcases h with rfl|rfl<;>exact .int _ _⟩
structure Region where
 name:List UInt8
 rev:Int
 ways:List Way
def Region.cells (r:Region):List V := [.str r.name,.int .i64 r.rev,.slice (r.ways.map wayV)]
def Region.v (r:Region):V := .agg r.cells
def Way.bad (w:Way):Prop:=w.vid<1∨4094<w.vid∨w.tree<1∨15<w.tree
instance wayBadDec (w:Way):Decidable w.bad:=by unfold Way.bad;infer_instance
def zf8 (last:Int):List Way→Int
 | []=>0
 | w::r=>if w.bad then 3 else if w.vid≤last then 2 else zf8 w.vid r
def okC (c:UInt8):Bool:=32≤c.toNat && c.toNat≤126
def Region.wrong (r:Region):Int :=
 if r.name.length<1∨32<r.name.length then 7 else if r.name.all okC=false then 7 else if r.rev<0∨65535<r.rev then 3 else zf8 0 r.ways
def za2 : List Way→Int→Int
 | [],_=>0
 | w::r,v=>if w.vid=v then w.tree else za2 r v
structure Region.right (r:Region):Prop where
 n1:1≤r.name.length
 n2:r.name.length≤32
 nc:r.name.all okC=true
 r0:0≤r.rev
 r1:r.rev≤65535
 w:∀ w∈r.ways,¬w.bad
 s:r.ways.Pairwise (fun a b=>a.vid<b.vid)
 l:r.ways.length≤4094
theorem zh4 : ∀ (ws:List Way) (last:Int),0≤last→last≤4094→zf8 last ws=0→(∀ w∈ws,¬w.bad∧last<w.vid)∧ws.Pairwise (fun a b=>a.vid<b.vid)∧(ws.length:Int)≤4094-last
 | [],last,_,_,_=>by simp;omega
 | w::r,last,h1,h2,h=>by
  rw[zf8]at h
  split at h
  ·cases h
  ·rename_i hb
   split at h
   ·cases h
   ·rename_i hl
    have hb':=hb
    unfold Way.bad at hb'
    obtain⟨k1,k2,k3⟩:=zh4 r w.vid (by omega) (by omega) h
    refine⟨fun u hu=>?_,List.pairwise_cons.2 ⟨fun u hu=>(k1 u hu).2,k2⟩,by simp;omega⟩
    rcases List.mem_cons.1 hu with rfl|hu
    ·exact⟨hb,by omega⟩
    ·exact⟨(k1 u hu).1,by have:=(k1 u hu).2;omega⟩
theorem Region.right_of {r:Region} (h:r.wrong=0):r.right:=by
 unfold Region.wrong at h
 split at h
 ·cases h
 ·split at h
  ·cases h
  ·split at h
   ·cases h
   ·rename_i a b c
    obtain⟨k1,k2,k3⟩:=zh4 _ _ (by decide) (by decide) h
    exact⟨by omega,by omega,by simpa using b,by omega,by omega,fun w hw=>(k1 w hw).1,k2,by omega⟩
theorem zlt {ws:List Way} {v:Int} (h:∀ w∈ws,w.vid≠v):za2 ws v=0:=by
 induction ws with
 | nil=>rfl
 | cons w r ih =>
  rw[za2,if_neg (h w (List.mem_cons.2 (.inl rfl)))]
  exact ih (fun u hu=>h u (List.mem_cons.2 (.inr hu)))
theorem zoF {ws:List Way} {v:Int} (hs:ws.Pairwise (fun a b=>a.vid<b.vid)) {i:Nat} {w:Way} (hi:ws[i]? = some w) (hv:w.vid=v):za2 ws v=w.tree:=by
 induction ws generalizing i with
 | nil=>cases hi
 | cons u r ih =>
  obtain⟨h1,h2⟩:=List.pairwise_cons.1 hs
  rw[za2]
  cases i with
  | zero =>
   simp at hi
   subst hi
   rw[if_pos hv]
  | succ i =>
   have hi:r[i]? = some w:=by simpa using hi
   have:=h1 w (List.mem_of_getElem? hi)
   rw[if_neg (by omega)]
   exact ih h2 hi
end Go.Proofs.YtcdhlofhhcgohaaGreat
