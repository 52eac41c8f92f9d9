/- Contract: slices.Insert of one entry. -/
import Derived.Laws.Externs
import Derived.Laws.IdiomCopy
import Derived.Laws.NewBlocks
import Derived.Lib.AppendZerosOnto
import Derived.Lib.JoinLaws
import Derived.Lib.Overlaps
import Derived.Lib.SliceRun
import Derived.Lib.Walk
import Derived.Shelf.RegionOpenPlain
import Derived.Shelf.Spec.SlicesInsert
import Derived.Test.YtcdhlofhhcgohaaGreatProg
import Derived.WalkKit
import Derived.Test.YtcdhlofhhcgohaaGreatwbMake
import Derived.Test.YtcdhlofhhcgohaaGreatwdBkw
namespace Go.Proofs.YtcdhlofhhcgohaaGreat
open Go.RowKit Go.Shelf Go.Lib
theorem zem {P:Program} (w:World) (dT sT ty elem:TypeId) (s:Nat) (b o dLen dCap:Nat) (a:Addr) (sLen sCap:Nat) (cs:List Value)
  (hu:P.underlying dT=some (.slice elem)) (hs:(P.info? elem).map (·.size)=some s) (hn:cs.length=Nat.min sLen dLen*s)
  (hsrc:∀ j v,cs[j]? = some v→w.cell? (a.add j)=some v) (hc:∀ j,j<cs.length→(w.cell? ⟨b,o+j,none⟩).isSome=true) (hf:∀ j,j<cs.length→w.frozen? ⟨b,o+j,none⟩=false) (h1:∀ v∈cs,v.oneCell'=true) :
  (Builtin.copy_ #[dT,sT] ty #[.slice (some ⟨b,o,none⟩) dLen dCap,.slice (some a) sLen sCap]).run P w = .ok (goInt (Nat.min sLen dLen)) (w.setCells b o cs):=by
 have hl:=run_loadCells_list (P:=P) w a cs hsrc
 have hst:=run_storeCells_cells (P:=P) b o cs 0 w (by simpa using hc) (by simpa using hf) h1
 cases hq:P.info? elem with
 | none=>simp[hq]at hs
 | some i =>
  have hi:i.size=s:=by simpa[hq]using hs
  simp[Builtin.copy_,run_underlying hu,Builtin.lenOf,Builtin.firstCells,sizeOf,typeInfo,hq,hi,←hn,hl,hst]
theorem zlL {P:Program} (w:World) (tS tR e:TypeId) (ht:P.underlying tS=some (.slice e)) (size:Nat) (hz:∀ w,(Go.sizeOf e).run P w = .ok size w)
  (a b:Addr) (la ca lb cb:Nat) (hne:a.block≠b.block) (tA tB:TypeId) (kA kB:Nat)
  (hsa:w.shape? a.block=some (tA,kA)) (hsb:w.shape? b.block=some (tB,kB)) (hkA:kA≠0)
  (hfb:w.frozen? b=false) (hfe:w.frozen? { block:=b.block,off:=kB }=false) :
  (Extern.SlicesOverlaps.overlaps #[tS,tS] #[tR] #[.slice (some a) la ca,.slice (some b) lb cb]).run P w = .ok (.bool false) w:=by
 have hnb:(a.block != b.block)=true:=by simpa using hne
 have hnb':(a.block == b.block)=false:=by simpa using hne
 change Sem.run P (α:=Value) (do
  let some t := (#[tS, tS] : Array TypeId)[0]? | stuck "slices.overlaps: no parameter types"
  let .slice elem ← underlying t | stuck "slices.overlaps: slice type expected"
  let size ← sizeOf elem
  match (some a:Option Addr),(some b:Option Addr)with
  | some a,some b =>
   if la=0∨lb=0∨size=0 then pure (Value.bool false)
   else if a.block != b.block && (←frozen a) && (←frozen b)then unsupported .addressObserved
   else do
    if a.block != b.block then do
     noView a;noView b
     if ← mayBeOne a b then return Value.bool ((← choose (.extern "sameAddr.stringBytes" 2)) == 1)
    pure (Value.bool (a.block == b.block && a.off<b.off+lb*size && b.off<a.off+la*size))
  | _,_=>pure (Value.bool false)) w=_
 by_cases h0:la=0∨lb=0∨size=0
 ·simp[run_underlying ht,hz,h0]
 ·cases kA with
  | zero=>exact absurd rfl hkA
  | succ kA =>
   cases hfa:w.frozen? a<;>cases hfae:w.frozen? { block:=a.block,off:=kA+1 } <;>
    simp[run_underlying ht,hz,h0,hnb,hnb',frozen,noView,viewAt,mayBeOne,stringish,shape,Sem.run,hsa,hsb,hfb,hfe,hfa,hfae]
theorem zrf : (Tryz.prog.info? 128).map (·.size)=some 4:=by kernel_rfl
set_option maxHeartbeats 4000000 in
set_option maxRecDepth 100000 in
/-- There is room: in place. -/
theorem zkD (b n c i vb voff vc:Nat) (cs vs:List Value) (w:World) (hi:i<n) (hroom:n+1≤c) (hc63:c≤9223372036854775807) (hvb:vb≠b)
  (hcl:cs.length=n*4) (hvl:vs.length=4)
  (hcs:∀ j v,cs[j]? = some v→w.cell? ⟨b,j,none⟩=some v) (hsp:∀ j,j<(n+1)*4→(w.cell? ⟨b,j,none⟩).isSome=true) (hfz:∀ j,j<(n+1)*4→w.frozen? ⟨b,j,none⟩=false)
  (hvs:∀ j v,vs[j]? = some v→w.cell? ⟨vb,voff+j,none⟩=some v) (h1c:∀ v∈cs,v.oneCell'=true) (h1v:∀ v∈vs,v.oneCell'=true)
  (tA tB:TypeId) (kA kB:Nat) (hsa:w.shape? vb=some (tA,kA)) (hsb:w.shape? b=some (tB,kB)) (hkA:kA≠0) (hfe:w.frozen? ⟨b,kB,none⟩=false) :
  Calls Tryz.prog 146 #[.slice (some ⟨b,0,none⟩) n c,.int .i64 i,.slice (some ⟨vb,voff,none⟩) 1 vc] w fun e w' =>
   e = .returned (.slice (some ⟨b,0,none⟩) (n+1) c)∧w'=(w.drew.setCells b ((i+1)*4) (cs.drop (i*4))).setCells b (i*4) vs:=by
 have u38:=run_underlying Tryz.underlying65
 have mixed:Tryz.prog.follows .mixedOrders=true:=by kernel_rfl
 have hz2:¬((i:Int)=(n:Int)):=by omega
 have hov:∀ lb cb,(callFunc 181 #[.slice (some ⟨vb,voff,none⟩) 1 vc,.slice (some ⟨b,(i+1)*4,none⟩) lb cb]).run Tryz.prog w = .ok (.value (.bool false)) w:=fun lb cb=>by
  rw[run_callFunc_extern Tryz.func181 (by kernel_rfl) (by kernel_rfl) (by kernel_rfl) (e:=Extern.SlicesOverlaps.overlaps #[65,65] #[4]) (by kernel_rfl),
   zlL w 65 4 128 Tryz.underlying65 4 Tryz.sizeOf128 ⟨vb,voff,none⟩ ⟨b,(i+1)*4,none⟩ 1 vc lb cb hvb tA tB kA kB hsa hsb hkA (hfz _ (by omega)) hfe]
  rfl
 have hdl:(cs.drop (i*4)).length=(n-i)*4:=by rw[List.length_drop,hcl,Nat.sub_mul]
 have hw1:IntKind.i64.wrap ((i:Int)+1)=(i:Int)+1:=by rw[IntKind.wrap_i64];omega
 have hb1:(0:Int)≤(i:Int)+1:=by omega
 have hin:i≤n:=by omega
 have htn:((i:Int)+1).toNat=i+1:=by omega
 have hb2:¬(c=i+1):=by omega
 have hb3:(i:Int)≤(n:Int)+1:=by omega
 have hb4:¬(c=i):=by omega
 have hcp1:∀ ty dc sc,(Builtin.copy_ #[65,65] ty #[.slice (some ⟨b,(i+1)*4,none⟩) (n-i) dc,.slice (some ⟨b,i*4,none⟩) (n+1-i) sc]).run Tryz.prog w.drew = .ok (goInt (Nat.min (n+1-i) (n-i))) (w.drew.setCells b ((i+1)*4) (cs.drop (i*4))):=fun ty dc sc =>
  zem w.drew _ _ ty 128 4 b ((i+1)*4) (n-i) dc ⟨b,i*4,none⟩ (n+1-i) sc (cs.drop (i*4)) Tryz.underlying65 zrf (by rw[hdl];congr 1;simp only[Nat.min_def];split<;>omega)
   (fun j v hj=>by rw[Addr.add_lit];exact hcs (i*4+j) v (by rwa[List.getElem?_drop]at hj))
   (fun j hj=>hsp _ (by omega)) (fun j hj=>hfz _ (by omega)) (fun v hv=>h1c v (List.mem_of_mem_drop hv))
 obtain⟨W1,hW1⟩:∃ W1,W1=w.drew.setCells b ((i+1)*4) (cs.drop (i*4)):=⟨_,rfl⟩
 have hsp1:∀ k,k<(n+1)*4→(W1.cell? ⟨b,k,none⟩).isSome=true:=fun k hk=>by
  rw[hW1]
  exact isSome_setCells b (cs.drop (i*4)) ((i+1)*4) w.drew (fun j hj=>hsp _ (by omega)) k (hsp k hk)
 have hcp2:∀ (W:World),(∀ x,W.cell? x=W1.cell? x)→(∀ x,W.frozen? x=W1.frozen? x)→∀ ty dc,(Builtin.copy_ #[65,65] ty #[.slice (some ⟨b,i*4,none⟩) (n+1-i) dc,.slice (some ⟨vb,voff,none⟩) 1 vc]).run Tryz.prog W = .ok (goInt (Nat.min 1 (n+1-i))) (W.setCells b (i*4) vs):=fun W hWc hWf ty dc =>
  zem W _ _ ty 128 4 b (i*4) (n+1-i) dc ⟨vb,voff,none⟩ 1 vc vs Tryz.underlying65 zrf (by rw[hvl];simp only[Nat.min_def];split<;>omega)
   (fun j v hj=>by
    rw[Addr.add_lit,hWc,hW1,World.cell?_setCells_out b _ _ _ _ (fun h _=>absurd h hvb)]
    exact hvs j v hj)
   (fun j hj=>by rw[hWc];exact hsp1 _ (by omega)) (fun j hj=>by rw[hWf,hW1,World.frozen?_setCells];exact hfz _ (by omega)) h1v
 rw[←hW1]at hcp1
 go_enter Tryz.func146,Tryz.ntmps146
 go_wp2_with (simp only[hov])
 go_region_law_o (refine step_copy_runI rfl _ _ 65 65 rfl _ _ (by simp[Act.eval,Act.put]) (by simp[Act.eval,Act.put]) (hcp1 _ _ _) ?_)
 go_wp2_with (at_builtin;refine wpList_copy_runI _ rfl _ _ 65 65 rfl _ _ rfl rfl (hcp2 _ (fun _=>rfl) (fun _=>rfl) _ _) ?_)
 go_ret
 first|exact⟨rfl,rfl⟩|exact⟨rfl,by rw[hW1]⟩
theorem zt1 : ∃ i0,Tryz.prog.info? 128=some i0∧i0.zero=some (Value.agg #[Value.int IntKind.i64 0,Value.int IntKind.u64 0,Value.int IntKind.i64 0,Value.int IntKind.i64 0])∧i0.size=4∧i0.bytes≤32:=by
 have h:(Tryz.prog.info? 128).map (fun i=>(i.zero,i.size,i.bytes))=some (some (Value.agg #[Value.int IntKind.i64 0,Value.int IntKind.u64 0,Value.int IntKind.i64 0,Value.int IntKind.i64 0]),4,32):=by kernel_rfl
 cases hq:Tryz.prog.info? 128 with
 | none=>rw[hq]at h;cases h
 | some i =>
  rw[hq]at h
  injection h with h
  injection h with h1 h2
  injection h2 with h2 h3
  exact⟨i,rfl,h1,h2,by omega⟩
set_option maxHeartbeats 4000000 in
set_option maxRecDepth 100000 in
/-- There is no room: a new row. -/
theorem zlM (b n c i vb voff vc:Nat) (cs vs:List Value) (w:World) (hi:i<n) (hnc:n≤c) (hroom:c<n+1) (hbig:n≤1099511627776)
  (hcl:cs.length=n*4) (hvl:vs.length=4)
  (hcs:∀ j v,cs[j]? = some v→w.cell? ⟨b,j,none⟩=some v)
  (hvs:∀ j v,vs[j]? = some v→w.cell? ⟨vb,voff+j,none⟩=some v) (h1c:∀ v∈cs,v.oneCell'=true) (h1v:∀ v∈vs,v.oneCell'=true) :
  Calls Tryz.prog 146 #[.slice (some ⟨b,0,none⟩) n c,.int .i64 i,.slice (some ⟨vb,voff,none⟩) 1 vc] w fun e w' =>
   e = .returned (.slice (some ⟨w.heap.size,0,none⟩) (n+1) (grownCap w (n+1) c 128)) ∧
   w'=(((w.alloc (.cells ((cs.take (i*4)).toArray++Builtin.zeroCells (Value.agg #[Value.int IntKind.i64 0,Value.int IntKind.u64 0,Value.int IntKind.i64 0,Value.int IntKind.i64 0]).cells (n+1-i)++Builtin.zeroCells (Value.agg #[Value.int IntKind.i64 0,Value.int IntKind.u64 0,Value.int IntKind.i64 0,Value.int IntKind.i64 0]).cells (grownCap w (n+1) c 128-(n+1))) 128)).drew.setCells w.heap.size (i*4) vs).drew).setCells w.heap.size ((i+1)*4) (cs.drop (i*4)):=by
 have u38:=run_underlying Tryz.underlying65
 have mixed:Tryz.prog.follows .mixedOrders=true:=by kernel_rfl
 obtain⟨i0,hi0,hz0,hzs,hzb⟩:=zt1
 have hz2:¬((i:Int)=(n:Int)):=by omega
 have hz3:(c:Int)<(n:Int)+1:=by omega
 have hbw:b<w.heap.size:=block_lt_of_cell (hcs 0 _ (List.getElem?_eq_getElem (by omega)))
 have hvw:vb<w.heap.size:=block_lt_of_cell (hvs 0 _ (List.getElem?_eq_getElem (by omega)))
 have hkk:(n:Int)+1-(i:Int)=((n+1-i:Nat):Int):=by omega
 have hik:i+(n+1-i)=n+1:=by omega
 have hold:(Builtin.firstCells i0.size i (.slice (some ⟨b,0,none⟩) i c)).run Tryz.prog w.drew = .ok (cs.take (i*4)).toArray w.drew:=by
  rw[hzs]
  exact run_firstCells_some w.drew 4 i ⟨b,0,none⟩ i c (cs.take (i*4)) (by rw[List.length_take];omega) (fun j v hj=>by
   rw[Addr.add_lit,Nat.zero_add]
   rw[List.getElem?_take]at hj
   split at hj
   ·exact hcs j v hj
   ·cases hj)
 have hrz:∀ ty,(Builtin.append_ #[65,3] ty #[.slice (some ⟨b,0,none⟩) i c,.int .i64 ((n:Int)+1-(i:Int))]).run Tryz.prog w =
   .ok (.slice (some ⟨w.heap.size,0,none⟩) (n+1) (grownCap w (n+1) c 128)) (w.drew.alloc (.cells ((cs.take (i*4)).toArray++Builtin.zeroCells (Value.agg #[Value.int IntKind.i64 0,Value.int IntKind.u64 0,Value.int IntKind.i64 0,Value.int IntKind.i64 0]).cells (n+1-i)++Builtin.zeroCells (Value.agg #[Value.int IntKind.i64 0,Value.int IntKind.u64 0,Value.int IntKind.i64 0,Value.int IntKind.i64 0]).cells (grownCap w (n+1) c 128-(n+1))) 128)):=fun ty=>by
  have h:=Lib.run_append_grow_zeros w 65 3 ty 128 i0 _ .i64 .i64 Tryz.underlying65 Tryz.underlying3 hi0 hz0 (some ⟨b,0,none⟩) i c (cs.take (i*4)) hold (n+1-i) (by omega) (by omega) (by omega) (by omega) (by have:=Nat.mul_le_mul_left (n+1-i) hzb;omega) (by rw[hik];exact growslice_fits hroom (by have:=Nat.mul_le_mul_left (n+1) hzb;omega))
  rw[hik]at h
  rw[hkk]
  exact h
 obtain⟨G,hG⟩:∃ G,G=grownCap w (n+1) c 128:=⟨_,rfl⟩
 obtain⟨ROW,hROW⟩:∃ ROW:Array Value,ROW=(cs.take (i*4)).toArray++Builtin.zeroCells (Value.agg #[Value.int IntKind.i64 0,Value.int IntKind.u64 0,Value.int IntKind.i64 0,Value.int IntKind.i64 0]).cells (n+1-i)++Builtin.zeroCells (Value.agg #[Value.int IntKind.i64 0,Value.int IntKind.u64 0,Value.int IntKind.i64 0,Value.int IntKind.i64 0]).cells (G-(n+1)):=⟨_,rfl⟩
 rw[←hG]at hrz ⊢
 rw[←hROW]at hrz ⊢
 have hRl:(n+1)*4≤ROW.size:=by
  rw[hROW]
  simp[Builtin.zeroCells,Value.cells]
  omega
 obtain⟨W1,hW1⟩:∃ W1,W1=w.drew.alloc (.cells ROW 128):=⟨_,rfl⟩
 rw[←hW1]at hrz
 have hN:∀ j,j<(n+1)*4→(W1.cell? ⟨w.heap.size,j,none⟩).isSome=true:=fun j hj=>by
  rw[hW1,World.cell?_alloc_at (w:=w.drew) ROW _ w.heap.size j rfl,Array.getElem?_eq_getElem (by omega)];rfl
 have hNf:∀ j,W1.frozen? ⟨w.heap.size,j,none⟩=false:=fun j=>by rw[hW1];exact World.frozen?_alloc_at (w:=w.drew) ROW _ w.heap.size j rfl
 have hOb:∀ j v,w.cell? ⟨b,j,none⟩=some v→W1.cell? ⟨b,j,none⟩=some v:=fun j v h=>by rw[hW1,World.cell?_alloc_past (w:=w.drew) _ b j hbw];exact h
 have hOv:∀ j v,w.cell? ⟨vb,j,none⟩=some v→W1.cell? ⟨vb,j,none⟩=some v:=fun j v h=>by rw[hW1,World.cell?_alloc_past (w:=w.drew) _ vb j hvw];exact h
 have hcpA:∀ (W:World),(∀ x,W.cell? x=W1.cell? x)→(∀ x,W.frozen? x=W1.frozen? x)→∀ ty dc,(Builtin.copy_ #[65,65] ty #[.slice (some ⟨w.heap.size,i*4,none⟩) (n+1-i) dc,.slice (some ⟨vb,voff,none⟩) 1 vc]).run Tryz.prog W = .ok (goInt (Nat.min 1 (n+1-i))) (W.setCells w.heap.size (i*4) vs):=fun W hWc hWf ty dc =>
  zem W _ _ ty 128 4 w.heap.size (i*4) (n+1-i) dc ⟨vb,voff,none⟩ 1 vc vs Tryz.underlying65 zrf (by rw[hvl];simp only[Nat.min_def];split<;>omega)
   (fun j v hj=>by rw[Addr.add_lit,hWc];exact hOv _ v (hvs j v hj))
   (fun j hj=>by rw[hWc];exact hN _ (by omega)) (fun j hj=>by rw[hWf];exact hNf _) h1v
 have hGn:n+1≤G:=by rw[hG];exact grownCap_ge w _ _ _
 have hG63:G≤9223372036854775807:=by
  have:=grownCap_le_maxLen w (n+1) c 128 (by unfold maxLen;omega)
  rw[←hG]at this
  unfold maxLen at this
  omega
 have hGi:¬(G=i):=by omega
 have hGim:¬(G=i+1):=by omega
 have hci:¬(c=i):=by omega
 have hbN:b≠w.heap.size:=by omega
 have hdl:(cs.drop (i*4)).length=(n-i)*4:=by rw[List.length_drop,hcl,Nat.sub_mul]
 have hcpB:∀ (W:World),(∀ x,W.cell? x=(W1.setCells w.heap.size (i*4) vs).cell? x)→(∀ x,W.frozen? x=(W1.setCells w.heap.size (i*4) vs).frozen? x)→∀ ty dc sc,(Builtin.copy_ #[65,65] ty #[.slice (some ⟨w.heap.size,(i+1)*4,none⟩) (n-i) dc,.slice (some ⟨b,i*4,none⟩) (n-i) sc]).run Tryz.prog W = .ok (goInt (Nat.min (n-i) (n-i))) (W.setCells w.heap.size ((i+1)*4) (cs.drop (i*4))):=fun W hWc hWf ty dc sc =>
  zem W _ _ ty 128 4 w.heap.size ((i+1)*4) (n-i) dc ⟨b,i*4,none⟩ (n-i) sc (cs.drop (i*4)) Tryz.underlying65 zrf (by rw[hdl];simp only[Nat.min_def];split<;>omega)
   (fun j v hj=>by
    rw[Addr.add_lit,hWc,World.cell?_setCells_out _ _ _ _ _ (fun h _=>absurd h hbN)]
    exact hOb _ v (hcs (i*4+j) v (by rwa[List.getElem?_drop]at hj)))
   (fun j hj=>by rw[hWc];exact isSome_setCells w.heap.size vs (i*4) W1 (fun t ht=>hN _ (by omega)) _ (hN _ (by omega)))
   (fun j hj=>by rw[hWf,World.frozen?_setCells];exact hNf _) (fun v hv=>h1c v (List.mem_of_mem_drop hv))
 subst hW1
 have hE1:∀ x,((w.alloc (.cells ROW 128)).drew).cell? x=(w.drew.alloc (.cells ROW 128)).cell? x:=fun x=>rfl
 have hE2:∀ x,((w.alloc (.cells ROW 128)).drew).frozen? x=(w.drew.alloc (.cells ROW 128)).frozen? x:=fun x=>rfl
 have hF1:∀ x,(((w.alloc (.cells ROW 128)).drew.setCells w.heap.size (i*4) vs).drew).cell? x=((w.drew.alloc (.cells ROW 128)).setCells w.heap.size (i*4) vs).cell? x:=fun x=>rfl
 have hF2:∀ x,(((w.alloc (.cells ROW 128)).drew.setCells w.heap.size (i*4) vs).drew).frozen? x=((w.drew.alloc (.cells ROW 128)).setCells w.heap.size (i*4) vs).frozen? x:=fun x=>rfl
 have hw1:IntKind.i64.wrap ((i:Int)+1)=(i:Int)+1:=by rw[IntKind.wrap_i64];omega
 have hb1:(0:Int)≤(i:Int)+1:=by omega
 have hin:i≤n:=by omega
 have htn:((i:Int)+1).toNat=i+1:=by omega
 have hb3:(i:Int)≤(n:Int):=by omega
 clear hkk hik hold hROW hG hRl
 go_enter Tryz.func146,Tryz.ntmps146
 go_wp2_with (first
  | (at_builtin;refine Lib.wpList_append_run _ rfl _ _ _ _ rfl _ _ rfl rfl _ _ (hrz _) ?_)
  | (at_builtin;refine wpList_copy_runI _ rfl _ _ 65 65 rfl _ _ rfl rfl (hcpA _ hE1 hE2 _ _) ?_)
  | (at_builtin;refine wpList_copy_runI _ rfl _ _ 65 65 rfl _ _ rfl rfl (hcpB _ (fun _=>rfl) (fun _=>rfl) _ _ _) ?_))
 go_region_law_o (refine step_copy_runI rfl _ _ 65 65 rfl (.slice (some ⟨w.heap.size,(i+1)*4,none⟩) (n-i) (G-(i+1))) (.slice (some ⟨b,i*4,none⟩) (n-i) (c-i)) (by simp[Act.eval,Act.put]) (by simp[Act.eval,Act.put]) (hcpB _ hF1 hF2 3 (G-(i+1)) (c-i)) ?_)
 go_wp2
 go_ret
 exact⟨rfl,rfl⟩
end Go.Proofs.YtcdhlofhhcgohaaGreat
namespace Go.Proofs.YtcdhlofhhcgohaaGreat
open Go.RowKit
theorem zce (b:Nat) (T:TypeId) (fz:Nat×Nat):∀ (vs:List Value) (o:Nat) (w:World) (arr:Array Value),w.heap[b]? = some (.cells arr T fz)→o+vs.length≤arr.size →
  ∃ arr',(w.setCells b o vs).heap[b]? = some (.cells arr' T fz)∧arr'.size=arr.size∧(∀ k,arr'[k]? = if o≤k∧k<o+vs.length then vs[k-o]? else arr[k]?) ∧
   (w.setCells b o vs).os=w.os∧(w.setCells b o vs).tape=w.tape∧(w.setCells b o vs).output=w.output∧(w.setCells b o vs).heap.size=w.heap.size∧∀ k,k≠b→(w.setCells b o vs).heap[k]? = w.heap[k]?
 | [],o,w,arr,h,_=>⟨arr,h,rfl,fun k=>by rw[if_neg (by simp only[List.length_nil];omega)],rfl,rfl,rfl,rfl,fun _ _=>rfl⟩
 | v::r,o,w,arr,h,hl=>by
  have hl':o+1+r.length≤arr.size:=by simp only[List.length_cons]at hl;omega
  have h1:(w.setCell ⟨b,o,none⟩ v).heap[b]? = some (.cells (arr.setIfInBounds o v) T fz):=by
   simp[World.setCell,Array.getElem?_modify,h]
  obtain⟨arr',q1,q2,q3,q4,q5,q6,q7,q8⟩:=zce b T fz r (o+1) (w.setCell ⟨b,o,none⟩ v) (arr.setIfInBounds o v) h1 (by simpa using hl')
  refine⟨arr',q1,by rw[q2];simp,fun k=>?_,q4,q5,q6,by rw[World.setCells,q7];simp[World.setCell],fun k hk=>?_⟩
  ·rw[q3 k,Array.getElem?_setIfInBounds]
   simp only[List.length_cons]
   by_cases e:k=o
   ·subst e
    rw[if_neg (by omega),if_pos rfl,if_pos (by omega),if_pos (by omega),Nat.sub_self];rfl
   ·by_cases e2:o+1≤k∧k<o+1+r.length
    ·rw[if_pos e2,if_pos (by omega),show k-o=(k-(o+1))+1 by omega,List.getElem?_cons_succ]
    ·rw[if_neg e2,if_neg (fun h=>e h.symm),if_neg (by omega)]
  ·rw[World.setCells,q8 k hk]
   simp only[World.setCell]
   rw[Array.getElem?_modify,if_neg (fun h=>hk h.symm)]
theorem zpn {C C':Cf} {m:Mem} {ver0 ver sz len b cap:Nat} {nw0 nw:Bool} {xs0 xs:List (List V)} {v:Value} {arr:Array Value} {T:TypeId} {fz:Nat×Nat} (hm:m=[(1000,.row ver0 false nw0 sz xs0)])
  (h:Step C m C' ((1000,.row ver false nw sz xs)::m)) (hi:C'.ι 1000=some b) (hv:v = .slice (some ⟨b,0,none⟩) len cap) (hh:C'.w.heap[b]? = some (.cells arr T fz)) (h1:cap*sz≤arr.size) (h2:len≤cap) (h3:cap≤maxLen) (hlx:len=xs.length) :
  Ext C m C' [(1000,.row 0 false nw sz xs)]∧HoldsM C' [(1000,.row 0 false nw sz xs)]∧RdD C' [(1000,.row 0 false nw sz xs)] (.own 1000 0 0 len) v:=by
 subst hm
 have hat:∀ g bx,Mem.at [(1000,bx)] g=if 1000=g then bx else .gone:=fun g bx=>zai _ _ _ _ _
 have hat2:∀ g bx by_,Mem.at ((1000,bx)::[(1000,by_)]) g=if 1000=g then bx else .gone:=fun g bx by_=>by
  show look _ _ _=_
  rw[zai]
  by_cases e:1000=g
  ·rw[if_pos e,if_pos e]
  ·rw[if_neg e,if_neg e]
   show Mem.at [(1000,by_)] g=_
   rw[hat,if_neg e]
 have hmut:∀ g,(Mem.at [(1000,Box.row 0 false nw sz xs)] g).mut=true→1000=g:=fun g hg=>by
  rw[hat]at hg
  by_cases e:1000=g
  ·exact e
  ·rw[if_neg e]at hg;cases hg
 have hgn:∀ g,Mem.at [(1000,Box.row 0 false nw sz xs)] g ≠ .gone→1000=g:=fun g hg=>by
  rw[hat]at hg
  by_cases e:1000=g
  ·exact e
  ·rw[if_neg e]at hg;exact absurd rfl hg
 have hx:=h.ext
 refine⟨⟨hx.os,hx.tape,hx.output,hx.size,hx.keep,fun g k q1 q2=>?_,hx.sS,hx.sN,hx.supS,hx.supN⟩,⟨fun g=>?_,fun g g' k q1 q2 _ _=>(hgn g q1).symm.trans (hgn g' q2),fun g k q1 q2=>?_,h.holds.sdom,h.holds.ns⟩,?_⟩
 ·have e:=hmut g q1
  subst e
  exact hx.own 1000 k (by rw[hat2,if_pos rfl];rfl) q2
 ·rw[hat]
  by_cases e:1000=g
  ·subst e
   have:=h.holds.box 1000
   rw[hat2,if_pos rfl]at this
   rw[if_pos rfl]
   exact this
  ·rw[if_neg e];trivial
 ·have e:=hmut g q1
  subst e
  exact h.holds.sep 1000 k (by rw[hat2,if_pos rfl];rfl) q2
 ·refine⟨0,false,nw,sz,xs,by rw[hat,if_pos rfl],Nat.le_refl _,⟨_,_,_,hv⟩,fun _=>⟨by omega,?_⟩⟩
  show OwnV C'.w sz (C'.ι 1000) 0 len v
  rw[hi]
  exact⟨cap,arr,T,fz,by rw[Nat.zero_mul];exact hv,hh,by rw[Nat.zero_add];exact h1,h2,h3⟩
def insL (us:List Ent) (i:Nat) (e:Ent):List Ent:=us.take i++e::us.drop i
theorem zrg {us:List Ent} {i:Nat} {e:Ent} (h:i≤us.length):(insL us i e).length=us.length+1:=by simp[insL];omega
theorem zsX {us:List Ent} {i:Nat} {e:Ent} (h:i≤us.length) (k:Nat):(insL us i e)[k]? = if k<i then us[k]? else if k=i then some e else us[k-1]? := by
 unfold insL
 have hl:(us.take i).length=i:=by rw[List.length_take];omega
 by_cases h1:k<i
 ·rw[if_pos h1,List.getElem?_append_left (by omega),List.getElem?_take,if_pos h1]
 ·rw[if_neg h1,List.getElem?_append_right (by omega),hl]
  by_cases h2:k=i
  ·subst h2
   rw[if_pos rfl,Nat.sub_self];rfl
  ·rw[if_neg h2,show k-i=(k-i-1)+1 by omega,List.getElem?_cons_succ,List.getElem?_drop]
   congr 1;omega
theorem zpo {C C':Cf} {us:List Ent} {i:Nat} {e:Ent} (h:i≤us.length) {arr A:Array Value} {vs:List Value}
  (hx:∀ (i j:Nat) (e:List V) d c,(us.map entV)[i]? = some e→e[j]? = some d→arr[i*4+j]? = some c→RdF C true d c)
  (hv:∀ (j:Nat) d c,(entV e)[j]? = some d→vs[j]? = some c→RdF C true d c) (hd:∀ n x v,RdF C n x v→RdF C' n x v)
  (hA:∀ k,k<(us.length+1)*4→A[k]? = if k<i*4 then arr[k]? else if k<i*4+4 then vs[k-i*4]? else arr[k-4]?) :
  ∀ (k j:Nat) (e':List V) d c,((insL us i e).map entV)[k]? = some e'→e'[j]? = some d→A[k*4+j]? = some c→RdF C' true d c:=by
 intro k j e' d c h1 h2 h3
 rw[List.getElem?_map,zsX h]at h1
 have hj:j<4:=by
  have h4:e'.length=4:=by
   cases hq:(if k<i then us[k]? else if k=i then some e else us[k-1]?)with
   | none=>rw[hq]at h1;cases h1
   | some u=>rw[hq]at h1;injection h1 with h1;rw[←h1];rfl
  rw[←h4];exact(List.getElem?_eq_some_iff.1 h2).1
 refine hd _ _ _ ?_
 by_cases hk:k<us.length+1
 ·rw [hA _ (by omega)]at h3
  by_cases q1:k<i
  ·rw[if_pos q1]at h1
   rw[if_pos (by omega)]at h3
   exact hx k j e' d c (by rw[List.getElem?_map];exact h1) h2 h3
  ·rw[if_neg q1]at h1
   rw[if_neg (by omega)]at h3
   by_cases q2:k=i
   ·subst q2
    rw[if_pos rfl]at h1
    injection h1 with h1
    subst h1
    rw[if_pos (by omega),show k*4+j-k*4=j by omega]at h3
    exact hv j d c h2 h3
   ·rw[if_neg q2]at h1
    rw[if_neg (by omega),show k*4+j-4=(k-1)*4+j by omega]at h3
    exact hx (k-1) j e' d c (by rw[List.getElem?_map];exact h1) h2 h3
 ·exfalso
  rw[if_neg (by omega),if_neg (by omega),List.getElem?_eq_none (by omega)]at h1
  cases h1
theorem zgq {us:List Ent} {i:Nat} {e:Ent}:(∀ (k:Nat) (e':List V),((insL us i e).map entV)[k]? = some e'→e'.length=4)∧∀ (k j:Nat) (e':List V) (d:V),((insL us i e).map entV)[k]? = some e'→e'[j]? = some d→d.one=true :=
 ⟨fun _k e' h=>zgN (f:=entV) _ e' (List.mem_of_getElem? h),fun _k _j e' d h h2=>(zfU (f:=entV) _ e' (List.mem_of_getElem? h)).2 d (List.mem_of_getElem? h2)⟩
section
variable {P : Program} {e : Operand → D} {m : Mem} {dst : Option Tmp} {ty : TypeId} {pos : String} {af : Array Edge} {gd : Option (Nat × Bool)} {x : Operand} {t : TypeId}
theorem zrh {g ver l0 len l h el s by_:Nat} {agg frz nw:Bool} {zs:List V} {xs:List (List V)} {lo hi:Option Operand} [hu:SlcI P t el] [ht:TyI P el agg s by_ zs] (h1:e x = .own g ver l0 len) (hmg:m.at g = .row ver frz nw s xs)
  (hlo:BndD (lo.map e) 0 l) (hhi:BndD (hi.map e) len h) (hle:l≤h) (hhl:h≤len) :
  SStep P ⟨dst,.slice t x lo hi none,ty,pos,af,gd⟩ e m [g] .any [] :=
 .pure fun C m' ac ha hm hx=>by
  have g1:=hx x (by simp[Op.operands]);rw[h1]at g1
  have gl:∀ o,lo=some o→RdD C m' (e o) (ac.eval o):=fun o ho=>hx o (by subst ho;simp[Op.operands])
  have gh:∀ o,hi=some o→RdD C m' (e o) (ac.eval o):=fun o ho=>hx o (by subst ho;simp[Op.operands])
  have hmg':m'.at g = .row ver frz nw s xs:=(ha g (by simp)).trans hmg
  obtain⟨ver',frz',nw',sz',xs',hat,_,_,hv0⟩:=g1
  rw[hmg']at hat
  injection hat with e1 e2 e3 e4 e5
  subst e1 e2 e3 e4 e5
  obtain⟨hlen,hv⟩:=hv0 rfl
  have hexec:∀ v,(Instr.slice t (ac.eval x) (lo.map ac.eval) (hi.map ac.eval) none).run P C.w = .ok v C.w→(execOp ac.eval ⟨dst,.slice t x lo hi none,ty,pos,af,gd⟩).run P C.w = .ok (.value v) C.w:=fun v hv=>by
   simp[execOp,Instr.sliceAt,zao hu.out,hv]
  cases hio:C.ι g with
  | none =>
   rw[hio]at hv
   obtain⟨hv,hl1,hl2⟩:=hv
   have hh0:h=0:=by omega
   have hl00:l=0:=by omega
   refine⟨.slice none 0 0,hexec _ ?_,trivial⟩
   rw[hv]
   have hb:=zei (P:=P) (C:=C) (isS:=true) (cap:=0) hlo hhi hle (by omega) gl gh
   rw[hl2]at hb
   simp only[Instr.slice,Sem.run_bind,zao hu.out,Result.andThen_ok,hb,zaS ht,Sem.run_pure]
   simp[hh0,hl00]
  | some b =>
   rw[hio]at hv
   obtain⟨cap,arr,T,fz,hv,hh,hle2,hlc,hcm⟩:=hv
   have hb:=zei (P:=P) (C:=C) (isS:=true) (cap:=cap) hlo hhi hle (by omega) gl gh
   by_cases hc:cap=l
   ·refine⟨.slice (some ⟨b,l0*s,none⟩) (h-l) (cap-l),hexec _ ?_,trivial⟩
    rw[hv]
    simp only[Instr.slice,Sem.run_bind,zao hu.out,Result.andThen_ok,hb,zaS ht,Sem.run_pure]
    rw[if_pos hc]
   ·refine⟨.slice (some ⟨b,(l0+l)*s,none⟩) (h-l) (cap-l),hexec _ ?_,trivial⟩
    rw[hv]
    simp only[Instr.slice,Sem.run_bind,zao hu.out,Result.andThen_ok,hb,zaS ht,Sem.run_pure]
    rw[if_neg hc];simp[aadd,Nat.add_mul]
end
section
attribute [local irreducible] SStep DW DWin DOps zaG zaE zaJ retQ zaN FnF FnG Wk IntKind.wrap
set_option maxHeartbeats 1000000 in
/-- At the end: an append. -/
theorem znz (us:List Ent) (e:Ent) (hl:us.length≤1099511627776):FnG Tryz.prog 146 [.own 1000 0 0 us.length,.dat false (.int .i64 us.length),.dat false (.slice [entV e])] [(1000,.row 0 false true 4 (us.map entV))]
  (.own 1000 0 0 (us++[e]).length) [(1000,.row 0 false true 4 ((us++[e]).map entV))]:=by
 refine zbj Tryz.func146 rfl rfl rfl ?_
 simp only[envD]
 repeat' (first|refine qU ?_|((first|apply dX rfl|apply Da rfl rfl|apply Db rfl rfl qN);(focus ((try intro hg);first|exact zrh rfl rfl (.some _ _ _ _ us.length rfl) (.none _) (Nat.le_refl _) (Nat.le_refl _)|exact zab (zdp rfl rfl) (zls _)|exact zan (f:=entV) (us:=us) (bs := [e]) rfl rfl (.dat _ _) rfl rfl (.inr ⟨rfl,inferInstance⟩) rfl (by simp only[List.length_cons,List.length_nil];omega)|exact qM));constructor)|refine qP ?_)
 exact gOwn (Wk_g (fun g=>if g=1000 then some 1000 else none) rfl rfl kq)
end
theorem zpp {C:Cf} {n:Bool} {e:Ent} {v:Value} (h:RdF C n (.slice [entV e]) v):∃ (vb voff vc:Nat) (vs:List Value),v = .slice (some ⟨vb,voff,none⟩) 1 vc∧C.D n vb∧vs.length=4∧(∀ j u,vs[j]? = some u→C.w.cell? ⟨vb,voff+j,none⟩=some u) ∧
  (∀ (j:Nat) d c,(entV e)[j]? = some d→vs[j]? = some c→RdF C n d c)∧∀ u∈vs,u.oneCell'=true:=by
 unfold RdF at h
 generalize hx:V.slice [entV e]=x at h
 cases h with
 | nil=>injection hx with hx;cases hx
 | mt a cap hm=>injection hx with hx;cases hx
 | slice xs b off cap sz cell hc hm hsz h1 hS hw hr =>
  injection hx with hx
  subst hx
  refine⟨b,off,cap,(List.range 4).map (cell 0),rfl,hS (by simp),by simp,fun j u hj=>?_,fun j d c hd hc=>?_,fun u hu=>?_⟩
  ·have hj4:j<4:=by simpa using(List.getElem?_eq_some_iff.1 hj).1
   obtain⟨d,hd⟩:∃ d,(entV e)[j]? = some d:=⟨_,List.getElem?_eq_getElem (by simpa[entV]using hj4)⟩
   have:=hw 0 j (entV e) d rfl hd
   rw[Nat.zero_mul,Nat.add_zero]at this
   rw[this]
   simp only[List.getElem?_map,List.getElem?_range hj4,Option.map_some,Option.some.injEq]at hj
   rw[hj]
  ·have hj4:j<4:=by simpa[entV]using(List.getElem?_eq_some_iff.1 hd).1
   simp only[List.getElem?_map,List.getElem?_range hj4,Option.map_some,Option.some.injEq]at hc
   rw[←hc]
   exact hr 0 j (entV e) d rfl hd
  ·obtain⟨j,hj,rfl⟩:=List.mem_map.1 hu
   have hj4:j<4:=List.mem_range.1 hj
   obtain⟨d,hd⟩:∃ d,(entV e)[j]? = some d:=⟨_,List.getElem?_eq_getElem (by simpa[entV]using hj4)⟩
   exact(zbC (hr 0 j (entV e) d rfl hd) (h1 0 j (entV e) d rfl hd)).2
 | _=>cases hx
set_option maxHeartbeats 1000000 in
theorem zlN (us:List Ent) (e:Ent) (i:Nat) (hi:i≤us.length) (hl:us.length≤1099511627776):FnG Tryz.prog 146 [.own 1000 0 0 us.length,.dat false (.int .i64 i),.dat false (.slice [entV e])] [(1000,.row 0 false true 4 (us.map entV))]
  (.own 1000 0 0 (insL us i e).length) [(1000,.row 0 false true 4 ((insL us i e).map entV))]:=by
 by_cases hlt:i<us.length
 case neg =>
  obtain rfl:i=us.length:=by omega
  have hw:insL us us.length e=us++[e]:=by simp[insL]
  rw[hw]
  exact znz us e hl
 refine⟨⟨_,Tryz.func146,rfl,rfl⟩,fun C vs hm hsz hr=>?_⟩
 obtain⟨v0,v1,v2,rfl⟩:∃ v0 v1 v2,vs = #[v0,v1,v2]:=by
  match vs,hsz with
  | ⟨[a,b,c]⟩,_=>exact⟨a,b,c,rfl⟩
 have r0:=hr 0 _ v0 rfl rfl
 have r1:=zbq (hr 1 _ v1 rfl rfl)
 have r2:=hr 2 _ v2 rfl rfl
 subst r1
 obtain⟨vb,voff,vc,ws,rfl,hvS,hvl,hvc,hvr,hv1⟩:=zpp r2
 have hat:Mem.at [(1000,Box.row 0 false true 4 (us.map entV))] 1000 = .row 0 false true 4 (us.map entV):=rfl
 obtain⟨ver',frz',nw',sz',xs',ha,_,_,ho⟩:=r0
 rw[hat]at ha
 injection ha with e1 e2 e3 e4 e5
 subst e1 e2 e3 e4 e5
 obtain⟨_,ho⟩:=ho rfl
 have hbox:=hm.box 1000
 rw[hat]at hbox
 cases hio:C.ι 1000 with
 | none =>
  rw[hio]at ho
  obtain⟨_,_,h0⟩:=ho
  omega
 | some b =>
  rw[hio]at ho hbox
  obtain⟨cap,arr,T,fz,rfl,hh,hle,hlc,hcm⟩:=ho
  obtain⟨arr2,T2,fz2,k1,k2,k3,k4,k5,k6,_⟩:=hbox
  rw[hh]at k1
  injection k1 with k1
  injection k1 with p1 p2 p3
  subst p1 p2 p3
  have hbS:¬C.S b:=hm.sep 1000 b (by rw[hat];rfl) hio
  have hvS':C.S vb:=hvS
  have hvb:vb≠b:=fun h=>hbS (h▸hvS')
  have hasz:us.length*4≤arr.size:=by rw[List.length_map]at k3;exact k3
  have hcell:∀ j,C.w.cell? ⟨b,j,none⟩=arr[j]? := fun j=>zaz hh j
  let cs:=arr.toList.take (us.length*4)
  have hcl:cs.length=us.length*4:=by simp only[cs,List.length_take,Array.length_toList];omega
  have hcsA:∀ j,j<us.length*4→cs[j]? = arr[j]? := fun j hj=>by simp only[cs];rw[List.getElem?_take,if_pos hj,Array.getElem?_toList]
  have hcs:∀ j v,cs[j]? = some v→C.w.cell? ⟨b,j,none⟩=some v:=fun j v hj=>by
   have hlt:j<us.length*4:=by rw[←hcl];exact(List.getElem?_eq_some_iff.1 hj).1
   rw[hcell,←hcsA j hlt];exact hj
  have h1c:∀ v∈cs,v.oneCell'=true:=fun v hv=>by
   obtain⟨k,hk⟩:=List.getElem?_of_mem hv
   have hlt:k<us.length*4:=by rw[←hcl];exact(List.getElem?_eq_some_iff.1 hk).1
   rw[hcsA k hlt]at hk
   have hq:k / 4<us.length:=by omega
   obtain⟨d,hd⟩:∃ d,(entV us[k / 4])[k % 4]? = some d:=⟨_,List.getElem?_eq_getElem (show k % 4<4 by omega)⟩
   have he:(us.map entV)[k / 4]? = some (entV us[k / 4]):=by simp[hq]
   exact(zbC (k6 (k / 4) (k % 4) _ d v he hd (by rw[show k / 4*4+k % 4=k by omega];exact hk)) (k5 (k / 4) (k % 4) _ d he hd)).2
  have hil:=zrg (e:=e) hi
  have hvs4:∀ k,i*4≤k→k<i*4+4→ws[k-i*4]?.isSome=true:=fun k h1 h2=>by rw[List.getElem?_eq_getElem (by omega)];rfl
  have hb1:us.length+1≤maxLen:=by unfold maxLen;omega
  by_cases hroom:us.length+1≤cap
  ·-- in place
   have hcap4:(us.length+1)*4≤arr.size:=by rw[Nat.zero_add]at hle;omega
   have hfz:fz.1=fz.2:=by
    rcases k2.2.2 with h|h
    ·cases h
    ·exact h
   have hfr:∀ j,C.w.frozen? ⟨b,j,none⟩=false:=fun j=>by
    simp only[World.frozen?,hh]
    have:¬(fz.1≤j∧j<fz.2):=by omega
    simpa using this
   have hvsh:∃ tA kA,C.w.shape? vb=some (tA,kA)∧kA≠0:=by
    have h0:C.w.cell? ⟨vb,voff+0,none⟩=some ws[0]:=hvc 0 _ (List.getElem?_eq_getElem (by omega))
    unfold World.cell? at h0
    simp only[World.shape?]
    split at h0
    ·rename_i a _ _ he
     simp only[he]
     refine⟨_,_,rfl,?_⟩
     intro hz
     simp[hz]at h0
    ·simp at h0
   obtain⟨tA,kA,hsa,hkA⟩:=hvsh
   have hcall:=zkD b us.length cap i vb voff vc cs ws C.w hlt hroom (by unfold maxLen at hcm;omega) hvb hcl hvl hcs
    (fun j hj=>by rw[hcell,Array.getElem?_eq_getElem (by omega)];rfl) (fun j _=>hfr j) hvc h1c hv1 tA T kA arr.size hsa (by simp[World.shape?,hh]) hkA (hfr _)
   refine Calls.mono hcall ?_
   rintro en w' ⟨rfl,rfl⟩
   have hd0:C.w.drew.heap[b]? = some (.cells arr T fz):=hh
   have hdl:(cs.drop (i*4)).length=(us.length-i)*4:=by rw[List.length_drop,hcl,Nat.sub_mul]
   obtain⟨a1,q1,q2,q3,q4,q5,q6,q7,q8⟩:=zce b T fz (cs.drop (i*4)) ((i+1)*4) C.w.drew arr hd0 (by rw[hdl];omega)
   obtain⟨a2,s1,s2,s3,s4,s5,s6,s7,s8⟩:=zce b T fz ws (i*4) _ a1 q1 (by rw[hvl,q2];omega)
   have hA:∀ k,k<(us.length+1)*4→a2[k]? = if k<i*4 then arr[k]? else if k<i*4+4 then ws[k-i*4]? else arr[k-4]? := fun k hk=>by
    rw[s3 k,hvl,q3 k,hdl]
    by_cases h1:k<i*4
    ·rw[if_neg (by omega),if_neg (by omega),if_pos h1]
    ·rw[if_neg h1]
     by_cases h2:k<i*4+4
     ·rw[if_pos (by omega),if_pos h2]
     ·rw[if_neg (by omega),if_pos (by omega),if_neg h2,List.getElem?_drop,hcsA _ (by omega)]
      congr 1;omega
   have hst:Step C [(1000,.row 0 false true 4 (us.map entV))] { C with w:=(C.w.drew.setCells b ((i+1)*4) (cs.drop (i*4))).setCells b (i*4) ws } ((1000,.row (0+1) false true 4 ((insL us i e).map entV))::[(1000,.row 0 false true 4 (us.map entV))]):=by
    refine Step.write hm (by rw[hat];rfl) hio (s4.trans q4) (s5.trans q5) (s6.trans q6) (s7.trans q7) (fun k hk=>(s8 k hk).trans (q8 k hk)) ?_ ?_ ?_ ?_ (fun hd _=>?_)
    ·rintro ver lo len u ⟨ver',_,_,_,_,h,hle,ha,_⟩
     rw[hat]at h
     injection h with h
     subst h
     exact⟨0+1,false,true,4,_,Mem.at_cons_same _ _ _,by omega,ha,fun e=>by omega⟩
    ·rintro off v ⟨_,_,_,_,h,_⟩;rw[hat]at h;cases h
    ·rintro ver i0 off u ⟨ver',_,_,_,_,h,hle,ha,_⟩
     rw[hat]at h
     injection h with h
     subst h
     exact⟨0+1,false,true,4,_,Mem.at_cons_same _ _ _,by omega,ha,fun e=>by omega⟩
    ·rintro v ⟨_,_,_,_,h,_⟩;rw[hat]at h;cases h
    ·exact⟨a2,T,fz,s1,⟨fun j hj=>k2.1 j (by omega),k2.2⟩,by rw[List.length_map,hil,s2,q2];exact hcap4,zgq.1,zgq.2,zpo hi k6 (fun j d c h1 h2=>(hvr j d c h1 h2).flat (FlatI.flat (f:=entV) e d (List.mem_of_getElem? h1))) hd hA,fun h=>by cases h⟩
   have hend:=zpn (len:=us.length+1) rfl hst (C' := { C with w:=(C.w.drew.setCells b ((i+1)*4) (cs.drop (i*4))).setCells b (i*4) ws }) hio rfl s1 (by rw[s2,q2,←Nat.zero_add cap];exact hle) hroom hcm (by rw[List.length_map,hil])
   rw[hil]
   exact⟨_,_,rfl,rfl,hend.1,hend.2.1,hend.2.2⟩
  ·-- a new row
   have hbig:us.length≤1099511627776:=hl
   have hcall:=zlM b us.length cap i vb voff vc cs ws C.w hlt hlc (by omega) hbig hcl hvl hcs hvc h1c hv1
   refine Calls.mono hcall ?_
   rintro en w' ⟨rfl,rfl⟩
   generalize hG:grownCap C.w (us.length+1) cap 128=G
   have hGn:us.length+1≤G:=by rw[←hG];exact grownCap_ge _ _ _ _
   have hGm:G≤maxLen:=by rw[←hG];exact grownCap_le_maxLen _ _ _ _ hb1
   generalize hROW:(cs.take (i*4)).toArray++Builtin.zeroCells (Value.agg #[Value.int IntKind.i64 0,Value.int IntKind.u64 0,Value.int IntKind.i64 0,Value.int IntKind.i64 0]).cells (us.length+1-i)++Builtin.zeroCells (Value.agg #[Value.int IntKind.i64 0,Value.int IntKind.u64 0,Value.int IntKind.i64 0,Value.int IntKind.i64 0]).cells (G-(us.length+1))=ROW
   have hRs:ROW.size=G*4:=by
    rw[←hROW]
    simp only[Array.size_append,List.size_toArray,List.length_take,size_zeroCells]
    simp[Value.cells]
    omega
   have hRt:∀ k,k<i*4→ROW[k]? = arr[k]? := fun k hk=>by
    rw[←hROW,Array.append_assoc,Array.getElem?_append_left (by simp;omega),List.getElem?_toArray,List.getElem?_take,if_pos hk,hcsA k (by omega)]
   have hd0:(C.w.alloc (.cells ROW 128)).drew.heap[C.w.heap.size]? = some (.cells ROW 128 (0,0)):=heap_alloc_new C.w _
   have hdl:(cs.drop (i*4)).length=(us.length-i)*4:=by rw[List.length_drop,hcl,Nat.sub_mul]
   obtain⟨a1,q1,q2,q3,q4,q5,q6,q7,q8⟩:=zce C.w.heap.size 128 (0,0) ws (i*4) (C.w.alloc (.cells ROW 128)).drew ROW hd0 (by rw[hvl,hRs];omega)
   have q1':(((C.w.alloc (.cells ROW 128)).drew.setCells C.w.heap.size (i*4) ws).drew).heap[C.w.heap.size]? = some (.cells a1 128 (0,0)):=q1
   obtain⟨a2,s1,s2,s3,s4,s5,s6,s7,s8⟩:=zce C.w.heap.size 128 (0,0) (cs.drop (i*4)) ((i+1)*4) _ a1 q1' (by rw[hdl,q2,hRs];omega)
   have hA:∀ k,k<(us.length+1)*4→a2[k]? = if k<i*4 then arr[k]? else if k<i*4+4 then ws[k-i*4]? else arr[k-4]? := fun k hk=>by
    rw[s3 k,hdl,q3 k,hvl]
    by_cases h1:k<i*4
    ·rw[if_neg (by omega),if_neg (by omega),if_pos h1,hRt k h1]
    ·rw[if_neg h1]
     by_cases h2:k<i*4+4
     ·rw[if_neg (by omega),if_pos (by omega),if_pos h2]
     ·rw[if_pos (by omega),if_neg h2,List.getElem?_drop,hcsA _ (by omega)]
      congr 1;omega
   generalize hW:(((C.w.alloc (.cells ROW 128)).drew.setCells C.w.heap.size (i*4) ws).drew).setCells C.w.heap.size ((i+1)*4) (cs.drop (i*4))=W at s1 s4 s5 s6 s7 s8
   have hgrew:Grew C.w W:=by
    refine⟨s4.trans q4,s5.trans q5,s6.trans q6,?_,fun k hk=>?_⟩
    ·have:W.heap.size=(C.w.alloc (.cells ROW 128)).drew.heap.size:=s7.trans q7
     rw[this];simp
    ·have e1:=(s8 k (by omega)).trans (q8 k (by omega))
     rw[e1]
     exact heap_alloc_old C.w _ hk
   have hst:Step C [(1000,.row 0 false true 4 (us.map entV))] (C.set 1000 (some C.w.heap.size) W) ((1000,.row (0+1) false true 4 ((insL us i e).map entV))::[(1000,.row 0 false true 4 (us.map entV))]):=by
    refine Step.move hm hat hgrew (Nat.le_refl _) ⟨_,_,_,rfl⟩ (fun hd=>?_)
    exact⟨a2,128,(0,0),s1,loose0 _,by rw[List.length_map,hil,s2,q2,hRs];omega,zgq.1,zgq.2,zpo hi k6 (fun j d c h1 h2=>(hvr j d c h1 h2).flat (FlatI.flat (f:=entV) e d (List.mem_of_getElem? h1))) hd hA,fun h=>by cases h⟩
   have hend:=zpn (len:=us.length+1) rfl hst (Cf.set_same _ _ _ _) rfl s1 (by rw[s2,q2,hRs];exact Nat.le_refl _) hGn hGm (by rw[List.length_map,hil])
   rw[hil]
   exact⟨_,_,rfl,rfl,hend.1,hend.2.1,hend.2.2⟩
end Go.Proofs.YtcdhlofhhcgohaaGreat
