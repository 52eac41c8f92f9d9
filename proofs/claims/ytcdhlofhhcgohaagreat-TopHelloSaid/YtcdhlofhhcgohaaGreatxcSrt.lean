/- Vectors in order; mathematics of sorting. -/
import Derived.Test.YtcdhlofhhcgohaaGreatxbFz
import Derived.Test.YtcdhlofhhcgohaaGreatxTy
namespace Go.Proofs.YtcdhlofhhcgohaaGreat
open Go.RowKit
section
variable {P : Program} {e : Operand → D} {m : Mem} {dst : Option Tmp} {ty : TypeId} {pos : String} {af : Array Edge} {gd : Option (Nat × Bool)} {x y : Operand} {t s el : TypeId}
theorem S_ix_str {n n':Bool} {k:IntKind} {i:Int} {l:List UInt8} {c:UInt8} (hu:P.underlying t=some .string) (h1:e x = .dat n (.str l)) (h2:e y = .dat n' (.int k i)) (hi:0≤i) (hc:l[i.toNat]? = some c) :
  SStep P ⟨dst,.index t x y,ty,pos,af,gd⟩ e m [] (.dat true (.int .u8 c.toNat)) [] :=
 .pure fun C m' ac _ hh hx=>by
  have g1:=hx x (by simp[Op.operands]);rw[h1]at g1
  have g2:=rd_int (by have:=hx y (by simp[Op.operands]);rwa[h2]at this)
  refine⟨.int .u8 c.toNat,?_,mk_int⟩
  have hg:(⟨l.toArray⟩:ByteArray)[i.toNat]? = some c:=by
   have h3:i.toNat<l.length:=(List.getElem?_eq_some_iff.1 hc).1
   have h4:l[i.toNat]=c:=(List.getElem?_eq_some_iff.1 hc).2
   have h5:i.toNat<(⟨l.toArray⟩:ByteArray).size:=by simpa[ByteArray.size]using h3
   rw[getElem?_pos (⟨l.toArray⟩:ByteArray) i.toNat h5]
   exact congrArg some h4
  simp[execOp,Instr.index,rd_str g1,g2,asIntOf,run_under hu,hi,hg]
theorem S_str_bytesO {n:Bool} {l:List UInt8} (g:Nat) [hu:SlcI P t el] (he:P.underlying el=some (.int .u8)) (ht:P.underlying s=some .string) (h:e x = .dat n (.str l)) (hl:l.length≤140737488355328) (hg:m.at g = .gone) :
  SStep P ⟨dst,.convert s t x,ty,pos,af,gd⟩ e m [] (.own g 0 0 l.length) [(g,.row 0 false true 1 (l.map byteV))]:=by
 intro C m' a next Q ha hm hx hn
 have g1:=hx x (by simp[Op.operands]);rw[h]at g1
 have hrun:=run_bytes_of_string (P:=P) C.w s t el ⟨l.toArray⟩ ht hu.out he
 have hsz:(⟨l.toArray⟩:ByteArray).size=l.length:=by simp[ByteArray.size]
 rw[hsz]at hrun
 generalize hcap:grownCap C.w l.length 0 el=cap at hrun
 have hge:l.length≤cap:=by rw[←hcap];exact grownCap_ge _ _ _ _
 have hle:cap≤maxLen:=by rw[←hcap];exact grownCap_le_maxLen _ _ _ _ (by unfold maxLen;omega)
 generalize hrow:bytesRow ⟨l.toArray⟩ cap=row at hrun
 have hrs:row.size=cap:=by
  rw[←hrow];unfold bytesRow
  simp
  omega
 have hrowg:∀ (i:Nat) (b:UInt8),l[i]? = some b→row[i]? = some (Value.int .u8 b.toNat):=fun i b hb=>by
  have hi:i<l.length:=(List.getElem?_eq_some_iff.1 hb).1
  rw[←hrow]
  unfold bytesRow
  rw[Array.getElem?_append_left (by simpa using hi)]
  simp[hb]
 have hg':m'.at g = .gone:=(ha g (by simp)).trans hg
 have hexec:(execOp a.eval ⟨dst,.convert s t x,ty,pos,af,gd⟩).run P C.w = .ok (.value (.slice (some ⟨C.w.heap.size,0,none⟩) l.length cap)) (C.w.drew.alloc (.cells row el (row.size,row.size+1))):=by
  simp[execOp,rd_str g1,hrun]
 have hblk:(C.w.drew.alloc (.cells row el (row.size,row.size+1))).heap[C.w.heap.size]? = some (.cells row el (row.size,row.size+1)):=heap_alloc_new C.w.drew _
 have hget:∀ (i j:Nat) (y:List V) (d:V),(l.map byteV)[i]? = some y→y[j]? = some d→∃ b,l[i]? = some b∧y=[.int .u8 b.toNat]∧j=0∧d = .int .u8 b.toNat:=fun i j y d hy hd=>by
  simp only[List.getElem?_map,Option.map_eq_some_iff]at hy
  obtain⟨b,hb,rfl⟩:=hy
  have hj:j=0:=by have:=(List.getElem?_eq_some_iff.1 hd).1;simp[byteV]at this;exact this
  subst hj
  simp[byteV]at hd
  exact⟨b,hb,rfl,rfl,hd.symm⟩
 have hst:=step_row (g:=g) (xs:=l.map byteV) (sz:=1) (nw:=true) hm hg' (Grew.drewAlloc C.w (.cells row el (row.size,row.size+1))) C.w.heap.size (Nat.le_refl _) hblk ⟨fun i hi h=>by simp only at h;omega,Nat.le_succ _,.inl rfl⟩
  (by rw[List.length_map,hrs];omega) (fun i y hy=>map_len (f:=byteV) l y (List.mem_of_getElem? hy)) (fun i j y d hy hd=>by obtain⟨b,_,_,_,rfl⟩:=hget i j y d hy hd;rfl)
  (fun i j y d u hy hd hu'=>by
   obtain⟨b,hb,_,rfl,rfl⟩:=hget i j y d hy hd
   have h3:=hrowg i b hb
   rw[show i*1+0=i by omega,h3]at hu'
   injection hu' with hu'
   rw[←hu']
   exact Rd.int _ _)
 refine wp_of_value hexec (hn _ _ hst ?_)
 refine⟨0,false,true,1,l.map byteV,Mem.at_cons_same _ _ _,Nat.le_refl _,⟨_,_,_,rfl⟩,fun _=>⟨by simp,?_⟩⟩
 rw[Cf.set_same]
 exact⟨cap,row,el,_,by simp,hblk,by rw[hrs];simp,hge,hle⟩
end
end Go.Proofs.YtcdhlofhhcgohaaGreat
namespace Go.Proofs.YtcdhlofhhcgohaaGreat
open Go.RowKit
structure Way where
 vid:Int
 tree:Int
def wayV (w:Way):List V := [.int .i64 w.vid,.int .i64 w.tree]
instance : CellsI wayV 2:=⟨fun _=>rfl,fun t d h=>by
 simp only[wayV,List.mem_cons,List.mem_nil_iff,or_false]at h
 rcases h with rfl|rfl<;>rfl⟩
instance : FlatI wayV:=⟨fun t d h=>by
 simp only[wayV,List.mem_cons,List.mem_nil_iff,or_false]at h
 rcases h with rfl|rfl<;>exact .int _ _⟩
structure Region where
 name:List UInt8
 rev:Int
 ways:List Way
def Region.cells (r:Region):List V := [.str r.name,.int .i64 r.rev,.slice (r.ways.map wayV)]
def Region.v (r:Region):V := .agg r.cells
def Way.bad (w:Way):Prop:=w.vid<1∨4094<w.vid∨w.tree<1∨15<w.tree
instance wayBadDec (w:Way):Decidable w.bad:=by unfold Way.bad;infer_instance
def waysW (last:Int):List Way→Int
 | []=>0
 | w::r=>if w.bad then 3 else if w.vid≤last then 2 else waysW w.vid r
def okC (c:UInt8):Bool:=32≤c.toNat && c.toNat≤126
def Region.wrong (r:Region):Int :=
 if r.name.length<1∨32<r.name.length then 7 else if r.name.all okC=false then 7 else if r.rev<0∨65535<r.rev then 3 else waysW 0 r.ways
def treeOf : List Way→Int→Int
 | [],_=>0
 | w::r,v=>if w.vid=v then w.tree else treeOf r v
structure Region.right (r:Region):Prop where
 n1:1≤r.name.length
 n2:r.name.length≤32
 nc:r.name.all okC=true
 r0:0≤r.rev
 r1:r.rev≤65535
 w:∀ w∈r.ways,¬w.bad
 s:r.ways.Pairwise (fun a b=>a.vid<b.vid)
 l:r.ways.length≤4094
theorem waysW_zero : ∀ (ws:List Way) (last:Int),0≤last→last≤4094→waysW last ws=0→(∀ w∈ws,¬w.bad∧last<w.vid)∧ws.Pairwise (fun a b=>a.vid<b.vid)∧(ws.length:Int)≤4094-last
 | [],last,_,_,_=>by simp;omega
 | w::r,last,h1,h2,h=>by
  rw[waysW]at h
  split at h
  ·cases h
  ·rename_i hb
   split at h
   ·cases h
   ·rename_i hl
    have hb':=hb
    unfold Way.bad at hb'
    obtain⟨k1,k2,k3⟩:=waysW_zero r w.vid (by omega) (by omega) h
    refine⟨fun u hu=>?_,List.pairwise_cons.2 ⟨fun u hu=>(k1 u hu).2,k2⟩,by simp;omega⟩
    rcases List.mem_cons.1 hu with rfl|hu
    ·exact⟨hb,by omega⟩
    ·exact⟨(k1 u hu).1,by have:=(k1 u hu).2;omega⟩
theorem Region.right_of {r:Region} (h:r.wrong=0):r.right:=by
 unfold Region.wrong at h
 split at h
 ·cases h
 ·split at h
  ·cases h
  ·split at h
   ·cases h
   ·rename_i a b c
    obtain⟨k1,k2,k3⟩:=waysW_zero _ _ (by decide) (by decide) h
    exact⟨by omega,by omega,by simpa using b,by omega,by omega,fun w hw=>(k1 w hw).1,k2,by omega⟩
theorem treeOf_none {ws:List Way} {v:Int} (h:∀ w∈ws,w.vid≠v):treeOf ws v=0:=by
 induction ws with
 | nil=>rfl
 | cons w r ih =>
  rw[treeOf,if_neg (h w (List.mem_cons.2 (.inl rfl)))]
  exact ih (fun u hu=>h u (List.mem_cons.2 (.inr hu)))
theorem treeOf_at {ws:List Way} {v:Int} (hs:ws.Pairwise (fun a b=>a.vid<b.vid)) {i:Nat} {w:Way} (hi:ws[i]? = some w) (hv:w.vid=v):treeOf ws v=w.tree:=by
 induction ws generalizing i with
 | nil=>cases hi
 | cons u r ih =>
  obtain⟨h1,h2⟩:=List.pairwise_cons.1 hs
  rw[treeOf]
  cases i with
  | zero =>
   simp at hi
   subst hi
   rw[if_pos hv]
  | succ i =>
   have hi:r[i]? = some w:=by simpa using hi
   have:=h1 w (List.mem_of_getElem? hi)
   rw[if_neg (by omega)]
   exact ih h2 hi
end Go.Proofs.YtcdhlofhhcgohaaGreat
namespace Go.Proofs.YtcdhlofhhcgohaaGreat
open Go.RowKit
def lastV (ws:List Way):Nat→Int
 | 0=>0
 | k+1=>(ws[k]?.map Way.vid).getD 0
theorem all_take {l:List UInt8} {k:Nat} {c:UInt8} (h:l[k]? = some c):(l.take (k+1)).all okC=((l.take k).all okC && okC c):=by
 rw[List.take_add_one,h,List.all_append]
 simp
theorem not_all {l:List UInt8} {k:Nat} {c:UInt8} (h:l[k]? = some c) (hc:okC c=false):l.all okC=false:=by
 rw[Bool.eq_false_iff]
 intro ha
 have:=List.all_eq_true.1 ha c (List.mem_of_getElem? h)
 rw[hc]at this
 cases this
attribute [local irreducible] SStep DW DWin DOps thenQ inBlk loopQ retQ retQG FnF FnG Wk IntKind.wrap IntKind.andI IntKind.orI IntKind.xorI IntKind.andNotI IntKind.shlI IntKind.shrI
set_option maxHeartbeats 2000000 in
theorem region_Wrong (r:Region) (hl:r.ways.length≤9223372036854775807):FnF Tryz.prog 110 [r.v] (.int .i64 r.wrong):=by
 refine fnF_of Tryz.func110 rfl rfl rfl ?_
 simp only[envOf]
 by_cases ha:r.name.length<1
 ·repeat' (first|refine qU ?_|((first|apply dX rfl|apply Da rfl rfl|apply Db rfl rfl qN);(focus ((try intro hg);first|exact as_bool (S_lss rfl rfl) (decide_eq_true (by omega:(r.name.length:Int)<1))|exact qM));constructor)|refine qP ?_)
  refine ret1 rfl (.inl rfl) ?_
  congr 1;unfold Region.wrong
  rw[if_pos (.inl ha)]
 by_cases hb2:32<r.name.length
 ·repeat' (first|refine qU ?_|((first|apply dX rfl|apply Da rfl rfl|apply Db rfl rfl qN);(focus ((try intro hg);first|exact as_bool (S_lss rfl rfl) (decide_eq_false (by omega:¬(r.name.length:Int)<1))|exact as_bool (S_gtr rfl rfl) (decide_eq_true (by omega:(32:Int)<(r.name.length:Int)))|exact qM));constructor)|refine qP ?_)
  refine ret1 rfl (.inl rfl) ?_
  congr 1;unfold Region.wrong
  rw[if_pos (.inr hb2)]
 repeat' (first|refine qU ?_|((first|apply dX rfl|apply Da rfl rfl|apply Db rfl rfl qN);(focus ((try intro hg);first|exact as_bool (S_lss rfl rfl) (decide_eq_false (by omega:¬(r.name.length:Int)<1))|exact as_bool (S_gtr rfl rfl) (decide_eq_false (by omega:¬(32:Int)<(r.name.length:Int)))|exact qM));constructor)|refine qP ?_)
 refine DW_loop (fun k:Nat=>⟨[(1,.ptr 1 0),(18,.dat true (.int .i64 r.name.length)),(19,.dat true (.int .i64 k))],[(1,.cells false true (r.cells.map (.dat false)))],86⟩)
  (fun k=>k≤r.name.length∧(r.name.take k).all okC=true) (fun k=>r.name.length-k) 0 ⟨Nat.zero_le _,rfl⟩
  (Wk_g some rfl rfl kq) (fun k hR=>?_)
 obtain⟨hk,hall⟩:=hR
 have hnn:¬(r.name.length<1∨32<r.name.length):=by omega
 by_cases hlt:k<r.name.length
 ·have hx:r.name[(k:Int).toNat]? = some r.name[k]:=by simp[hlt]
  have hx':r.name[k]? = some r.name[k]:=by simp[hlt]
  have hat:=all_take hx'
  generalize r.name[k]=c at hx hx' hat
  have hc:okC c=false↔((c.toNat:Int)<32∨(126:Int)<c.toNat):=by unfold okC;simp;omega
  repeat' (first|refine qU ?_|refine DW_cond rfl (fun hb=>?_) (fun hb=>?_)|((first|apply dX rfl|apply Da rfl rfl|apply Db rfl rfl qN);(focus ((try intro hg);first|exact as_bool (S_lss rfl rfl) (decide_eq_true (by omega:(k:Int)<(r.name.length:Int)))|exact S_ix_str Tryz.underlying9 rfl rfl (by omega) hx|exact qM));constructor)|refine qP ?_)
  ·refine ret1 rfl (.inl rfl) ?_
   simp only[Bool.or_eq_true,decide_eq_true_eq]at hb
   congr 1;unfold Region.wrong
   rw[if_neg hnn,if_pos (not_all hx' (hc.2 hb))]
  ·simp only[Bool.or_eq_false_iff,decide_eq_false_iff_not]at hb
   refine loop_again (k+1) ⟨hlt,?_⟩ (by omega) (Wk_g some rfl rfl kq)
   rw[hat,hall]
   cases ho:okC c with
   | true=>rfl
   | false=>have:=hc.1 ho;omega
 ·rw [List.take_of_length_le (by omega)]at hall
  have hall':¬r.name.all okC=false:=by rw[hall];simp
  by_cases h0:r.rev<0
  ·repeat' (first|refine qU ?_|((first|apply dX rfl|apply Da rfl rfl|apply Db rfl rfl qN);(focus ((try intro hg);first|exact as_bool (S_lss rfl rfl) (decide_eq_false (by omega:¬(k:Int)<(r.name.length:Int)))|exact as_bool (S_lss rfl rfl) (decide_eq_true h0)|exact qM));constructor)|refine qP ?_)
   refine ret1 rfl (.inl rfl) ?_
   congr 1;unfold Region.wrong
   rw[if_neg hnn,if_neg hall',if_pos (.inl h0)]
  by_cases h6:65535<r.rev
  ·repeat' (first|refine qU ?_|((first|apply dX rfl|apply Da rfl rfl|apply Db rfl rfl qN);(focus ((try intro hg);first|exact as_bool (S_lss rfl rfl) (decide_eq_false (by omega:¬(k:Int)<(r.name.length:Int)))|exact as_bool (S_lss rfl rfl) (decide_eq_false h0)|exact as_bool (S_gtr rfl rfl) (decide_eq_true h6)|exact qM));constructor)|refine qP ?_)
   refine ret1 rfl (.inl rfl) ?_
   congr 1;unfold Region.wrong
   rw[if_neg hnn,if_neg hall',if_pos (.inr h6)]
  have hw0:r.wrong=waysW 0 r.ways:=by unfold Region.wrong;rw[if_neg hnn,if_neg hall',if_neg (by omega)]
  rw[hw0]
  have hml:(r.ways.map wayV).length=r.ways.length:=by simp
  repeat' (first|refine qU ?_|((first|apply dX rfl|apply Da rfl rfl|apply Db rfl rfl qN);(focus ((try intro hg);first|exact as_bool (S_lss rfl rfl) (decide_eq_false (by omega:¬(k:Int)<(r.name.length:Int)))|exact as_bool (S_lss rfl rfl) (decide_eq_false h0)|exact as_bool (S_gtr rfl rfl) (decide_eq_false h6)|exact qM));constructor)|refine qP ?_)
  refine DW_loop (fun k:Nat=>⟨[(1,.ptr 1 0),(44,.dat false (.slice (r.ways.map wayV))),(45,.dat true (.int .i64 (r.ways.map wayV).length)),(46,.dat true (.int .i64 k))],[(1,.cells false true (r.cells.map (.dat false)))],86⟩)
   (fun k=>k≤r.ways.length∧waysW 0 r.ways=waysW (lastV r.ways k) (r.ways.drop k)) (fun k=>r.ways.length-k) 0 ⟨Nat.zero_le _,rfl⟩
   (Wk_g some rfl rfl kq) (fun k hR=>?_)
  obtain⟨hk,hw⟩:=hR
  by_cases hlt:k<r.ways.length
  ·have hx:r.ways[(k:Int).toNat]? = some r.ways[k]:=by simp[hlt]
   have hn:r.ways.drop k=r.ways[k]::r.ways.drop (k+1):=List.drop_eq_getElem_cons hlt
   have hlast:lastV r.ways (k+1)=(r.ways[k]).vid:=by simp[lastV,hlt]
   generalize r.ways[k]=t at hx hn hlast
   rw[hn,waysW]at hw
   rcases k with - | j
   ·have h00:lastV r.ways 0=0:=rfl
    repeat' (first|refine qU ?_|refine DW_cond rfl (fun hb=>?_) (fun hb=>?_)|((first|apply dX rfl|apply Da rfl rfl|apply Db rfl rfl qN);(focus ((try intro hg);first|exact as_bool (S_lss rfl rfl) (decide_eq_true (by omega:((0:Nat):Int)<((r.ways.map wayV).length:Int)))|exact S_ixM rfl rfl (by omega) hx|exact as_bool (b:=false) (S_gtr rfl rfl) rfl|exact qM));constructor)|refine qP ?_)
    ·refine ret1 rfl (.inl rfl) ?_
     simp only[Bool.or_eq_true,decide_eq_true_eq]at hb
     rw[hw,if_pos (by unfold Way.bad;omega)]
    ·simp only[Bool.or_eq_false_iff,decide_eq_false_iff_not]at hb
     refine loop_again (0+1) ⟨hlt,?_⟩ (by omega) (Wk_g some rfl rfl kq)
     rw[hw,if_neg (by unfold Way.bad;omega),h00,if_neg (by omega),hlast]
   ·have hj:j<r.ways.length:=by omega
    have hx2:r.ways[(((j+1:Nat):Int)-1).toNat]? = some r.ways[j]:=by
     rw[show(((j+1:Nat):Int)-1).toNat=j by omega];exact List.getElem?_eq_getElem hj
    have h00:lastV r.ways (j+1)=(r.ways[j]).vid:=by simp[lastV,hj]
    generalize r.ways[j]=q at hx2 h00
    repeat' (first|refine qU ?_|refine DW_cond rfl (fun hb=>?_) (fun hb=>?_)|((first|apply dX rfl|apply Da rfl rfl|apply Db rfl rfl qN);(focus ((try intro hg);first|exact as_bool (S_lss rfl rfl) (decide_eq_true (by omega:((j+1:Nat):Int)<((r.ways.map wayV).length:Int)))|exact S_ixM rfl rfl (by omega) hx|exact S_ixM rfl rfl (by omega) hx2|exact as_bool (S_gtr rfl rfl) (decide_eq_true (by omega:(0:Int)<((j+1:Nat):Int)))|exact qM));constructor)|refine qP ?_)
    ·refine ret1 rfl (.inl rfl) ?_
     simp only[Bool.or_eq_true,decide_eq_true_eq]at hb
     rw[hw,if_pos (by unfold Way.bad;omega)]
    ·rename_i hb1
     simp only[Bool.or_eq_false_iff,decide_eq_true_eq,decide_eq_false_iff_not]at hb hb1
     refine ret1 rfl (.inl rfl) ?_
     rw[hw,if_neg (by unfold Way.bad;omega),h00,if_pos (by omega)]
    ·rename_i hb1
     simp only[Bool.or_eq_false_iff,decide_eq_false_iff_not]at hb hb1
     refine loop_again (j+1+1) ⟨hlt,?_⟩ (by omega) (Wk_g some rfl rfl kq)
     rw[hw,if_neg (by unfold Way.bad;omega),h00,if_neg (by omega),hlast]
  ·repeat' (first|refine qU ?_|((first|apply dX rfl|apply Da rfl rfl|apply Db rfl rfl qN);(focus ((try intro hg);first|exact as_bool (S_lss rfl rfl) (decide_eq_false (by omega:¬(k:Int)<((r.ways.map wayV).length:Int)))|exact qM));constructor)|refine qP ?_)
   refine ret1 rfl (.inl rfl) ?_
   rw[hw,List.drop_eq_nil_of_le (by omega)]
   rfl
end Go.Proofs.YtcdhlofhhcgohaaGreat
namespace Go.Proofs.YtcdhlofhhcgohaaGreat
open Go.RowKit
attribute [local irreducible] SStep DW DWin DOps thenQ inBlk loopQ retQ retQG FnF FnG Wk
theorem isNaN_u64 (x:Int):FnF Tryz.prog 199 [.int .u64 x] (.bool false):=by
 refine fnF_of Tryz.func199 rfl rfl rfl ?_
 simp only[envOf]
 repeat' (first|refine qU ?_|((first|apply dX rfl|apply Da rfl rfl|apply Db rfl rfl qN);(focus ((try intro hg);first|exact qM));constructor)|refine qP ?_)
 exact ret1 rfl (.inl rfl) (by simp)
theorem isNaN_int (x:Int):FnF Tryz.prog 194 [.int .i64 x] (.bool false):=by
 refine fnF_of Tryz.func194 rfl rfl rfl ?_
 simp only[envOf]
 repeat' (first|refine qU ?_|((first|apply dX rfl|apply Da rfl rfl|apply Db rfl rfl qN);(focus ((try intro hg);first|exact qM));constructor)|refine qP ?_)
 exact ret1 rfl (.inl rfl) (by simp)
def cmpI (x y:Int):Int:=if x<y then -1 else if y<x then 1 else 0
theorem cmp_u64 (x y:Int):FnF Tryz.prog 177 [.int .u64 x,.int .u64 y] (.int .i64 (cmpI x y)):=by
 refine fnF_of Tryz.func177 rfl rfl rfl ?_
 simp only[envOf]
 repeat' (first|refine qU ?_|refine DW_cond rfl (fun _=>?_) (fun _=>?_)|((first|apply dX rfl|apply Da rfl rfl|apply Db rfl rfl qN);(focus ((try intro hg);first|exact S_call (isNaN_u64 _) rfl|exact qM));constructor)|refine qP ?_)
 all_goals (refine ret1 rfl (.inl rfl) ?_;simp_all [cmpI];try omega)
theorem cmp_int (x y:Int):FnF Tryz.prog 176 [.int .i64 x,.int .i64 y] (.int .i64 (cmpI x y)):=by
 refine fnF_of Tryz.func176 rfl rfl rfl ?_
 simp only[envOf]
 repeat' (first|refine qU ?_|refine DW_cond rfl (fun _=>?_) (fun _=>?_)|((first|apply dX rfl|apply Da rfl rfl|apply Db rfl rfl qN);(focus ((try intro hg);first|exact S_call (isNaN_int _) rfl|exact qM));constructor)|refine qP ?_)
 all_goals (refine ret1 rfl (.inl rfl) ?_;simp_all [cmpI];try omega)
def ints (l:List Int):List (List V):=l.map fun x=>[.int .i64 x]
def orI : List Int→Int
 | []=>0
 | x::r=>if x=0 then orI r else x
theorem ints_len (l:List Int):(ints l).length=l.length:=by simp[ints]
theorem orI_drop {l:List Int} {k:Nat} (h:k<l.length):orI (l.drop k)=if l[k]=0 then orI (l.drop (k+1))else l[k]:=by
 rw[List.drop_eq_getElem_cons h];rfl
theorem cmp_Or (l:List Int):FnF Tryz.prog 175 [.slice (ints l)] (.int .i64 (orI l)):=by
 refine fnF_of Tryz.func175 rfl rfl rfl ?_
 simp only[envOf]
 refine DW_len 0 rfl (fun hlen=>?_)
 rw[ints_len]at hlen
 repeat' (first|refine qU ?_|((first|apply dX rfl|apply Da rfl rfl|apply Db rfl rfl qN);(focus ((try intro hg);first|exact qM));constructor)|refine qP ?_)
 refine DW_loop (fun k:Nat=>⟨[(3,.dat true (.int .i64 0)),(6,.dat false (.slice (ints l))),(7,.dat true (.int .i64 (ints l).length)),(8,.dat true (.int .i64 k))],[],18⟩) (fun k=>k≤l.length∧orI l=orI (l.drop k)) (fun k=>l.length-k) 0 ⟨Nat.zero_le _,rfl⟩
  (Wk_g some rfl rfl kq) (fun k hR=>?_)
 obtain⟨hk,hor⟩:=hR
 by_cases hlt:k<l.length
 ·have hx:(ints l)[k]? = some [.int .i64 l[k]]:=by simp[ints,hlt]
  rw[orI_drop hlt]at hor
  repeat' (first|refine qU ?_|refine DW_cond rfl (fun hb=>?_) (fun hb=>?_)|((first|apply dX rfl|apply Da rfl rfl|apply Db rfl rfl qN);(focus ((try intro hg);first|exact S_ix_slice rfl rfl (by omega) hx rfl|exact qM));constructor)|refine qP ?_)
  ·refine ret1 rfl (.inr (.int _ _)) ?_
   simp at hb
   rw[hor,if_neg hb]
  ·simp at hb
   exact loop_again (k+1) ⟨hlt,by rw[hor,if_pos hb]⟩ (by omega) (Wk_g some rfl rfl kq)
  ·simp[ints_len]at hb;omega
 ·repeat' (first|refine qU ?_|refine DW_cond rfl (fun hb=>?_) (fun hb=>?_)|((first|apply dX rfl|apply Da rfl rfl|apply Db rfl rfl qN);(focus ((try intro hg);first|exact qM));constructor)|refine qP ?_)
  ·simp[ints_len]at hb;omega
  ·refine ret1 rfl (.inl rfl) ?_
   rw[hor,List.drop_eq_nil_of_le (by omega)];rfl
end Go.Proofs.YtcdhlofhhcgohaaGreat
namespace Go.Proofs.YtcdhlofhhcgohaaGreat
open Go.RowKit
attribute [local irreducible] SStep DW DOps thenQ inBlk loopQ retQ FnF Wk
structure Vec where
 root:Int
 cost:Int
 bridge:Int
 port:Int
def Vec.cells (v:Vec):List V := [.int .u64 v.root,.int .i64 v.cost,.int .u64 v.bridge,.int .i64 v.port]
def Vec.v (v:Vec):V := .agg v.cells
def Vec.cmp (a b:Vec):Int:=orI [cmpI a.root b.root,cmpI a.cost b.cost,cmpI a.bridge b.bridge,cmpI a.port b.port]
theorem vec_Compare (a b:Vec):FnF Tryz.prog 171 [a.v,b.v] (.int .i64 (a.cmp b)):=by
 refine fnF_of Tryz.func171 rfl rfl rfl ?_
 simp only[envOf]
 repeat' (first|refine qU ?_|((first|apply dX rfl|apply Da rfl rfl|apply Db rfl rfl qN);(focus ((try intro hg);first|exact S_call (cmp_u64 _ _) rfl|exact S_call (cmp_int _ _) rfl|exact S_call (cmp_Or [_,_,_,_]) rfl|exact S_al rfl|exact S_bx rfl rfl|exact S_store rfl rfl rfl rfl rfl rfl|(apply Pu.ok;repeat' (first|rfl|exact .inK (by simp only[InK];omega)|exact .inK (by simp only[InK];simp at hg;omega)|exact .wr|constructor|decide|omega))));constructor)|refine qP ?_)
 exact ret1 rfl (.inl rfl) rfl
def maxCost : Int:=1000000000
def Vec.over (v:Vec) (cost:Int):Option Vec:=if cost<0∨maxCost<cost∨v.cost<0∨maxCost-cost<v.cost then none else some { v with cost:=v.cost+cost }
def Vec.zero : Vec:=⟨0,0,0,0⟩
theorem vec_Over (v:Vec) (cost:Int):FnF Tryz.prog 170 [v.v,.int .i64 cost] (.tuple [((v.over cost).getD .zero).v,.bool (v.over cost).isSome]):=by
 refine fnF_of Tryz.func170 rfl rfl rfl ?_
 simp only[envOf]
 repeat' (first|refine qU ?_|refine DW_cond rfl (fun hb=>?_) (fun hb=>?_)|((first|apply dX rfl|apply Da rfl rfl|apply Db rfl rfl qN);(focus ((try intro hg);first|exact S_al rfl|exact S_bx rfl rfl|exact S_store rfl rfl rfl rfl rfl rfl|(apply Pu.ok;repeat' (first|rfl|exact .inK (by simp only[InK];omega)|exact .inK (by simp only[InK];simp at hg;omega)|exact .wr|constructor|decide|omega))));constructor)|refine qP ?_)
 ·refine retN (.cellA inferInstance rfl rfl rfl rfl qF (.tmp rfl qF .nil)) ?_
  have hn:v.over cost=none:=by
   unfold Vec.over maxCost
   rw[if_pos]
   simp at hb;omega
  rw[hn];rfl
 ·refine retN (.cellA inferInstance rfl rfl rfl rfl qF (.tmp rfl qF .nil)) ?_
  simp at hb
  have hn:v.over cost=some { v with cost:=v.cost+cost }:=by
   unfold Vec.over maxCost
   rw[if_neg]
   omega
  rw[hn,wrap_in (by simp only[InK];omega)];rfl
end Go.Proofs.YtcdhlofhhcgohaaGreat
namespace Go.Proofs.YtcdhlofhhcgohaaGreat
open Go.RowKit
theorem Vec.ext4 {a b:Vec} (h1:a.root=b.root) (h2:a.cost=b.cost) (h3:a.bridge=b.bridge) (h4:a.port=b.port):a=b:=by
 cases a;cases b;simp_all
theorem Vec.cmp_neg {a b:Vec}:a.cmp b<0↔a.root<b.root∨(a.root=b.root∧(a.cost<b.cost∨(a.cost=b.cost∧(a.bridge<b.bridge∨(a.bridge=b.bridge∧a.port<b.port))))):=by
 unfold Vec.cmp
 simp only[orI,cmpI]
 repeat' split
 all_goals (first|omega|(constructor<;>intro h<;>omega))
end Go.Proofs.YtcdhlofhhcgohaaGreat
