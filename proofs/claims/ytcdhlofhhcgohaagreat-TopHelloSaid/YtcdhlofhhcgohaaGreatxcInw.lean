/- The walk of slices.Insert where it does not append: the library's own code, at values. -/
import Derived.Test.YtcdhlofhhcgohaaGreatxcBkL
import Derived.Laws.Externs
import Derived.Laws.IdiomCopy
import Derived.Laws.NewBlocks
import Derived.Lib.AppendZerosOnto
import Derived.Lib.JoinLaws
import Derived.Lib.Overlaps
import Derived.Lib.SliceRun
import Derived.Lib.Walk
import Derived.Shelf.RegionOpenPlain
import Derived.Shelf.Spec.SlicesInsert
import Derived.Test.YtcdhlofhhcgohaaGreatProg
import Derived.WalkKit
namespace Go.Proofs.YtcdhlofhhcgohaaGreat
open Go.RowKit
def lastE (l:List Ent):Nat→Option Ent
 | 0=>none
 | k+1=>l[k]?
attribute [local irreducible] SStep DW DWin DOps thenQ inBlk loopQ retQ retQG FnF FnG Wk IntKind.wrap IntKind.andI IntKind.orI IntKind.xorI IntKind.andNotI IntKind.shlI IntKind.shrI Ent.cmp bsG
theorem book_order (e:Ent) (v a:Int):FnF Tryz.prog 142 [.agg (entV e),.int .i64 v,.int .u64 a] (.int .i64 (e.cmp v a)):=by
 refine fnF_of Tryz.func142 rfl rfl rfl ?_
 simp only[envOf]
 repeat' (first|refine qU ?_|((first|apply dX rfl|apply Da rfl rfl|apply Db rfl rfl qN);(focus ((try intro hg);first|exact S_call (cmp_int _ _) rfl|exact S_call (cmp_u64 _ _) rfl|exact S_call (cmp_Or [_,_]) rfl|exact qM));constructor)|refine qP ?_)
 exact ret1 rfl (.inl rfl) (by with_unfolding_all rfl)
theorem book_cmp (e:Ent) (v a:Int):FnF Tryz.prog 180 [.agg (entV e),.int .u64 a,.rp [.int .i64 v]] (.int .i64 (e.cmp v a)):=by
 refine fnF_of Tryz.func180 rfl rfl rfl ?_
 simp only[envOf]
 repeat' (first|refine qU ?_|((first|apply dX rfl|apply Da rfl rfl|apply Db rfl rfl qN);(focus ((try intro hg);first|exact S_call (book_order e v a) rfl|exact qM));constructor)|refine qP ?_)
 exact ret1 rfl (.inl rfl) rfl
theorem shr1b (a:Nat) (_h:a<9223372036854775808):IntKind.u64.shrI (a:Int) 1=((a / 2:Nat):Int):=by
 have e:(2:Int) ^ (min (1:Int).toNat IntKind.u64.bits)=2:=by decide
 with_unfolding_all unfold IntKind.shrI
 rw[e,Int.fdiv_eq_ediv_of_nonneg _ (by decide)];omega
set_option maxHeartbeats 1000000 in
theorem bs_Ent (l:List Ent) (v a:Int) (hl:l.length≤4194304):FnF Tryz.prog 179 [.slice (l.map entV),.int .u64 a,.fn 180 [.rp [.int .i64 v]]] (.tuple [.int .i64 (findI l v a),.bool (findB l v a)]):=by
 refine fnF_of Tryz.func179 rfl rfl rfl ?_
 simp only[envOf]
 have hml:(l.map entV).length=l.length:=by simp
 repeat' (first|refine qU ?_|((first|apply dX rfl|apply Da rfl rfl|apply Db rfl rfl qN);(focus ((try intro hg);first|exact qM));constructor)|refine qP ?_)
 refine DW_loop (fun p:Nat×Nat=>⟨[(0,.dat false (.slice (l.map entV))),(1,.dat false (.int .u64 a)),(2,.dat false (.fn 180 [.rp [.int .i64 v]])),(8,.dat true (.int .i64 (l.map entV).length)),(9,.dat true (.int .i64 p.1)),(10,.dat true (.int .i64 p.2))],[],49⟩)
  (fun p=>p.1≤p.2∧p.2≤l.length∧∃ f,p.2-p.1≤f∧bsG (fun e=>e.cmp v a) noEnt l f p.1 p.2=findI l v a) (fun p=>p.2-p.1) (0,(l.map entV).length) ⟨Nat.zero_le _,by simp,l.length,by simp,by rw[hml];rfl⟩
  (Wk_g some rfl rfl kq) (fun p hR=>?_)
 obtain⟨i,j⟩:=p
 obtain⟨h1,h2,f,hf,hgo⟩:=hR
 simp only at h1 h2 hf hgo
 dsimp only
 by_cases hlt:i<j
 ·obtain⟨f,rfl⟩:∃ g,f=g+1:=⟨f-1,by omega⟩
  have hh:(i+j) / 2<l.length:=by omega
  have hx:l[(((i+j) / 2:Nat):Int).toNat]? = some l[(i+j) / 2]:=by rw[Int.toNat_natCast];exact List.getElem?_eq_getElem hh
  have hg:l.getD ((i+j) / 2) noEnt=l[(i+j) / 2]:=by rw[List.getD_eq_getElem?_getD,List.getElem?_eq_getElem hh];rfl
  have hs:IntKind.u64.shrI ((i:Int)+(j:Int)) 1=(((i+j) / 2:Nat):Int):=by rw[←shr1b (i+j) (by omega)];rfl
  have hgo':(if(l[(i+j) / 2]).cmp v a<0 then bsG (fun e=>e.cmp v a) noEnt l f ((i+j) / 2+1) j else bsG (fun e=>e.cmp v a) noEnt l f i ((i+j) / 2))=findI l v a:=by
   rw[←hgo,←hg]
   with_unfolding_all (rw[bsG,if_pos hlt])
  generalize l[(i+j) / 2]=w at hx hgo'
  have hhb:(i+j) / 2<j∧i≤(i+j) / 2:=by omega
  generalize (i+j) / 2=h at hx hs hgo' hhb hh
  by_cases hc:w.cmp v a<0
  ·rw[if_pos hc]at hgo'
   repeat' (first|refine qU ?_|((first|apply dX rfl|apply Da rfl rfl|apply Db rfl rfl qN);(focus ((try intro hg);first|exact as_bool (S_lss rfl rfl) (decide_eq_true (by omega:(i:Int)<(j:Int)))|exact as_int (S_shr rfl rfl (by decide)) hs|exact S_ixM rfl rfl (by omega) hx|exact S_callv rfl rfl (book_cmp w v a)|exact as_bool (S_lss rfl rfl) (decide_eq_true hc)|exact qM));constructor)|refine qP ?_)
   exact loop_again (h+1,j) ⟨by simp only;omega,h2,f,by simp only;omega,hgo'⟩ (by simp only;omega) (Wk_g some rfl rfl kq)
  ·rw[if_neg hc]at hgo'
   repeat' (first|refine qU ?_|((first|apply dX rfl|apply Da rfl rfl|apply Db rfl rfl qN);(focus ((try intro hg);first|exact as_bool (S_lss rfl rfl) (decide_eq_true (by omega:(i:Int)<(j:Int)))|exact as_int (S_shr rfl rfl (by decide)) hs|exact S_ixM rfl rfl (by omega) hx|exact S_callv rfl rfl (book_cmp w v a)|exact as_bool (S_lss rfl rfl) (decide_eq_false hc)|exact qM));constructor)|refine qP ?_)
   exact loop_again (i,h) ⟨by simp only;omega,by simp only;omega,f,by simp only;omega,hgo'⟩ (by simp only;omega) (Wk_g some rfl rfl kq)
 ·rw[bsG_end hlt]at hgo
  have hB:findB l v a=(decide (i<l.length) && decide ((l.getD i noEnt).cmp v a=0)):=by unfold findB;rw[←hgo]
  rw[hB,←hgo]
  by_cases hin:i<l.length
  ·have hx:l[(i:Int).toNat]? = some l[i]:=by simp[hin]
   have hg:l.getD i noEnt=l[i]:=by rw[List.getD_eq_getElem?_getD,List.getElem?_eq_getElem hin];rfl
   rw[hg,decide_eq_true hin,Bool.true_and]
   generalize l[i]=w at hx
   repeat' (first|refine qU ?_|((first|apply dX rfl|apply Da rfl rfl|apply Db rfl rfl qN);(focus ((try intro hg);first|exact as_bool (S_lss rfl rfl) (decide_eq_false (by omega:¬(i:Int)<(j:Int)))|exact as_bool (S_lss rfl rfl) (decide_eq_true (by omega:(i:Int)<((l.map entV).length:Int)))|exact S_ixM rfl rfl (by omega) hx|exact S_callv rfl rfl (book_cmp w v a)|exact qM));constructor)|refine qP ?_)
   exact retN (.tmp rfl (.inr (.int _ _)) (.tmp rfl (.inl rfl) .nil)) rfl
  ·rw[decide_eq_false hin,Bool.false_and]
   repeat' (first|refine qU ?_|((first|apply dX rfl|apply Da rfl rfl|apply Db rfl rfl qN);(focus ((try intro hg);first|exact as_bool (S_lss rfl rfl) (decide_eq_false (by omega:¬(i:Int)<(j:Int)))|exact as_bool (S_lss rfl rfl) (decide_eq_false (by omega:¬(i:Int)<((l.map entV).length:Int)))|exact qM));constructor)|refine qP ?_)
   exact retN (.tmp rfl (.inr (.int _ _)) (.tmp rfl (.inl rfl) .nil)) rfl
theorem book_find (l:List Ent) (v a:Int) (hl:l.length≤4194304):FnF Tryz.prog 145 [.slice (l.map entV),.int .i64 v,.int .u64 a] (.tuple [.int .i64 (findI l v a),.bool (findB l v a)]):=by
 refine fnF_of Tryz.func145 rfl rfl rfl ?_
 simp only[envOf]
 repeat' (first|refine DW_freeze 4 (by intro kt et es h;cases (show Box.cells false _ [D.dat false _]=Box.mapb _ _ _ from h)) ?_|refine qU ?_|((first|apply dX rfl|apply Da rfl rfl|apply Db rfl rfl qN);(focus ((try intro hg);first|exact S_call (bs_Ent l v a hl) rfl|exact qM));constructor)|refine qP ?_)
 exact retN (.tmp rfl (.inl rfl) (.tmp rfl (.inl rfl) .nil)) rfl
theorem book_Look (l:List Ent) (v a:Int) (hl:l.length≤4194304):FnF Tryz.prog 119 [.slice (l.map entV),.int .i64 v,.int .u64 a] (.tuple [.int .i64 (lookE l v a).1,.bool (lookE l v a).2]):=by
 refine fnF_of Tryz.func119 rfl rfl rfl ?_
 simp only[envOf]
 have hf:=book_find l v a hl
 unfold lookE
 by_cases hb:findB l v a=true
 ·have hi:findI l v a<l.length:=by unfold findB at hb;simp only[Bool.and_eq_true,decide_eq_true_eq]at hb;exact hb.1
  have hx:l[((findI l v a:Nat):Int).toNat]? = some l[findI l v a]:=by rw[Int.toNat_natCast];exact List.getElem?_eq_getElem hi
  have hg:l.getD (findI l v a) noEnt=l[findI l v a]:=by rw[List.getD_eq_getElem?_getD,List.getElem?_eq_getElem hi];rfl
  rw[if_pos hb,hg]
  rw[hb]at hf
  generalize l[findI l v a]=e at hx
  generalize findI l v a=i at hf hx
  repeat' (first|refine qU ?_|((first|apply dX rfl|apply Da rfl rfl|apply Db rfl rfl qN);(focus ((try intro hg);first|exact S_call hf rfl|exact S_ixM rfl rfl (by omega) hx|exact qM));constructor)|refine qP ?_)
  exact retN (.tmp rfl (.inr (.int _ _)) (.tmp rfl (.inl rfl) .nil)) rfl
 ·rw[if_neg hb]
  have hb':findB l v a=false:=by simpa using hb
  rw[hb']at hf
  repeat' (first|refine qU ?_|((first|apply dX rfl|apply Da rfl rfl|apply Db rfl rfl qN);(focus ((try intro hg);first|exact S_call hf rfl|exact qM));constructor)|refine qP ?_)
  exact retN (.tmp rfl (.inl rfl) (.tmp rfl (.inl rfl) .nil)) rfl
end Go.Proofs.YtcdhlofhhcgohaaGreat
namespace Go.Proofs.YtcdhlofhhcgohaaGreat
open Go.RowKit
attribute [local irreducible] SStep DW DWin DOps thenQ inBlk loopQ retQ retQG FnF FnG Wk IntKind.wrap IntKind.andI IntKind.orI IntKind.xorI IntKind.andNotI IntKind.shlI IntKind.shrI Ent.cmp bsG
set_option maxHeartbeats 2000000 in
theorem book_Wrong (l:List Ent):FnF Tryz.prog 112 [.slice (l.map entV)] (faultV (wrongB l)):=by
 refine fnF_of Tryz.func112 rfl rfl rfl ?_
 simp only[envOf]
 have hml:(l.map entV).length=l.length:=by simp
 unfold wrongB
 by_cases h30:30<l.length
 ·rw[if_pos h30]
  repeat' (first|refine qU ?_|((first|apply dX rfl|apply Da rfl rfl|apply Db rfl rfl qN);(focus ((try intro hg);first|exact as_bool (S_gtr rfl rfl) (decide_eq_true (by omega:(30:Int)<((l.map entV).length:Int)))|exact qM));constructor)|refine qP ?_)
  refine retN (.cellA inferInstance rfl rfl rfl rfl qF .nil) ?_
  rfl
 rw[if_neg h30]
 repeat' (first|refine qU ?_|((first|apply dX rfl|apply Da rfl rfl|apply Db rfl rfl qN);(focus ((try intro hg);first|exact as_bool (S_gtr rfl rfl) (decide_eq_false (by omega:¬(30:Int)<((l.map entV).length:Int)))|exact qM));constructor)|refine qP ?_)
 refine DW_loop (fun k:Nat=>⟨[(0,.dat false (.slice (l.map entV))),(2,.ptr 2 0),(9,.dat false (.slice (l.map entV))),(10,.dat true (.int .i64 (l.map entV).length)),(11,.dat true (.int .i64 k))],[(2,.cells false true [.dat true (.int .i64 0),.dat true (.int .i64 0)])],70⟩)
  (fun k=>k≤l.length∧bookW none 0 l=bookW (lastE l k) k (l.drop k)) (fun k=>l.length-k) 0 ⟨Nat.zero_le _,rfl⟩
  (Wk_g some rfl rfl kq) (fun k hR=>?_)
 obtain⟨hk,hw⟩:=hR
 by_cases hlt:k<l.length
 ·have hx:l[(k:Int).toNat]? = some l[k]:=by simp[hlt]
  have hn:l.drop k=l[k]::l.drop (k+1):=List.drop_eq_getElem_cons hlt
  have hlast:lastE l (k+1)=some l[k]:=by simp[lastE,hlt]
  generalize l[k]=t at hx hn hlast
  rw[hn,bookW]at hw
  rcases k with - | j
  ·have h00:lastE l 0=none:=rfl
   rw[h00]at hw
   repeat' (first|refine qU ?_|refine DW_cond rfl (fun hb=>?_) (fun hb=>?_)|((first|apply dX rfl|apply Da rfl rfl|apply Db rfl rfl qN);(focus ((try intro hg);first|exact as_bool (S_lss rfl rfl) (decide_eq_true (by omega:((0:Nat):Int)<((l.map entV).length:Int)))|exact S_ixM rfl rfl (by omega) hx|exact as_bool (b:=false) (S_gtr rfl rfl) rfl|exact qM));constructor)|refine qP ?_)
   ·simp only[Bool.or_eq_true,decide_eq_true_eq]at hb
    rw[hw,if_pos (by unfold Ent.bad;omega)]
    refine retN (.cellA inferInstance rfl rfl rfl rfl qF .nil) ?_
    rfl
   ·simp only[Bool.or_eq_false_iff,decide_eq_false_iff_not]at hb
    refine loop_again (0+1) ⟨hlt,?_⟩ (by omega) (Wk_g some rfl rfl kq)
    rw[hw,if_neg (by unfold Ent.bad;omega),if_neg (by simp),hlast]
  ·have hj:j<l.length:=by omega
   have hx2:l[(((j+1:Nat):Int)-1).toNat]? = some l[j]:=by
    rw[show(((j+1:Nat):Int)-1).toNat=j by omega];exact List.getElem?_eq_getElem hj
   have h00:lastE l (j+1)=some l[j]:=by simp[lastE,hj]
   generalize l[j]=q at hx2 h00
   rw[h00]at hw
   have ho:=book_order q t.vid t.addr
   have hq:=q.cmp_lt t.vid t.addr
   repeat' (first|refine qU ?_|refine DW_cond rfl (fun hb=>?_) (fun hb=>?_)|((first|apply dX rfl|apply Da rfl rfl|apply Db rfl rfl qN);(focus ((try intro hg);first|exact as_bool (S_lss rfl rfl) (decide_eq_true (by omega:((j+1:Nat):Int)<((l.map entV).length:Int)))|exact S_ixM rfl rfl (by omega) hx|exact S_ixM rfl rfl (by omega) hx2|exact S_call ho rfl|exact as_bool (S_gtr rfl rfl) (decide_eq_true (by omega:(0:Int)<((j+1:Nat):Int)))|exact qM));constructor)|refine qP ?_)
   ·simp only[Bool.or_eq_true,decide_eq_true_eq]at hb
    rw[hw,if_pos (by unfold Ent.bad;omega)]
    refine retN (.cellA inferInstance rfl rfl rfl rfl qF .nil) ?_
    rfl
   ·rename_i hb1
    simp only[Bool.or_eq_false_iff,decide_eq_true_eq,decide_eq_false_iff_not]at hb hb1
    rw[hw,if_neg (by unfold Ent.bad;omega),if_pos (by simp only[Option.any_some,Bool.not_eq_true',decide_eq_false_iff_not];rw[←hq];omega)]
    refine retN (.cellA inferInstance rfl rfl rfl rfl qF .nil) ?_
    rfl
   ·rename_i hb1
    simp only[Bool.or_eq_false_iff,decide_eq_false_iff_not]at hb hb1
    refine loop_again (j+1+1) ⟨by omega,?_⟩ (by omega) (Wk_g some rfl rfl kq)
    rw[hw,if_neg (by unfold Ent.bad;omega),if_neg (by simp only[Option.any_some,Bool.not_eq_true',decide_eq_false_iff_not,Classical.not_not];rw[←hq];omega),hlast]
 ·repeat' (first|refine qU ?_|((first|apply dX rfl|apply Da rfl rfl|apply Db rfl rfl qN);(focus ((try intro hg);first|exact as_bool (S_lss rfl rfl) (decide_eq_false (by omega:¬(k:Int)<((l.map entV).length:Int)))|exact qM));constructor)|refine qP ?_)
  rw[hw,List.drop_eq_nil_of_le (by omega)]
  refine retN (.cellA inferInstance rfl rfl rfl rfl qF .nil) ?_
  rfl
end Go.Proofs.YtcdhlofhhcgohaaGreat
namespace Go.Proofs.YtcdhlofhhcgohaaGreat
open Go.RowKit Go.Shelf Go.Lib
theorem copy_cells {P:Program} (w:World) (dT sT ty elem:TypeId) (s:Nat) (b o dLen dCap:Nat) (a:Addr) (sLen sCap:Nat) (cs:List Value)
  (hu:P.underlying dT=some (.slice elem)) (hs:(P.info? elem).map (·.size)=some s) (hn:cs.length=Nat.min sLen dLen*s)
  (hsrc:∀ j v,cs[j]? = some v→w.cell? (a.add j)=some v) (hc:∀ j,j<cs.length→(w.cell? ⟨b,o+j,none⟩).isSome=true) (hf:∀ j,j<cs.length→w.frozen? ⟨b,o+j,none⟩=false) (h1:∀ v∈cs,v.oneCell'=true) :
  (Builtin.copy_ #[dT,sT] ty #[.slice (some ⟨b,o,none⟩) dLen dCap,.slice (some a) sLen sCap]).run P w = .ok (goInt (Nat.min sLen dLen)) (w.setCells b o cs):=by
 have hl:=run_loadCells_list (P:=P) w a cs hsrc
 have hst:=run_storeCells_cells (P:=P) b o cs 0 w (by simpa using hc) (by simpa using hf) h1
 cases hq:P.info? elem with
 | none=>simp[hq]at hs
 | some i =>
  have hi:i.size=s:=by simpa[hq]using hs
  simp[Builtin.copy_,run_underlying hu,Builtin.lenOf,Builtin.firstCells,sizeOf,typeInfo,hq,hi,←hn,hl,hst]
theorem overlaps_no {P:Program} (w:World) (tS tR e:TypeId) (ht:P.underlying tS=some (.slice e)) (size:Nat) (hz:∀ w,(Go.sizeOf e).run P w = .ok size w)
  (a b:Addr) (la ca lb cb:Nat) (hne:a.block≠b.block) (tA tB:TypeId) (kA kB:Nat)
  (hsa:w.shape? a.block=some (tA,kA)) (hsb:w.shape? b.block=some (tB,kB)) (hkA:kA≠0)
  (hfb:w.frozen? b=false) (hfe:w.frozen? { block:=b.block,off:=kB }=false) :
  (Extern.SlicesOverlaps.overlaps #[tS,tS] #[tR] #[.slice (some a) la ca,.slice (some b) lb cb]).run P w = .ok (.bool false) w:=by
 have hnb:(a.block != b.block)=true:=by simpa using hne
 have hnb':(a.block == b.block)=false:=by simpa using hne
 change Sem.run P (α:=Value) (do
  let some t := (#[tS, tS] : Array TypeId)[0]? | stuck "slices.overlaps: no parameter types"
  let .slice elem ← underlying t | stuck "slices.overlaps: slice type expected"
  let size ← sizeOf elem
  match (some a:Option Addr),(some b:Option Addr)with
  | some a,some b =>
   if la=0∨lb=0∨size=0 then pure (Value.bool false)
   else if a.block != b.block && (←frozen a) && (←frozen b)then unsupported .addressObserved
   else do
    if a.block != b.block then do
     noView a;noView b
     if ← mayBeOne a b then return Value.bool ((← choose (.extern "sameAddr.stringBytes" 2)) == 1)
    pure (Value.bool (a.block == b.block && a.off<b.off+lb*size && b.off<a.off+la*size))
  | _,_=>pure (Value.bool false)) w=_
 by_cases h0:la=0∨lb=0∨size=0
 ·simp[run_underlying ht,hz,h0]
 ·cases kA with
  | zero=>exact absurd rfl hkA
  | succ kA =>
   cases hfa:w.frozen? a<;>cases hfae:w.frozen? { block:=a.block,off:=kA+1 } <;>
    simp[run_underlying ht,hz,h0,hnb,hnb',frozen,noView,viewAt,mayBeOne,stringish,shape,Sem.run,hsa,hsb,hfb,hfe,hfa,hfae]
theorem sizeE : (Tryz.prog.info? 128).map (·.size)=some 4:=by kernel_rfl
set_option maxHeartbeats 4000000 in
set_option maxRecDepth 100000 in
/-- There is room: in place. -/
theorem insert_shift (b n c i vb voff vc:Nat) (cs vs:List Value) (w:World) (hi:i<n) (hroom:n+1≤c) (hc63:c≤9223372036854775807) (hvb:vb≠b)
  (hcl:cs.length=n*4) (hvl:vs.length=4)
  (hcs:∀ j v,cs[j]? = some v→w.cell? ⟨b,j,none⟩=some v) (hsp:∀ j,j<(n+1)*4→(w.cell? ⟨b,j,none⟩).isSome=true) (hfz:∀ j,j<(n+1)*4→w.frozen? ⟨b,j,none⟩=false)
  (hvs:∀ j v,vs[j]? = some v→w.cell? ⟨vb,voff+j,none⟩=some v) (h1c:∀ v∈cs,v.oneCell'=true) (h1v:∀ v∈vs,v.oneCell'=true)
  (tA tB:TypeId) (kA kB:Nat) (hsa:w.shape? vb=some (tA,kA)) (hsb:w.shape? b=some (tB,kB)) (hkA:kA≠0) (hfe:w.frozen? ⟨b,kB,none⟩=false) :
  Calls Tryz.prog 146 #[.slice (some ⟨b,0,none⟩) n c,.int .i64 i,.slice (some ⟨vb,voff,none⟩) 1 vc] w fun e w' =>
   e = .returned (.slice (some ⟨b,0,none⟩) (n+1) c)∧w'=(w.drew.setCells b ((i+1)*4) (cs.drop (i*4))).setCells b (i*4) vs:=by
 have u38:=run_underlying Tryz.underlying65
 have mixed:Tryz.prog.follows .mixedOrders=true:=by kernel_rfl
 have hz2:¬((i:Int)=(n:Int)):=by omega
 have hov:∀ lb cb,(callFunc 181 #[.slice (some ⟨vb,voff,none⟩) 1 vc,.slice (some ⟨b,(i+1)*4,none⟩) lb cb]).run Tryz.prog w = .ok (.value (.bool false)) w:=fun lb cb=>by
  rw[run_callFunc_extern Tryz.func181 (by kernel_rfl) (by kernel_rfl) (by kernel_rfl) (e:=Extern.SlicesOverlaps.overlaps #[65,65] #[4]) (by kernel_rfl),
   overlaps_no w 65 4 128 Tryz.underlying65 4 Tryz.sizeOf128 ⟨vb,voff,none⟩ ⟨b,(i+1)*4,none⟩ 1 vc lb cb hvb tA tB kA kB hsa hsb hkA (hfz _ (by omega)) hfe]
  rfl
 have hdl:(cs.drop (i*4)).length=(n-i)*4:=by rw[List.length_drop,hcl,Nat.sub_mul]
 have hw1:IntKind.i64.wrap ((i:Int)+1)=(i:Int)+1:=by rw[IntKind.wrap_i64];omega
 have hb1:(0:Int)≤(i:Int)+1:=by omega
 have hin:i≤n:=by omega
 have htn:((i:Int)+1).toNat=i+1:=by omega
 have hb2:¬(c=i+1):=by omega
 have hb3:(i:Int)≤(n:Int)+1:=by omega
 have hb4:¬(c=i):=by omega
 have hcp1:∀ ty dc sc,(Builtin.copy_ #[65,65] ty #[.slice (some ⟨b,(i+1)*4,none⟩) (n-i) dc,.slice (some ⟨b,i*4,none⟩) (n+1-i) sc]).run Tryz.prog w.drew = .ok (goInt (Nat.min (n+1-i) (n-i))) (w.drew.setCells b ((i+1)*4) (cs.drop (i*4))):=fun ty dc sc =>
  copy_cells w.drew _ _ ty 128 4 b ((i+1)*4) (n-i) dc ⟨b,i*4,none⟩ (n+1-i) sc (cs.drop (i*4)) Tryz.underlying65 sizeE (by rw[hdl];congr 1;simp only[Nat.min_def];split<;>omega)
   (fun j v hj=>by rw[Addr.add_lit];exact hcs (i*4+j) v (by rwa[List.getElem?_drop]at hj))
   (fun j hj=>hsp _ (by omega)) (fun j hj=>hfz _ (by omega)) (fun v hv=>h1c v (List.mem_of_mem_drop hv))
 obtain⟨W1,hW1⟩:∃ W1,W1=w.drew.setCells b ((i+1)*4) (cs.drop (i*4)):=⟨_,rfl⟩
 have hsp1:∀ k,k<(n+1)*4→(W1.cell? ⟨b,k,none⟩).isSome=true:=fun k hk=>by
  rw[hW1]
  exact isSome_setCells b (cs.drop (i*4)) ((i+1)*4) w.drew (fun j hj=>hsp _ (by omega)) k (hsp k hk)
 have hcp2:∀ (W:World),(∀ x,W.cell? x=W1.cell? x)→(∀ x,W.frozen? x=W1.frozen? x)→∀ ty dc,(Builtin.copy_ #[65,65] ty #[.slice (some ⟨b,i*4,none⟩) (n+1-i) dc,.slice (some ⟨vb,voff,none⟩) 1 vc]).run Tryz.prog W = .ok (goInt (Nat.min 1 (n+1-i))) (W.setCells b (i*4) vs):=fun W hWc hWf ty dc =>
  copy_cells W _ _ ty 128 4 b (i*4) (n+1-i) dc ⟨vb,voff,none⟩ 1 vc vs Tryz.underlying65 sizeE (by rw[hvl];simp only[Nat.min_def];split<;>omega)
   (fun j v hj=>by
    rw[Addr.add_lit,hWc,hW1,World.cell?_setCells_out b _ _ _ _ (fun h _=>absurd h hvb)]
    exact hvs j v hj)
   (fun j hj=>by rw[hWc];exact hsp1 _ (by omega)) (fun j hj=>by rw[hWf,hW1,World.frozen?_setCells];exact hfz _ (by omega)) h1v
 rw[←hW1]at hcp1
 go_enter Tryz.func146,Tryz.ntmps146
 go_wp2_with (simp only[hov])
 go_region_law_o (refine step_copy_runI rfl _ _ 65 65 rfl _ _ (by simp[Act.eval,Act.put]) (by simp[Act.eval,Act.put]) (hcp1 _ _ _) ?_)
 go_wp2_with (at_builtin;refine wpList_copy_runI _ rfl _ _ 65 65 rfl _ _ rfl rfl (hcp2 _ (fun _=>rfl) (fun _=>rfl) _ _) ?_)
 go_ret
 first|exact⟨rfl,rfl⟩|exact⟨rfl,by rw[hW1]⟩
theorem infoE : ∃ i0,Tryz.prog.info? 128=some i0∧i0.zero=some (Value.agg #[Value.int IntKind.i64 0,Value.int IntKind.u64 0,Value.int IntKind.i64 0,Value.int IntKind.i64 0])∧i0.size=4∧i0.bytes≤32:=by
 have h:(Tryz.prog.info? 128).map (fun i=>(i.zero,i.size,i.bytes))=some (some (Value.agg #[Value.int IntKind.i64 0,Value.int IntKind.u64 0,Value.int IntKind.i64 0,Value.int IntKind.i64 0]),4,32):=by kernel_rfl
 cases hq:Tryz.prog.info? 128 with
 | none=>rw[hq]at h;cases h
 | some i =>
  rw[hq]at h
  injection h with h
  injection h with h1 h2
  injection h2 with h2 h3
  exact⟨i,rfl,h1,h2,by omega⟩
set_option maxHeartbeats 4000000 in
set_option maxRecDepth 100000 in
/-- There is no room: a new row. -/
theorem insert_grow (b n c i vb voff vc:Nat) (cs vs:List Value) (w:World) (hi:i<n) (hnc:n≤c) (hroom:c<n+1) (hbig:n≤1099511627776)
  (hcl:cs.length=n*4) (hvl:vs.length=4)
  (hcs:∀ j v,cs[j]? = some v→w.cell? ⟨b,j,none⟩=some v)
  (hvs:∀ j v,vs[j]? = some v→w.cell? ⟨vb,voff+j,none⟩=some v) (h1c:∀ v∈cs,v.oneCell'=true) (h1v:∀ v∈vs,v.oneCell'=true) :
  Calls Tryz.prog 146 #[.slice (some ⟨b,0,none⟩) n c,.int .i64 i,.slice (some ⟨vb,voff,none⟩) 1 vc] w fun e w' =>
   e = .returned (.slice (some ⟨w.heap.size,0,none⟩) (n+1) (grownCap w (n+1) c 128)) ∧
   w'=(((w.alloc (.cells ((cs.take (i*4)).toArray++Builtin.zeroCells (Value.agg #[Value.int IntKind.i64 0,Value.int IntKind.u64 0,Value.int IntKind.i64 0,Value.int IntKind.i64 0]).cells (n+1-i)++Builtin.zeroCells (Value.agg #[Value.int IntKind.i64 0,Value.int IntKind.u64 0,Value.int IntKind.i64 0,Value.int IntKind.i64 0]).cells (grownCap w (n+1) c 128-(n+1))) 128)).drew.setCells w.heap.size (i*4) vs).drew).setCells w.heap.size ((i+1)*4) (cs.drop (i*4)):=by
 have u38:=run_underlying Tryz.underlying65
 have mixed:Tryz.prog.follows .mixedOrders=true:=by kernel_rfl
 obtain⟨i0,hi0,hz0,hzs,hzb⟩:=infoE
 have hz2:¬((i:Int)=(n:Int)):=by omega
 have hz3:(c:Int)<(n:Int)+1:=by omega
 have hbw:b<w.heap.size:=block_lt_of_cell (hcs 0 _ (List.getElem?_eq_getElem (by omega)))
 have hvw:vb<w.heap.size:=block_lt_of_cell (hvs 0 _ (List.getElem?_eq_getElem (by omega)))
 have hkk:(n:Int)+1-(i:Int)=((n+1-i:Nat):Int):=by omega
 have hik:i+(n+1-i)=n+1:=by omega
 have hold:(Builtin.firstCells i0.size i (.slice (some ⟨b,0,none⟩) i c)).run Tryz.prog w.drew = .ok (cs.take (i*4)).toArray w.drew:=by
  rw[hzs]
  exact run_firstCells_some w.drew 4 i ⟨b,0,none⟩ i c (cs.take (i*4)) (by rw[List.length_take];omega) (fun j v hj=>by
   rw[Addr.add_lit,Nat.zero_add]
   rw[List.getElem?_take]at hj
   split at hj
   ·exact hcs j v hj
   ·cases hj)
 have hrz:∀ ty,(Builtin.append_ #[65,3] ty #[.slice (some ⟨b,0,none⟩) i c,.int .i64 ((n:Int)+1-(i:Int))]).run Tryz.prog w =
   .ok (.slice (some ⟨w.heap.size,0,none⟩) (n+1) (grownCap w (n+1) c 128)) (w.drew.alloc (.cells ((cs.take (i*4)).toArray++Builtin.zeroCells (Value.agg #[Value.int IntKind.i64 0,Value.int IntKind.u64 0,Value.int IntKind.i64 0,Value.int IntKind.i64 0]).cells (n+1-i)++Builtin.zeroCells (Value.agg #[Value.int IntKind.i64 0,Value.int IntKind.u64 0,Value.int IntKind.i64 0,Value.int IntKind.i64 0]).cells (grownCap w (n+1) c 128-(n+1))) 128)):=fun ty=>by
  have h:=Lib.run_append_grow_zeros w 65 3 ty 128 i0 _ .i64 .i64 Tryz.underlying65 Tryz.underlying3 hi0 hz0 (some ⟨b,0,none⟩) i c (cs.take (i*4)) hold (n+1-i) (by omega) (by omega) (by omega) (by omega) (by have:=Nat.mul_le_mul_left (n+1-i) hzb;omega) (by rw[hik];exact growslice_fits hroom (by have:=Nat.mul_le_mul_left (n+1) hzb;omega))
  rw[hik]at h
  rw[hkk]
  exact h
 obtain⟨G,hG⟩:∃ G,G=grownCap w (n+1) c 128:=⟨_,rfl⟩
 obtain⟨ROW,hROW⟩:∃ ROW:Array Value,ROW=(cs.take (i*4)).toArray++Builtin.zeroCells (Value.agg #[Value.int IntKind.i64 0,Value.int IntKind.u64 0,Value.int IntKind.i64 0,Value.int IntKind.i64 0]).cells (n+1-i)++Builtin.zeroCells (Value.agg #[Value.int IntKind.i64 0,Value.int IntKind.u64 0,Value.int IntKind.i64 0,Value.int IntKind.i64 0]).cells (G-(n+1)):=⟨_,rfl⟩
 rw[←hG]at hrz ⊢
 rw[←hROW]at hrz ⊢
 have hRl:(n+1)*4≤ROW.size:=by
  rw[hROW]
  simp[Builtin.zeroCells,Value.cells]
  omega
 obtain⟨W1,hW1⟩:∃ W1,W1=w.drew.alloc (.cells ROW 128):=⟨_,rfl⟩
 rw[←hW1]at hrz
 have hN:∀ j,j<(n+1)*4→(W1.cell? ⟨w.heap.size,j,none⟩).isSome=true:=fun j hj=>by
  rw[hW1,World.cell?_alloc_at (w:=w.drew) ROW _ w.heap.size j rfl,Array.getElem?_eq_getElem (by omega)];rfl
 have hNf:∀ j,W1.frozen? ⟨w.heap.size,j,none⟩=false:=fun j=>by rw[hW1];exact World.frozen?_alloc_at (w:=w.drew) ROW _ w.heap.size j rfl
 have hOb:∀ j v,w.cell? ⟨b,j,none⟩=some v→W1.cell? ⟨b,j,none⟩=some v:=fun j v h=>by rw[hW1,World.cell?_alloc_past (w:=w.drew) _ b j hbw];exact h
 have hOv:∀ j v,w.cell? ⟨vb,j,none⟩=some v→W1.cell? ⟨vb,j,none⟩=some v:=fun j v h=>by rw[hW1,World.cell?_alloc_past (w:=w.drew) _ vb j hvw];exact h
 have hcpA:∀ (W:World),(∀ x,W.cell? x=W1.cell? x)→(∀ x,W.frozen? x=W1.frozen? x)→∀ ty dc,(Builtin.copy_ #[65,65] ty #[.slice (some ⟨w.heap.size,i*4,none⟩) (n+1-i) dc,.slice (some ⟨vb,voff,none⟩) 1 vc]).run Tryz.prog W = .ok (goInt (Nat.min 1 (n+1-i))) (W.setCells w.heap.size (i*4) vs):=fun W hWc hWf ty dc =>
  copy_cells W _ _ ty 128 4 w.heap.size (i*4) (n+1-i) dc ⟨vb,voff,none⟩ 1 vc vs Tryz.underlying65 sizeE (by rw[hvl];simp only[Nat.min_def];split<;>omega)
   (fun j v hj=>by rw[Addr.add_lit,hWc];exact hOv _ v (hvs j v hj))
   (fun j hj=>by rw[hWc];exact hN _ (by omega)) (fun j hj=>by rw[hWf];exact hNf _) h1v
 have hGn:n+1≤G:=by rw[hG];exact grownCap_ge w _ _ _
 have hG63:G≤9223372036854775807:=by
  have:=grownCap_le_maxLen w (n+1) c 128 (by unfold maxLen;omega)
  rw[←hG]at this
  unfold maxLen at this
  omega
 have hGi:¬(G=i):=by omega
 have hGim:¬(G=i+1):=by omega
 have hci:¬(c=i):=by omega
 have hbN:b≠w.heap.size:=by omega
 have hdl:(cs.drop (i*4)).length=(n-i)*4:=by rw[List.length_drop,hcl,Nat.sub_mul]
 have hcpB:∀ (W:World),(∀ x,W.cell? x=(W1.setCells w.heap.size (i*4) vs).cell? x)→(∀ x,W.frozen? x=(W1.setCells w.heap.size (i*4) vs).frozen? x)→∀ ty dc sc,(Builtin.copy_ #[65,65] ty #[.slice (some ⟨w.heap.size,(i+1)*4,none⟩) (n-i) dc,.slice (some ⟨b,i*4,none⟩) (n-i) sc]).run Tryz.prog W = .ok (goInt (Nat.min (n-i) (n-i))) (W.setCells w.heap.size ((i+1)*4) (cs.drop (i*4))):=fun W hWc hWf ty dc sc =>
  copy_cells W _ _ ty 128 4 w.heap.size ((i+1)*4) (n-i) dc ⟨b,i*4,none⟩ (n-i) sc (cs.drop (i*4)) Tryz.underlying65 sizeE (by rw[hdl];simp only[Nat.min_def];split<;>omega)
   (fun j v hj=>by
    rw[Addr.add_lit,hWc,World.cell?_setCells_out _ _ _ _ _ (fun h _=>absurd h hbN)]
    exact hOb _ v (hcs (i*4+j) v (by rwa[List.getElem?_drop]at hj)))
   (fun j hj=>by rw[hWc];exact isSome_setCells w.heap.size vs (i*4) W1 (fun t ht=>hN _ (by omega)) _ (hN _ (by omega)))
   (fun j hj=>by rw[hWf,World.frozen?_setCells];exact hNf _) (fun v hv=>h1c v (List.mem_of_mem_drop hv))
 subst hW1
 have hE1:∀ x,((w.alloc (.cells ROW 128)).drew).cell? x=(w.drew.alloc (.cells ROW 128)).cell? x:=fun x=>rfl
 have hE2:∀ x,((w.alloc (.cells ROW 128)).drew).frozen? x=(w.drew.alloc (.cells ROW 128)).frozen? x:=fun x=>rfl
 have hF1:∀ x,(((w.alloc (.cells ROW 128)).drew.setCells w.heap.size (i*4) vs).drew).cell? x=((w.drew.alloc (.cells ROW 128)).setCells w.heap.size (i*4) vs).cell? x:=fun x=>rfl
 have hF2:∀ x,(((w.alloc (.cells ROW 128)).drew.setCells w.heap.size (i*4) vs).drew).frozen? x=((w.drew.alloc (.cells ROW 128)).setCells w.heap.size (i*4) vs).frozen? x:=fun x=>rfl
 have hw1:IntKind.i64.wrap ((i:Int)+1)=(i:Int)+1:=by rw[IntKind.wrap_i64];omega
 have hb1:(0:Int)≤(i:Int)+1:=by omega
 have hin:i≤n:=by omega
 have htn:((i:Int)+1).toNat=i+1:=by omega
 have hb3:(i:Int)≤(n:Int):=by omega
 clear hkk hik hold hROW hG hRl
 go_enter Tryz.func146,Tryz.ntmps146
 go_wp2_with (first
  | (at_builtin;refine Lib.wpList_append_run _ rfl _ _ _ _ rfl _ _ rfl rfl _ _ (hrz _) ?_)
  | (at_builtin;refine wpList_copy_runI _ rfl _ _ 65 65 rfl _ _ rfl rfl (hcpA _ hE1 hE2 _ _) ?_)
  | (at_builtin;refine wpList_copy_runI _ rfl _ _ 65 65 rfl _ _ rfl rfl (hcpB _ (fun _=>rfl) (fun _=>rfl) _ _ _) ?_))
 go_region_law_o (refine step_copy_runI rfl _ _ 65 65 rfl (.slice (some ⟨w.heap.size,(i+1)*4,none⟩) (n-i) (G-(i+1))) (.slice (some ⟨b,i*4,none⟩) (n-i) (c-i)) (by simp[Act.eval,Act.put]) (by simp[Act.eval,Act.put]) (hcpB _ hF1 hF2 3 (G-(i+1)) (c-i)) ?_)
 go_wp2
 go_ret
 exact⟨rfl,rfl⟩
end Go.Proofs.YtcdhlofhhcgohaaGreat
