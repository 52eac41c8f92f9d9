/- Own memory that holds own memory, lent for the time of a call as data. -/
import Derived.Test.YtcdhlofhhcgohaaGreatxbFz
import Derived.Test.YtcdhlofhhcgohaaGreatxcSrt
import Derived.MapKept
import Derived.WideMake
import Derived.Test.YtcdhlofhhcgohaaGreatxbPu
import Derived.Test.YtcdhlofhhcgohaaGreatxbNst
namespace Go.Proofs.YtcdhlofhhcgohaaGreat
open Go.RowKit
structure Offer where
  port:Int
  cost:Int
  age:Int
  vec:Vec
def Offer.cells (o:Offer):List V := [.int .i64 o.port,.int .i64 o.cost,.int .i64 o.age,.int .u64 o.vec.root,.int .i64 o.vec.cost,.int .u64 o.vec.bridge,.int .i64 o.vec.port]
def offers (l:List Offer):V := .slice (l.map Offer.cells)
structure Ch where
  best:Vec
  age:Int
  port:Int
def Ch.step (id:Int) (s:Ch) (o:Offer):Ch :=
  match o.vec.over o.cost with
  | none=>s
  | some v=>if o.port<0∨o.age<0∨20≤o.age∨id≤v.root then s
    else if(if s.port<0 then -1 else v.cmp s.best)<0∨((if s.port<0 then -1 else v.cmp s.best)=0∧o.port<s.port)then⟨v,o.age+1,o.port⟩else s
def Ch.start (id:Int):Ch:=⟨⟨id,0,0,0⟩,0, -1⟩
def chooseS (id:Int) (l:List Offer):Ch:=l.foldl (Ch.step id) (.start id)
def Ch.says (id:Int) (s:Ch):Vec:=⟨s.best.root,s.best.cost,id,0⟩
theorem Ch.step_skip {id:Int} {c:Ch} {o:Offer} (h:(o.vec.over o.cost).isSome=true→0≤o.port→0≤o.age→o.age<20→id≤((o.vec.over o.cost).getD .zero).root):c.step id o=c:=by
  unfold Ch.step
  cases hv:o.vec.over o.cost with
  | none=>rfl
  | some v =>
    simp only[hv,Option.isSome_some,Option.getD_some,true_implies]at h
    simp only
    rw[if_pos]
    omega
theorem Ch.step_in {id:Int} {c:Ch} {o:Offer} (h0:(o.vec.over o.cost).isSome=true) (h1:0≤o.port) (h2:0≤o.age) (h3:o.age<20) (h4:((o.vec.over o.cost).getD .zero).root<id) :
    c.step id o=if(c.port<0∨((o.vec.over o.cost).getD .zero).cmp c.best<0∨(((o.vec.over o.cost).getD .zero).cmp c.best=0∧o.port<c.port))then⟨(o.vec.over o.cost).getD .zero,o.age+1,o.port⟩else c:=by
  unfold Ch.step
  cases hv:o.vec.over o.cost with
  | none=>simp[hv]at h0
  | some v =>
    simp only[hv,Option.getD_some]at h4 ⊢
    rw[if_neg (by omega)]
    by_cases hp:c.port<0
    · simp[hp]
    · simp[hp]
def Offer.good (id:Int) (o:Offer):Prop:=(o.vec.over o.cost).isSome=true∧0≤o.port∧0≤o.age∧o.age<20∧((o.vec.over o.cost).getD .zero).root<id
theorem Offer.good_true {id:Int} {o:Offer} (h:o.good id):((((!(o.vec.over o.cost).isSome) || decide (o.port<0)) || decide (o.age<0)) || decide (20≤o.age) || decide (id≤((o.vec.over o.cost).getD .zero).root))=false:=by
  obtain⟨h0,h1,h2,h3,h4⟩:=h
  rw[h0,decide_eq_false (by omega),decide_eq_false (by omega),decide_eq_false (by omega),decide_eq_false (by omega)];rfl
theorem Offer.good_false {id:Int} {o:Offer} (h:¬o.good id):((((!(o.vec.over o.cost).isSome) || decide (o.port<0)) || decide (o.age<0)) || decide (20≤o.age) || decide (id≤((o.vec.over o.cost).getD .zero).root))=true:=by
  cases hs:((((!(o.vec.over o.cost).isSome) || decide (o.port<0)) || decide (o.age<0)) || decide (20≤o.age) || decide (id≤((o.vec.over o.cost).getD .zero).root))with
  | true=>rfl
  | false =>
    simp only[Bool.or_eq_false_iff,Bool.not_eq_false',decide_eq_false_iff_not]at hs
    exact absurd ⟨hs.1.1.1.1,by omega,by omega,by omega,by omega⟩ h
theorem Ch.step_bad {id:Int} {c:Ch} {o:Offer} (h:¬o.good id):c.step id o=c:=Ch.step_skip (fun h0 h1 h2 h3=>by
  by_cases h4:((o.vec.over o.cost).getD .zero).root<id
  · exact absurd ⟨h0,h1,h2,h3,h4⟩ h
  · omega)
attribute [local irreducible] SStep DW DWin DOps thenQ inBlk loopQ retQ retQG FnF FnG Wk IntKind.wrap IntKind.andI IntKind.orI IntKind.xorI IntKind.andNotI IntKind.shlI IntKind.shrI Vec.cmp Ch.step
set_option maxHeartbeats 2000000 in
theorem vec_Choose (id:Int) (l:List Offer):FnF Tryz.prog 136 [.int .u64 id,offers l] (.tuple [((chooseS id l).says id).v,.int .i64 (chooseS id l).age,.int .i64 (chooseS id l).port]):=by
  refine fnF_of Tryz.func136 rfl rfl rfl ?_
  simp only[envOf,offers]
  refine DW_len 1 rfl (fun hlen=>?_)
  have hml:(l.map Offer.cells).length=l.length:=by simp
  repeat' (first|refine qU ?_|((first|apply dX rfl|apply Da rfl rfl|apply Db rfl rfl qN);(focus ((try intro hg);first|exact qM));constructor)|refine qP ?_)
  refine DW_loop (fun p:Nat×Ch=>⟨[(0,.dat false (.int .u64 id)),(4,.ptr 4 0),(7,.ptr 7 0),(8,.dat true (.int .i64 p.2.age)),(9,.dat true (.int .i64 p.2.port)),(17,.dat false (.slice (l.map Offer.cells))),
      (18,.dat true (.int .i64 (l.map Offer.cells).length)),(19,.dat true (.int .i64 p.1))],
      [(7,.cells false true [.dat true (.int .u64 p.2.best.root),.dat true (.int .i64 p.2.best.cost),.dat true (.int .u64 p.2.best.bridge),.dat true (.int .i64 p.2.best.port)]),
       (4,.cells false true [.dat true (.int .u64 0),.dat true (.int .i64 0),.dat true (.int .u64 0),.dat true (.int .i64 0)])],86⟩)
    (fun p=>p.1≤l.length∧chooseS id l=(l.drop p.1).foldl (Ch.step id) p.2) (fun p=>l.length-p.1) (0,.start id) ⟨Nat.zero_le _,rfl⟩
    (Wk_g some rfl rfl kq) (fun p hR=>?_)
  obtain⟨k,c⟩:=p
  obtain⟨hk,hch⟩:=hR
  simp only at hk hch
  dsimp only
  by_cases hlt:k<l.length
  · have hx : (l.map Offer.cells)[(k:Int).toNat]? = some (l[k]).cells:=by simp[hlt]
    rw[List.drop_eq_getElem_cons hlt,List.foldl_cons]at hch
    generalize l[k]=o at hx hch
    by_cases hel:o.good id
    · have hE:=Offer.good_true hel
      obtain⟨i0,i1,i2,i3,i4⟩:=hel
      have hst:=Ch.step_in (c:=c) i0 i1 i2 i3 i4
      by_cases hp:c.port<0
      · rw[if_pos (.inl hp)]at hst
        repeat' (first|(apply DW_false rfl;case hb=>exact hE)|refine qU ?_|((first|apply dX rfl|apply Da rfl rfl|apply Db rfl rfl qN);(focus ((try intro hg);first|exact as_bool (S_lss rfl rfl) (decide_eq_true (by omega:(k:Int)<((l.map Offer.cells).length:Int)))|exact S_ix_slice rfl rfl (by omega) hx rfl|exact S_call (vec_Over o.vec o.cost) rfl|exact S_call (vec_Compare ((o.vec.over o.cost).getD .zero) c.best) rfl|exact as_bool (S_lss rfl rfl) (decide_eq_true hp)|exact as_bool (b:=true) (S_lss rfl rfl) rfl|exact qM));constructor)|refine qP ?_)
        exact loop_again (k+1,⟨(o.vec.over o.cost).getD .zero,o.age+1,o.port⟩) ⟨hlt,by rw[hch,hst]⟩ (by simp only;omega) (Wk_g some rfl rfl kq)
      · by_cases ht:((o.vec.over o.cost).getD .zero).cmp c.best<0∨(((o.vec.over o.cost).getD .zero).cmp c.best=0∧o.port<c.port)
        · rw[if_pos (.inr ht)]at hst
          have hT:(decide (((o.vec.over o.cost).getD .zero).cmp c.best<0) || (decide (((o.vec.over o.cost).getD .zero).cmp c.best=0) && decide (o.port<c.port)))=true:=by simpa using ht
          repeat' (first|(apply DW_false rfl;case hb=>exact hE)|(apply DW_true rfl;case hb=>exact hT)|refine qU ?_|((first|apply dX rfl|apply Da rfl rfl|apply Db rfl rfl qN);(focus ((try intro hg);first|exact as_bool (S_lss rfl rfl) (decide_eq_true (by omega:(k:Int)<((l.map Offer.cells).length:Int)))|exact S_ix_slice rfl rfl (by omega) hx rfl|exact S_call (vec_Over o.vec o.cost) rfl|exact S_call (vec_Compare ((o.vec.over o.cost).getD .zero) c.best) rfl|exact as_bool (S_lss rfl rfl) (decide_eq_false hp)|exact qM));constructor)|refine qP ?_)
          exact loop_again (k+1,⟨(o.vec.over o.cost).getD .zero,o.age+1,o.port⟩) ⟨hlt,by rw[hch,hst]⟩ (by simp only;omega) (Wk_g some rfl rfl kq)
        · rw [if_neg (by omega)]at hst
          have hT:(decide (((o.vec.over o.cost).getD .zero).cmp c.best<0) || (decide (((o.vec.over o.cost).getD .zero).cmp c.best=0) && decide (o.port<c.port)))=false:=by
            rw[Bool.or_eq_false_iff,Bool.and_eq_false_iff,decide_eq_false_iff_not,decide_eq_false_iff_not,decide_eq_false_iff_not];omega
          repeat' (first|(apply DW_false rfl;case hb=>exact hE)|(apply DW_false rfl;case hb=>exact hT)|refine qU ?_|((first|apply dX rfl|apply Da rfl rfl|apply Db rfl rfl qN);(focus ((try intro hg);first|exact as_bool (S_lss rfl rfl) (decide_eq_true (by omega:(k:Int)<((l.map Offer.cells).length:Int)))|exact S_ix_slice rfl rfl (by omega) hx rfl|exact S_call (vec_Over o.vec o.cost) rfl|exact S_call (vec_Compare ((o.vec.over o.cost).getD .zero) c.best) rfl|exact as_bool (S_lss rfl rfl) (decide_eq_false hp)|exact qM));constructor)|refine qP ?_)
          exact loop_again (k+1,c) ⟨hlt,by rw[hch,hst]⟩ (by simp only;omega) (Wk_g some rfl rfl kq)
    · have hE:=Offer.good_false hel
      repeat' (first|(apply DW_true rfl;case hb=>exact hE)|refine qU ?_|((first|apply dX rfl|apply Da rfl rfl|apply Db rfl rfl qN);(focus ((try intro hg);first|exact as_bool (S_lss rfl rfl) (decide_eq_true (by omega:(k:Int)<((l.map Offer.cells).length:Int)))|exact S_ix_slice rfl rfl (by omega) hx rfl|exact S_call (vec_Over o.vec o.cost) rfl|exact S_call (vec_Compare ((o.vec.over o.cost).getD .zero) c.best) rfl|exact qM));constructor)|refine qP ?_)
      exact loop_again (k+1,c) ⟨hlt,by rw[hch,Ch.step_bad hel]⟩ (by simp only;omega) (Wk_g some rfl rfl kq)
  · repeat' (first|refine qU ?_|((first|apply dX rfl|apply Da rfl rfl|apply Db rfl rfl qN);(focus ((try intro hg);first|exact as_bool (S_lss rfl rfl) (decide_eq_false (by omega:¬(k:Int)<((l.map Offer.cells).length:Int)))|exact qM));constructor)|refine qP ?_)
    refine retN (.cellA inferInstance rfl rfl rfl rfl qF (.tmp rfl qF (.tmp rfl qF .nil))) ?_
    rw[List.drop_eq_nil_of_le (by omega)]at hch
    rw[hch];rfl
end Go.Proofs.YtcdhlofhhcgohaaGreat
namespace Go.Proofs.YtcdhlofhhcgohaaGreat
open Go.RowKit
attribute [local irreducible] SStep DW DOps thenQ inBlk loopQ retQ FnF Wk
def Offer.blocks (says:Vec) (port:Int) (o:Offer):Bool:=(decide (o.port=port) && decide (0≤o.age) && decide (o.age≤20) && decide (o.vec.cmp says<0))
def roleOf (says:Vec) (root port:Int) (l:List Offer):Int:=if port=root then 1 else if l.any (Offer.blocks { says with port:=port } port)then 3 else 2
theorem vec_Role (says:Vec) (root port:Int) (l:List Offer):FnF Tryz.prog 174 [says.v,.int .i64 root,.int .i64 port,offers l] (.int .i64 (roleOf says root port l)):=by
 refine fnF_of Tryz.func174 rfl rfl rfl ?_
 simp only[envOf,offers]
 refine DW_len 3 rfl (fun hlen=>?_)
 have hml:(l.map Offer.cells).length=l.length:=by simp
 repeat' (first|refine qU ?_|refine DW_cond rfl (fun hb=>?_) (fun hb=>?_)|((first|apply dX rfl|apply Da rfl rfl|apply Db rfl rfl qN);(focus ((try intro hg);first|exact qM));constructor)|refine qP ?_)
 ·simp at hb
  refine ret1 rfl (.inl rfl) ?_
  rw[roleOf,if_pos hb]
 simp at hb
 refine DW_loop (fun k:Nat=>⟨[(2,.dat false (.int .i64 port)),(4,.ptr 4 0),(16,.dat false (.slice (l.map Offer.cells))),(17,.dat true (.int .i64 (l.map Offer.cells).length)),(18,.dat true (.int .i64 k))],
   [(4,.cells false true [.dat false (.int .u64 says.root),.dat false (.int .i64 says.cost),.dat false (.int .u64 says.bridge),.dat false (.int .i64 port)])],44⟩)
  (fun k=>k≤l.length∧l.any (Offer.blocks { says with port:=port } port)=(l.drop k).any (Offer.blocks { says with port:=port } port)) (fun k=>l.length-k) 0 ⟨Nat.zero_le _,rfl⟩
  (Wk_g some rfl rfl kq) (fun k hR=>?_)
 obtain⟨hk,hany⟩:=hR
 by_cases hlt:k<l.length
 ·have hx:(l.map Offer.cells)[k]? = some (l[k]).cells:=by simp[hlt]
  rw[List.drop_eq_getElem_cons hlt,List.any_cons]at hany
  generalize l[k]=o at hx hany
  repeat' (first|refine qU ?_|refine DW_cond rfl (fun hc=>?_) (fun hc=>?_)|((first|apply dX rfl|apply Da rfl rfl|apply Db rfl rfl qN);(focus ((try intro hg);first|exact S_ix_slice rfl rfl (by omega) hx rfl|exact S_call (vec_Compare o.vec ⟨says.root,says.cost,says.bridge,port⟩) rfl|exact qM));constructor)|refine qP ?_)
  ·refine ret1 rfl (.inl rfl) ?_
   have e:Offer.blocks { says with port:=port } port o=true:=hc
   rw[roleOf,if_neg hb,hany,e];rfl
  ·have e:Offer.blocks { says with port:=port } port o=false:=hc
   refine loop_again (k+1) ⟨hlt,by rw[hany,e];rfl⟩ (by omega) (Wk_g some rfl rfl kq)
  ·simp at hc;omega
 ·repeat' (first|refine qU ?_|refine DW_cond rfl (fun hc=>?_) (fun hc=>?_)|((first|apply dX rfl|apply Da rfl rfl|apply Db rfl rfl qN);(focus ((try intro hg);first|exact qM));constructor)|refine qP ?_)
  ·simp at hc;omega
  ·refine ret1 rfl (.inl rfl) ?_
   rw[roleOf,if_neg hb,hany,List.drop_eq_nil_of_le (by omega)];rfl
end Go.Proofs.YtcdhlofhhcgohaaGreat
namespace Go.Proofs.YtcdhlofhhcgohaaGreat
open Go.RowKit
def mapE (k k':IntKind) (es:List (Int×Int)):List (V×V):=es.map fun p=>(.int k p.1,.int k' p.2)
section
variable {P : Program} {e : Operand → D} {m : Mem} {dst : Option Tmp} {ty : TypeId} {pos : String} {af : Array Edge} {gd : Option (Nat × Bool)} {x y z : Operand} {t kt et : TypeId}
theorem S_mkMap {k k':IntKind} (g:Nat) (hg:m.at g = .gone):SStep P ⟨dst,.makeMap t none,ty,pos,af,gd⟩ e m [] (.mp g) [(g,.mapb kt et (mapE k k' []))]:=by
 intro C m' a next Q hag hm hx hn
 have hg':m'.at g = .gone:=(hag g (by simp)).trans hg
 have hblk:(C.w.alloc (.map #[] 0)).heap[C.w.heap.size]? = some (.map #[] 0):=heap_alloc_new C.w _
 have hst:Step C m' (C.set g (some C.w.heap.size) (C.w.alloc (.map #[] 0))) ((g,.mapb kt et (mapE k k' []))::m'):=by
  refine Step.fresh hm hg' (Grew.alloc C.w _) (fun b' hb'=>by injection hb' with hb';omega) (fun hd _=>?_)
  exact⟨_,rfl, #[],0,hblk,rfl,rfl,by simp[mapE]⟩
 refine wp_of_value (v := .map (some C.w.heap.size)) (w':=C.w.alloc (.map #[] 0)) (by simp[execOp,run_makeMap_plain]) (hn _ _ hst ?_)
 exact⟨kt,et,mapE k k' [],C.w.heap.size,Mem.at_cons_same _ _ _,by rw[Cf.set_same],rfl⟩
end
end Go.Proofs.YtcdhlofhhcgohaaGreat
namespace Go.Proofs.YtcdhlofhhcgohaaGreat
open Go.RowKit
class KeyI (P:Program) (kt:TypeId) {κ:Type} [DecidableEq κ] (f:κ→List V) (c:outParam (List Nat)):Prop where
 q:EqI P kt c
 codes:∀ a,(f a).map V.code=c
 eq:∀ a b,eqL (f a) (f b)=some (decide (a=b))
 chk:∀ (a:κ) (S:Nat→Prop) (e:Bool) (w:World) (v:Value),Rd S w (.agg (f a)) v→(Instr.checkKey e 10000 kt v).run P w = .ok () w
 flat:∀ a,Flat (.agg (f a))
 now:∃ d,P.underlying kt=some d∧∀ x y,Instr.sameNow d (.agg x) y=none
def mapK {κ β:Type} (f:κ→List V) (h:β→V) (es:List (κ×β)):List (V×V):=es.map fun p=>(.agg (f p.1),h p.2)
def lookK {κ β:Type} [DecidableEq κ] (es:List (κ×β)) (a:κ):Option β:=(es.find? (fun p=>decide (a=p.1))).map (·.2)
section
variable {P : Program} {κ β : Type} [DecidableEq κ] {f : κ → List V} {h : β → V} {c : List Nat} {kt et : TypeId}
theorem run_findAsking {C:Cf} {k:Value} {a:κ} [hk:KeyI P kt f c] (hka:RdF C false (.agg (f a)) k):∀ (es:List (κ×β)) (l:List MapEntry) (i:Nat),l.length=es.length →
  (∀ (j:Nat) p q,es[j]? = some p→l[j]? = some q→RdF C false (.agg (f p.1)) q.key∧RdF C true (h p.2) q.val) →
  ((Instr.findAsking kt k l i).run P C.w = .ok none C.w∧lookK es a=none)∨∃ j v b,(Instr.findAsking kt k l i).run P C.w = .ok (some (j,v)) C.w∧lookK es a=some b∧RdF C true (h b) v
 | [],[],i,_,_=>.inl ⟨by simp[Instr.findAsking],rfl⟩
 | p::es,q::l,i,hl,hh=>by
  obtain⟨h1,h2⟩:=hh 0 p q rfl rfl
  obtain⟨_,_,_,_,he0⟩:=eq_run (t:=kt) (hq:=hk.q) hka h1 (hk.codes a) (hk.codes p.1) (hk.eq a p.1)
  have he:(Op.equal kt k q.key).run P C.w = .ok (decide (a=p.1)) C.w:=he0
  by_cases hap:a=p.1
  ·refine .inr ⟨i,q.val,p.2,?_,?_,h2⟩
   ·simp only[Instr.findAsking,Sem.run_bind,he,Result.andThen_ok,hap,decide_true,if_true,Sem.run_pure]
   ·unfold lookK
    rw[List.find?_cons_of_pos (by simpa using hap)];rfl
  ·have hs:(Instr.findAsking kt k (q::l) i).run P C.w=(Instr.findAsking kt k l (i+1)).run P C.w:=by
    simp only[Instr.findAsking,Sem.run_bind,he,Result.andThen_ok,decide_eq_false hap,Bool.false_eq_true,if_false]
   have hlk:lookK (p::es) a=lookK es a:=by
    unfold lookK
    rw[List.find?_cons_of_neg (by simpa using hap)]
   rw[hs,hlk]
   exact run_findAsking hka es l (i+1) (by simpa using hl) (fun j p' q' hp hq=>hh (j+1) p' q' hp hq)
theorem run_findKeyA {C:Cf} {k:Value} {a:κ} [hk:KeyI P kt f c] (hka:RdF C false (.agg (f a)) k) {es:List (κ×β)} {ents:Array MapEntry} (hl:ents.size=(mapK f h es).length)
  (hh:∀ (i:Nat) p e,(mapK f h es)[i]? = some p→ents[i]? = some e→Rd (fun _=>False) C.w p.1 e.key∧Rd (fun _=>False) C.w p.2 e.val∧e.born=i) :
  ((Instr.findKey kt k ents.toList).run P C.w = .ok none C.w∧lookK es a=none)∨∃ j v b,(Instr.findKey kt k ents.toList).run P C.w = .ok (some (j,v)) C.w∧lookK es a=some b∧RdF C true (h b) v:=by
 have hent:∀ (j:Nat) p q,es[j]? = some p→ents.toList[j]? = some q→RdF C false (.agg (f p.1)) q.key∧RdF C true (h p.2) q.val:=fun j p q hp hq=>by
  obtain⟨h1,h2,_⟩:=hh j (.agg (f p.1),h p.2) q (by simp[mapK,hp]) (by simpa using hq)
  exact⟨Rd.mono h1 (fun _ h=>h.elim) (fun _ _=>rfl),Rd.mono h2 (fun _ h=>h.elim) (fun _ _=>rfl)⟩
 have hll:ents.toList.length=es.length:=by simpa[mapK]using hl
 obtain⟨d,hd,hnow⟩:=hk.now
 have hkv:∃ vs,k = .agg vs:=by cases hka with|agg _ vs _ _=>exact⟨vs,rfl⟩
 obtain⟨vs,rfl⟩:=hkv
 cases hes:ents.toList with
 | nil =>
  have he0:es=[]:=List.length_eq_zero_iff.1 (by rw[←hll,hes];rfl)
  subst he0
  refine .inl ⟨?_,rfl⟩
  simp[Instr.findKey,run_under hd,Instr.findNow]
 | cons e r =>
  have hfn:Instr.findNow d (.agg vs) (e::r) 0=none:=by rw[Instr.findNow,hnow]
  have hfk:(Instr.findKey kt (.agg vs) (e::r)).run P C.w=(Instr.findAsking kt (.agg vs) (e::r) 0).run P C.w:=by
   simp[Instr.findKey,run_under hd,hfn]
  rw[hfk,←hes]
  exact run_findAsking hka es ents.toList 0 hll hent
end
section
variable {P : Program} {e : Operand → D} {m : Mem} {dst : Option Tmp} {ty : TypeId} {pos : String} {af : Array Edge} {gd : Option (Nat × Bool)} {x y z : Operand} {t kt et : TypeId}
 {κ β:Type} [DecidableEq κ] {f:κ→List V} {h:β→V} {c:List Nat}
omit [DecidableEq κ] in
theorem S_mkMapK (f:κ→List V) (h:β→V) (g:Nat) (hg:m.at g = .gone):SStep P ⟨dst,.makeMap t none,ty,pos,af,gd⟩ e m [] (.mp g) [(g,.mapb kt et (mapK f h []))]:=S_mkMap (k := .i64) (k' := .i64) g hg
theorem S_lookupK {g:Nat} {kt' et':TypeId} {n:Bool} {a:κ} {b0:β} {es:List (κ×β)} {by_:Nat} {zv:V} (hu:P.underlying t=some (.map kt et)) [hk:KeyI P kt f c] [hz:TyI P et false 1 by_ [zv]] (hz0:h b0=zv)
  (h1:e x = .mp g) (hmg:m.at g = .mapb kt' et' (mapK f h es)) (h2:asV m (e y)=some (n,.agg (f a))) :
  SStep P ⟨dst,.lookup t x y false,ty,pos,af,gd⟩ e m (g::refs m (e y)) (.dat true (h ((lookK es a).getD b0))) [] :=
 .pure fun C m' ac ha hh hx=>by
  have g1:=hx x (by simp[Op.operands]);rw[h1]at g1
  have g2:RdF C false (.agg (f a)) (ac.eval y):=(asV_ok hh (fun g' hg'=>ha g' (by simp[hg'])) h2 (hx y (by simp[Op.operands]))).weak hh
  obtain⟨kt1,et1,es1,b,hat,hi,hv⟩:=g1
  have hat':=hat
  rw[ha g (by simp),hmg]at hat
  injection hat with e1 e2 e3
  subst e1 e2 e3
  have hb:=hh.box g
  rw[hat']at hb
  obtain⟨b',hi',ents,clock,q1,q2,q3,q4⟩:=hb
  rw[hi]at hi'
  injection hi' with hi'
  subst hi'
  rcases run_findKeyA (hk:=hk) g2 q2 q4 with⟨f1,f2⟩|⟨j,v,b1,f1,f2,f3⟩
  ·rw[f2]
   have hzv:=run_zero hz C.w
   have hzc:=hz.zc
   simp only[List.all_cons,List.all_nil,Bool.and_true]at hzc
   refine⟨zv.val,?_,?_⟩
   ·simp only[execOp,hv,Instr.lookup,Sem.run_bind,run_under hu,Result.andThen_ok,MapKept.run_getObj_map q1,Sem.run_pure,hk.chk a _ _ _ _ g2,f1]
    simp[hzv,zval]
   ·rw[Option.getD_none,hz0]
    exact val_rd hzc
  ·rw[f2]
   refine⟨v,?_,f3⟩
   simp only[execOp,hv,Instr.lookup,Sem.run_bind,run_under hu,Result.andThen_ok,MapKept.run_getObj_map q1,Sem.run_pure,hk.chk a _ _ _ _ g2,f1]
   simp
theorem S_setK {g:Nat} {n1 n2:Bool} {a:κ} {b:β} {es:List (κ×β)} {kt' et':TypeId} (hu:P.underlying t=some (.map kt et)) [hk:KeyI P kt f c]
  (h1:e x = .mp g) (hmg:m.at g = .mapb kt' et' (mapK f h es)) (h2:asV m (e y)=some (n1,.agg (f a))) (h3:e z = .dat n2 (h b)) (hf:Flat (h b)) (hnew:lookK es a=none) :
  SStep P ⟨none,.mapUpdate t x y z,ty,pos,af,gd⟩ e m (g::refs m (e y)) .any [(g,.mapb kt' et' (mapK f h (es++[(a,b)])))]:=by
 intro C m' ac next Q hag hh hx hn
 have g1:=hx x (by simp[Op.operands]);rw[h1]at g1
 have g2:RdF C false (.agg (f a)) (ac.eval y):=(asV_ok hh (fun g' hg'=>hag g' (.inl (by simp[hg']))) h2 (hx y (by simp[Op.operands]))).weak hh
 have g3:RdF C n2 (h b) (ac.eval z):=by have:=hx z (by simp[Op.operands]);rwa[h3]at this
 obtain⟨kt1,et1,es1,b1,hat,hi,hv⟩:=g1
 have hmg':m'.at g = .mapb kt' et' (mapK f h es):=(hag g (.inl (by simp))).trans hmg
 have hbx:=hh.box g
 rw[hmg']at hbx
 obtain⟨b',hi',ents,clock,q1,q2,q3,q4⟩:=hbx
 rw[hi]at hi'
 injection hi' with hi'
 subst hi'
 rcases run_findKeyA (hk:=hk) g2 q2 q4 with⟨f1,_⟩|⟨j,v,b2,_,f2,_⟩
 case inr=>rw[f2]at hnew;cases hnew
 let w':World := { C.w with heap:=C.w.heap.setIfInBounds b1 (.map (ents.push { key:=ac.eval y,val:=ac.eval z,born:=clock }) (clock+1)) }
 have hset:=MapKept.heap_set (o' := .map (ents.push { key:=ac.eval y,val:=ac.eval z,born:=clock }) (clock+1)) q1
 have hst:Step C m' { C with w:=w' } ((g,.mapb kt' et' (mapK f h (es++[(a,b)])))::m'):=by
  refine Step.write hh (by rw[hmg'];rfl) hi rfl rfl rfl (by simp[w']) (fun k hk=>hset.2 k hk) ?_ ?_ ?_ ?_ (fun hd _=>?_)
  ·rintro v0 lo0 len0 u ⟨_,_,_,_,_,h,_⟩;rw[hmg']at h;cases h
  ·rintro off v ⟨_,_,_,_,h,_⟩;rw[hmg']at h;cases h
  ·rintro v0 i0 off0 u ⟨_,_,_,_,_,h,_⟩;rw[hmg']at h;cases h
  ·rintro v ⟨kt1,et1,es1,b2,h,hi2,hv2⟩
   exact⟨kt',et',_,b2,Mem.at_cons_same _ _ _,hi2,hv2⟩
  ·refine ⟨b1,rfl,_,_,hset.1,by simp[mapK,q2],by simp[mapK,q3],fun i p e' h1 h2=>?_⟩
   have hsz:ents.size=es.length:=by simpa[mapK]using q2
   have hcl:clock=es.length:=by simpa[mapK]using q3
   by_cases hlt:i<es.length
   ·have h1':(mapK f h es)[i]? = some p:=by
     rw[mapK,List.map_append]at h1
     rw[List.getElem?_append_left (by simpa using hlt)]at h1
     exact h1
    have h2':ents[i]? = some e':=by
     rw[Array.getElem?_push_lt (by omega)]at h2
     rw[←h2];exact Array.getElem?_eq_getElem _
    obtain⟨r1,r2,r3⟩:=q4 i p e' h1' h2'
    exact⟨Rd.mono r1 (fun _ h=>h) (fun _ h=>h.elim),Rd.mono r2 (fun _ h=>h) (fun _ h=>h.elim),r3⟩
   ·have hi3:i=es.length:=by
     have:=(List.getElem?_eq_some_iff.1 h1).1
     simp[mapK]at this
     omega
    subst hi3
    have hp:p=(.agg (f a),h b):=by
     simp[mapK]at h1
     exact h1.symm
    have he:e' = { key:=ac.eval y,val:=ac.eval z,born:=clock }:=by
     rw[←hsz,Array.getElem?_push_size]at h2
     injection h2 with h2
     exact h2.symm
    subst hp he
    exact⟨Rd.flat g2 (hk.flat a),Rd.flat g3 hf,hcl⟩
 refine wp_of_skip (w':=w') ?_ (hn undef _ hst trivial)
 simp[execOp,hv,Instr.mapUpdate,run_under hu,MapKept.run_getObj_map q1,hk.chk a _ _ _ _ g2,f1,MapKept.run_setObj_map _ q1,Result.andThen,w']
end
end Go.Proofs.YtcdhlofhhcgohaaGreat
namespace Go.Proofs.YtcdhlofhhcgohaaGreat
open Go.RowKit
def intV1 (x:Int):List V := [.int .i64 x]
instance : CellsI intV1 1:=⟨fun _=>rfl,fun _ d h=>by simp[intV1]at h;subst h;rfl⟩
instance : FlatI intV1:=⟨fun _ d h=>by simp[intV1]at h;subst h;exact .int _ _⟩
structure Bridge where
 addr:Int
 prios:List Int
 region:Region
def bridgeV (b:Bridge):List V := [.int .u64 b.addr,.slice (b.prios.map intV1),.str b.region.name,.int .i64 b.region.rev,.slice (b.region.ways.map wayV)]
instance : CellsI bridgeV 5:=⟨fun _=>rfl,fun t d h=>by
 simp only[bridgeV,List.mem_cons,List.mem_nil_iff,or_false]at h
 rcases h with rfl|rfl|rfl|rfl|rfl<;>rfl⟩
structure Link where
 a:Int
 pa:Int
 b:Int
 pb:Int
 cost:Int
 up:Bool
def linkV (l:Link):List V := [.int .i64 l.a,.int .i64 l.pa,.int .i64 l.b,.int .i64 l.pb,.int .i64 l.cost,.bool l.up]
instance : CellsI linkV 6:=⟨fun _=>rfl,fun t d h=>by
 simp only[linkV,List.mem_cons,List.mem_nil_iff,or_false]at h
 rcases h with rfl|rfl|rfl|rfl|rfl|rfl<;>rfl⟩
instance : FlatI linkV:=⟨fun t d h=>by
 simp only[linkV,List.mem_cons,List.mem_nil_iff,or_false]at h
 rcases h with rfl|rfl|rfl|rfl|rfl|rfl<;>first|exact .int _ _|exact .bool _⟩
structure Net where
 bridges:List Bridge
 links:List Link
def Net.cells (n:Net):List V := [.slice (n.bridges.map bridgeV),.slice (n.links.map linkV)]
def Net.v (n:Net):V := .agg n.cells
def faultV (p:Int×Nat):V := .agg [.int .i64 p.1,.int .i64 p.2]
def prioBad (p:Int):Prop:=p<0∨61440<p∨p.tmod 4096≠0
instance (p : Int):Decidable (prioBad p):=by unfold prioBad;infer_instance
def Bridge.wrong (b:Bridge):Int:=if 281474976710655<b.addr then 3 else if 16<b.prios.length then 5 else if b.prios.any (fun p=>decide (prioBad p))then 3 else b.region.wrong
def Link.wrong (k:Nat) (l:Link):Int :=
 if l.a<0∨(k:Int)≤l.a∨l.b<0∨(k:Int)≤l.b then 6 else if l.a=l.b then 8
 else if l.pa<1∨30<l.pa∨l.pb<1∨30<l.pb∨l.cost<1∨200000<l.cost then 3 else 0
def wrongBr (seen:List Bridge) (i:Nat):List Bridge→Option (Int×Nat)
 | []=>none
 | b::r=>if b.wrong≠0 then some (b.wrong,i)else if seen.any (fun o=>decide (o.addr=b.addr))then some (7,i)else wrongBr (seen++[b]) (i+1) r
def wrongLk (k:Nat) (had:List (Int×Int)) (i:Nat):List Link→Option (Int×Nat)
 | []=>none
 | l::r=>if l.wrong k≠0 then some (l.wrong k,i)else if(l.a,l.pa)∈had then some (7,i)else if(l.b,l.pb)∈had++[(l.a,l.pa)]then some (7,i)else wrongLk k (had++[(l.a,l.pa)]++[(l.b,l.pb)]) (i+1) r
def Net.wrong (n:Net):Int×Nat :=
 if 12<n.bridges.length∨40<n.links.length then(5,0)else
 match wrongBr [] 0 n.bridges with
 | some f=>f
 | none=>(wrongLk n.bridges.length [] 0 n.links).getD (0,0)
def portV (p:Int×Int):List V := [.int .i64 p.1,.int .i64 p.2]
end Go.Proofs.YtcdhlofhhcgohaaGreat
namespace Go.Proofs.YtcdhlofhhcgohaaGreat
open Go.RowKit
inductive Lnd (m:Mem):D→V→Prop
 | asb {d:D} {x:V} (h:asB m d=some x):Lnd m d x
 | sl {g n sz:Nat} {frz nw:Bool} {cs:List D} {xs:List (List V)} (dc:Nat→Nat→D) (hm:m.at g = .cells frz nw cs) (hn:n=xs.length) (hsz:∀ (i:Nat) (e:List V),xs[i]? = some e→e.length=sz)
   (h1:∀ (i j:Nat) (e:List V) (x:V),xs[i]? = some e→e[j]? = some x→x.one=true) (hc:∀ (i j:Nat) (e:List V) (x:V),xs[i]? = some e→e[j]? = some x→cs[i*sz+j]? = some (dc i j))
   (hl:∀ (i j:Nat) (e:List V) (x:V),xs[i]? = some e→e[j]? = some x→Lnd m (dc i j) x):Lnd m (.sl g n) (.slice xs)
 | ptr {g off:Nat} {frz nw:Bool} {cs:List D} {xs:List V} (dc:Nat→D) (hm:m.at g = .cells frz nw cs) (h1:∀ (j:Nat) (x:V),xs[j]? = some x→x.one=true)
   (hc:∀ (j:Nat) (x:V),xs[j]? = some x→cs[off+j]? = some (dc j)) (hl:∀ (j:Nat) (x:V),xs[j]? = some x→Lnd m (dc j) x):Lnd m (.ptr g off) (.rp xs)
 | aggd {cs:List D} {xs:List V} (hn:cs.length=xs.length) (hl:∀ (j:Nat) (d:D) (x:V),cs[j]? = some d→xs[j]? = some x→Lnd m d x):Lnd m (.aggd cs) (.agg xs)
theorem Lnd.ok {C:Cf} {m:Mem} (hm:HoldsM C m) {d:D} {x:V} (h:Lnd m d x):∀ {v:Value},RdD C m d v→Rd (C.lent m) C.w x v:=by
 induction h with
 | asb h=>intro v hv;exact asB_ok hm h hv
 | @sl g n sz frz nw cs xs dc hg hn hsz h1 hc hl ih =>
  intro v hv
  have hv:RdS C m (.sl g n) v:=hv
  obtain⟨frz',nw',cs',b,cap,e1,hi,rfl,hle,hmx⟩:=hv
  have hb:=hm.box g
  rw[hg]at hb
  obtain⟨b',hi',arr,T,fz,k1,k2,k3,k4,k5⟩:=hb
  rw[hi]at hi'
  injection hi' with hi'
  subst hi' hn
  have key:∀ (i j:Nat) (e:List V) (x:V),xs[i]? = some e→e[j]? = some x→arr[i*sz+j]? = some (arr.getD (i*sz+j) undef)∧Rd (C.lent m) C.w x (arr.getD (i*sz+j) undef):=by
   intro i j e x hx hj
   have hd:=hc i j e x hx hj
   have hlt:i*sz+j<arr.size:=by have:=(List.getElem?_eq_some_iff.1 hd).1;omega
   have ha:arr[i*sz+j]? = some (arr.getD (i*sz+j) undef):=by simp[hlt]
   exact⟨ha,ih i j e x hx hj (k4 _ _ _ hd ha).rd⟩
  refine Rd.slice xs b 0 cap sz (fun i j=>arr.getD (i*sz+j) undef) hle hmx hsz h1 (fun _=>.inr ⟨g,by rw[hg];simp,hi⟩) (fun i j e d q1 q2=>?_) (fun i j e d q1 q2=>(key i j e d q1 q2).2)
  rw[Nat.zero_add,cell_of_arr k1]
  exact(key i j e d q1 q2).1
 | @ptr g off frz nw cs xs dc hg h1 hc hl ih =>
  intro v hv
  have hv:RdS C m (.ptr g off) v:=hv
  obtain⟨frz',nw',cs',b,e1,hi,rfl⟩:=hv
  have hb:=hm.box g
  rw[hg]at hb
  obtain⟨b',hi',arr,T,fz,k1,k2,k3,k4,k5⟩:=hb
  rw[hi]at hi'
  injection hi' with hi'
  subst hi'
  have key:∀ (j:Nat) (x:V),xs[j]? = some x→arr[off+j]? = some (arr.getD (off+j) undef)∧Rd (C.lent m) C.w x (arr.getD (off+j) undef):=by
   intro j x hj
   have hd:=hc j x hj
   have hlt:off+j<arr.size:=by have:=(List.getElem?_eq_some_iff.1 hd).1;omega
   have ha:arr[off+j]? = some (arr.getD (off+j) undef):=by simp[hlt]
   exact⟨ha,ih j x hj (k4 _ _ _ hd ha).rd⟩
  refine Rd.rp xs b off (fun j=>arr.getD (off+j) undef) h1 (.inr ⟨g,by rw[hg];simp,hi⟩) (fun j d q=>?_) (fun j d q=>(key j d q).2)
  rw[cell_of_arr k1]
  exact(key j d q).1
 | @aggd cs xs hn hl ih =>
  intro v hv
  obtain⟨vs,rfl,hsz,hr⟩:=hv
  refine Rd.agg xs vs (by omega) (fun j x c hx hcv=>?_)
  have hj:j<cs.length:=by have:=(List.getElem?_eq_some_iff.1 hx).1;omega
  exact ih j cs[j] x (List.getElem?_eq_getElem hj) hx (hr j _ c (List.getElem?_eq_getElem hj) hcv).rd
def LndL (m:Mem):List D→List V→Prop
 | [],[]=>True
 | d::r,x::s=>Lnd m d x∧LndL m r s
 | _,_=>False
theorem LndL.get {m:Mem}:∀ {ds:List D} {xs:List V},LndL m ds xs→ds.length=xs.length∧∀ (j:Nat) d x,ds[j]? = some d→xs[j]? = some x→Lnd m d x
 | [],[],_=>⟨rfl,by simp⟩
 | d::r,x::s,h=>by
  obtain⟨h1,h2⟩:=LndL.get h.2
  refine⟨by simp[h1],fun j d' x' a b=>?_⟩
  cases j with
  | zero =>
   simp only[List.getElem?_cons_zero,Option.some.injEq]at a b
   subst a b;exact h.1
  | succ j=>exact h2 j d' x' (by simpa using a) (by simpa using b)
 | [],_::_,h=>h.elim
 | _::_,[],h=>h.elim
section
variable {P : Program} {e : Operand → D} {m : Mem} {dst : Option Tmp} {ty : TypeId} {pos : String} {af : Array Edge} {gd : Option (Nat × Bool)}
theorem S_callL {f:FuncId} {args:Array Operand} {ats:Array TypeId} {ds:List V} {r:V} (rd:List Nat) (hc:FnF P f ds r) (ha:∀ m':Mem,(∀ g,g∈rd→m'.at g=m.at g)→LndL m' (args.toList.map e) ds) :
  SStep P ⟨dst,.call { callee := .value (.func f),args:=args,argTypes:=ats },ty,pos,af,gd⟩ e m rd (.dat true r) []:=by
 intro C m' a next Q hag hm hx hn
 have hl:=ha m' (fun g hg=>hag g (.inl hg))
 obtain⟨hlen,hall⟩:=hl.get
 have hrun:(execOp a.eval ⟨dst,.call { callee := .value (.func f),args:=args,argTypes:=ats },ty,pos,af,gd⟩).run P C.w = .ok (.enter f (args.map a.eval)) C.w:=by
  have hev:a.eval (.func f) = .func (.func f) #[] #[]:=rfl
  simp only[execOp,resolve,hev,Deferred.ofValue,Sem.run_bind,Sem.run_pure,Result.andThen_ok,invoke,run_callFunc hc.1]
  simp
 obtain⟨_,hc⟩:=hc
 unfold Oper.wp
 rw[hrun]
 show Calls P f (args.map a.eval) C.w _
 have hsd:∀ b,C.lent m' b→b<C.w.heap.size:=by
  rintro b (hb|⟨g,h1,h2⟩)
  ·exact hm.sdom b hb
  ·exact BoxOK.lt hm h1 h2
 have hr:RdL (C.lent m') C.w ds (args.map a.eval):=by
  refine⟨by simpa using hlen,fun j d c hd hcv=>?_⟩
  simp only[Array.getElem?_map,Option.map_eq_some_iff]at hcv
  obtain⟨y,hy,rfl⟩:=hcv
  refine(hall j (e y) d (by rw[List.getElem?_map,Array.getElem?_toList,hy];rfl) hd).ok hm (hx y ?_)
  simp only[Op.operands,Call.operands]
  exact Array.mem_append.2 (.inr (Array.mem_of_getElem? hy))
 refine(hc (C.lent m') C.w (args.map a.eval) hsd hr).mono ?_
 rintro e' w' ⟨v,rfl,hb,hrd⟩
 have hg:Grew C.w w':=⟨hb.os,hb.tape,hb.output,hb.size,hb.block⟩
 have hst:=step_dat (newB C.w w') hm hg (fun k hk=>hk)
 exact hn v _ hst (Rd.mono hrd (fun _ h=>.inr h) (fun _ _=>rfl))
end
end Go.Proofs.YtcdhlofhhcgohaaGreat
