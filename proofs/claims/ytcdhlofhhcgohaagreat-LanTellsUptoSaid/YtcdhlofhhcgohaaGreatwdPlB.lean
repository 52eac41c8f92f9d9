/- Contracts: plan's bridge and link; ContainsFunc at bridges. -/
import Derived.Test.YtcdhlofhhcgohaaGreatwbEq
import Derived.Test.YtcdhlofhhcgohaaGreatwbMap
namespace Go.Proofs.YtcdhlofhhcgohaaGreat
open Go.RowKit
class KeyI (P:Program) (kt:TypeId) {κ:Type} [DecidableEq κ] (f:κ→List V) (c:outParam (List Nat)):Prop where
 q:EqI P kt c
 codes:∀ a,(f a).map V.code=c
 eq:∀ a b,eqL (f a) (f b)=some (decide (a=b))
 chk:∀ (a:κ) (S:Nat→Prop) (e:Bool) (w:World) (v:Value),Rd S w (.agg (f a)) v→(Instr.checkKey e 10000 kt v).run P w = .ok () w
 flat:∀ a,Flat (.agg (f a))
 now:∃ d,P.underlying kt=some d∧∀ x y,Instr.sameNow d (.agg x) y=none
def mapK {κ β:Type} (f:κ→List V) (h:β→V) (es:List (κ×β)):List (V×V):=es.map fun p=>(.agg (f p.1),h p.2)
def zfv {κ β:Type} [DecidableEq κ] (es:List (κ×β)) (a:κ):Option β:=(es.find? (fun p=>decide (a=p.1))).map (·.2)
section
variable {P : Program} {κ β : Type} [DecidableEq κ] {f : κ → List V} {h : β → V} {c : List Nat} {kt et : TypeId}
theorem zew {C:Cf} {k:Value} {a:κ} [hk:KeyI P kt f c] (hka:RdF C false (.agg (f a)) k):∀ (es:List (κ×β)) (l:List MapEntry) (i:Nat),l.length=es.length →
  (∀ (j:Nat) p q,es[j]? = some p→l[j]? = some q→RdF C false (.agg (f p.1)) q.key∧RdF C true (h p.2) q.val) →
  ((Instr.findAsking kt k l i).run P C.w = .ok none C.w∧zfv es a=none)∨∃ j v b,(Instr.findAsking kt k l i).run P C.w = .ok (some (j,v)) C.w∧zfv es a=some b∧RdF C true (h b) v
 | [],[],i,_,_=>.inl ⟨by simp[Instr.findAsking],rfl⟩
 | p::es,q::l,i,hl,hh=>by
  obtain⟨h1,h2⟩:=hh 0 p q rfl rfl
  obtain⟨_,_,_,_,he0⟩:=zoD (t:=kt) (hq:=hk.q) hka h1 (hk.codes a) (hk.codes p.1) (hk.eq a p.1)
  have he:(Op.equal kt k q.key).run P C.w = .ok (decide (a=p.1)) C.w:=he0
  by_cases hap:a=p.1
  ·refine .inr ⟨i,q.val,p.2,?_,?_,h2⟩
   ·simp only[Instr.findAsking,Sem.run_bind,he,Result.andThen_ok,hap,decide_true,if_true,Sem.run_pure]
   ·unfold zfv
    rw[List.find?_cons_of_pos (by simpa using hap)];rfl
  ·have hs:(Instr.findAsking kt k (q::l) i).run P C.w=(Instr.findAsking kt k l (i+1)).run P C.w:=by
    simp only[Instr.findAsking,Sem.run_bind,he,Result.andThen_ok,decide_eq_false hap,Bool.false_eq_true,if_false]
   have hlk:zfv (p::es) a=zfv es a:=by
    unfold zfv
    rw[List.find?_cons_of_neg (by simpa using hap)]
   rw[hs,hlk]
   exact zew hka es l (i+1) (by simpa using hl) (fun j p' q' hp hq=>hh (j+1) p' q' hp hq)
theorem zfW {C:Cf} {k:Value} {a:κ} [hk:KeyI P kt f c] (hka:RdF C false (.agg (f a)) k) {es:List (κ×β)} {ents:Array MapEntry} (hl:ents.size=(mapK f h es).length)
  (hh:∀ (i:Nat) p e,(mapK f h es)[i]? = some p→ents[i]? = some e→Rd (fun _=>False) C.w p.1 e.key∧Rd (fun _=>False) C.w p.2 e.val∧e.born=i) :
  ((Instr.findKey kt k ents.toList).run P C.w = .ok none C.w∧zfv es a=none)∨∃ j v b,(Instr.findKey kt k ents.toList).run P C.w = .ok (some (j,v)) C.w∧zfv es a=some b∧RdF C true (h b) v:=by
 have hent:∀ (j:Nat) p q,es[j]? = some p→ents.toList[j]? = some q→RdF C false (.agg (f p.1)) q.key∧RdF C true (h p.2) q.val:=fun j p q hp hq=>by
  obtain⟨h1,h2,_⟩:=hh j (.agg (f p.1),h p.2) q (by simp[mapK,hp]) (by simpa using hq)
  exact⟨Rd.mono h1 (fun _ h=>h.elim) (fun _ _=>rfl),Rd.mono h2 (fun _ h=>h.elim) (fun _ _=>rfl)⟩
 have hll:ents.toList.length=es.length:=by simpa[mapK]using hl
 obtain⟨d,hd,hnow⟩:=hk.now
 have hkv:∃ vs,k = .agg vs:=by cases hka with|agg _ vs _ _=>exact⟨vs,rfl⟩
 obtain⟨vs,rfl⟩:=hkv
 cases hes:ents.toList with
 | nil =>
  have he0:es=[]:=List.length_eq_zero_iff.1 (by rw[←hll,hes];rfl)
  subst he0
  refine .inl ⟨?_,rfl⟩
  simp[Instr.findKey,zao hd,Instr.findNow]
 | cons e r =>
  have hfn:Instr.findNow d (.agg vs) (e::r) 0=none:=by rw[Instr.findNow,hnow]
  have hfk:(Instr.findKey kt (.agg vs) (e::r)).run P C.w=(Instr.findAsking kt (.agg vs) (e::r) 0).run P C.w:=by
   simp[Instr.findKey,zao hd,hfn]
  rw[hfk,←hes]
  exact zew hka es ents.toList 0 hll hent
end
section
variable {P : Program} {e : Operand → D} {m : Mem} {dst : Option Tmp} {ty : TypeId} {pos : String} {af : Array Edge} {gd : Option (Nat × Bool)} {x y z : Operand} {t kt et : TypeId}
 {κ β:Type} [DecidableEq κ] {f:κ→List V} {h:β→V} {c:List Nat}
omit [DecidableEq κ] in
theorem zmx (f:κ→List V) (h:β→V) (g:Nat) (hg:m.at g = .gone):SStep P ⟨dst,.makeMap t none,ty,pos,af,gd⟩ e m [] (.mp g) [(g,.mapb kt et (mapK f h []))]:=zsJ (k := .i64) (k' := .i64) g hg
theorem zoK {g:Nat} {kt' et':TypeId} {n:Bool} {a:κ} {b0:β} {es:List (κ×β)} {by_:Nat} {zv:V} (hu:P.underlying t=some (.map kt et)) [hk:KeyI P kt f c] [hz:TyI P et false 1 by_ [zv]] (hz0:h b0=zv)
  (h1:e x = .mp g) (hmg:m.at g = .mapb kt' et' (mapK f h es)) (h2:asV m (e y)=some (n,.agg (f a))) :
  SStep P ⟨dst,.lookup t x y false,ty,pos,af,gd⟩ e m (g::refs m (e y)) (.dat true (h ((zfv es a).getD b0))) [] :=
 .pure fun C m' ac ha hh hx=>by
  have g1:=hx x (by simp[Op.operands]);rw[h1]at g1
  have g2:RdF C false (.agg (f a)) (ac.eval y):=(zcF hh (fun g' hg'=>ha g' (by simp[hg'])) h2 (hx y (by simp[Op.operands]))).weak hh
  obtain⟨kt1,et1,es1,b,hat,hi,hv⟩:=g1
  have hat':=hat
  rw[ha g (by simp),hmg]at hat
  injection hat with e1 e2 e3
  subst e1 e2 e3
  have hb:=hh.box g
  rw[hat']at hb
  obtain⟨b',hi',ents,clock,q1,q2,q3,q4⟩:=hb
  rw[hi]at hi'
  injection hi' with hi'
  subst hi'
  rcases zfW (hk:=hk) g2 q2 q4 with⟨f1,f2⟩|⟨j,v,b1,f1,f2,f3⟩
  ·rw[f2]
   have hzv:=zef hz C.w
   have hzc:=hz.zc
   simp only[List.all_cons,List.all_nil,Bool.and_true]at hzc
   refine⟨zv.val,?_,?_⟩
   ·simp only[execOp,hv,Instr.lookup,Sem.run_bind,zao hu,Result.andThen_ok,MapKept.run_getObj_map q1,Sem.run_pure,hk.chk a _ _ _ _ g2,f1]
    simp[hzv,zval]
   ·rw[Option.getD_none,hz0]
    exact zof hzc
  ·rw[f2]
   refine⟨v,?_,f3⟩
   simp only[execOp,hv,Instr.lookup,Sem.run_bind,zao hu,Result.andThen_ok,MapKept.run_getObj_map q1,Sem.run_pure,hk.chk a _ _ _ _ g2,f1]
   simp
theorem ztC {g:Nat} {n1 n2:Bool} {a:κ} {b:β} {es:List (κ×β)} {kt' et':TypeId} (hu:P.underlying t=some (.map kt et)) [hk:KeyI P kt f c]
  (h1:e x = .mp g) (hmg:m.at g = .mapb kt' et' (mapK f h es)) (h2:asV m (e y)=some (n1,.agg (f a))) (h3:e z = .dat n2 (h b)) (hf:Flat (h b)) (hnew:zfv es a=none) :
  SStep P ⟨none,.mapUpdate t x y z,ty,pos,af,gd⟩ e m (g::refs m (e y)) .any [(g,.mapb kt' et' (mapK f h (es++[(a,b)])))]:=by
 intro C m' ac next Q hag hh hx hn
 have g1:=hx x (by simp[Op.operands]);rw[h1]at g1
 have g2:RdF C false (.agg (f a)) (ac.eval y):=(zcF hh (fun g' hg'=>hag g' (.inl (by simp[hg']))) h2 (hx y (by simp[Op.operands]))).weak hh
 have g3:RdF C n2 (h b) (ac.eval z):=by have:=hx z (by simp[Op.operands]);rwa[h3]at this
 obtain⟨kt1,et1,es1,b1,hat,hi,hv⟩:=g1
 have hmg':m'.at g = .mapb kt' et' (mapK f h es):=(hag g (.inl (by simp))).trans hmg
 have hbx:=hh.box g
 rw[hmg']at hbx
 obtain⟨b',hi',ents,clock,q1,q2,q3,q4⟩:=hbx
 rw[hi]at hi'
 injection hi' with hi'
 subst hi'
 rcases zfW (hk:=hk) g2 q2 q4 with⟨f1,_⟩|⟨j,v,b2,_,f2,_⟩
 case inr=>rw[f2]at hnew;cases hnew
 let w':World := { C.w with heap:=C.w.heap.setIfInBounds b1 (.map (ents.push { key:=ac.eval y,val:=ac.eval z,born:=clock }) (clock+1)) }
 have hset:=MapKept.heap_set (o' := .map (ents.push { key:=ac.eval y,val:=ac.eval z,born:=clock }) (clock+1)) q1
 have hst:Step C m' { C with w:=w' } ((g,.mapb kt' et' (mapK f h (es++[(a,b)])))::m'):=by
  refine Step.write hh (by rw[hmg'];rfl) hi rfl rfl rfl (by simp[w']) (fun k hk=>hset.2 k hk) ?_ ?_ ?_ ?_ (fun hd _=>?_)
  ·rintro v0 lo0 len0 u ⟨_,_,_,_,_,h,_⟩;rw[hmg']at h;cases h
  ·rintro off v ⟨_,_,_,_,h,_⟩;rw[hmg']at h;cases h
  ·rintro v0 i0 off0 u ⟨_,_,_,_,_,h,_⟩;rw[hmg']at h;cases h
  ·rintro v ⟨kt1,et1,es1,b2,h,hi2,hv2⟩
   exact⟨kt',et',_,b2,Mem.at_cons_same _ _ _,hi2,hv2⟩
  ·refine ⟨b1,rfl,_,_,hset.1,by simp[mapK,q2],by simp[mapK,q3],fun i p e' h1 h2=>?_⟩
   have hsz:ents.size=es.length:=by simpa[mapK]using q2
   have hcl:clock=es.length:=by simpa[mapK]using q3
   by_cases hlt:i<es.length
   ·have h1':(mapK f h es)[i]? = some p:=by
     rw[mapK,List.map_append]at h1
     rw[List.getElem?_append_left (by simpa using hlt)]at h1
     exact h1
    have h2':ents[i]? = some e':=by
     rw[Array.getElem?_push_lt (by omega)]at h2
     rw[←h2];exact Array.getElem?_eq_getElem _
    obtain⟨r1,r2,r3⟩:=q4 i p e' h1' h2'
    exact⟨Rd.mono r1 (fun _ h=>h) (fun _ h=>h.elim),Rd.mono r2 (fun _ h=>h) (fun _ h=>h.elim),r3⟩
   ·have hi3:i=es.length:=by
     have:=(List.getElem?_eq_some_iff.1 h1).1
     simp[mapK]at this
     omega
    subst hi3
    have hp:p=(.agg (f a),h b):=by
     simp[mapK]at h1
     exact h1.symm
    have he:e' = { key:=ac.eval y,val:=ac.eval z,born:=clock }:=by
     rw[←hsz,Array.getElem?_push_size]at h2
     injection h2 with h2
     exact h2.symm
    subst hp he
    exact⟨Rd.flat g2 (hk.flat a),Rd.flat g3 hf,hcl⟩
 refine zfn (w':=w') ?_ (hn undef _ hst trivial)
 simp[execOp,hv,Instr.mapUpdate,zao hu,MapKept.run_getObj_map q1,hk.chk a _ _ _ _ g2,f1,MapKept.run_setObj_map _ q1,Result.andThen,w']
end
end Go.Proofs.YtcdhlofhhcgohaaGreat
namespace Go.Proofs.YtcdhlofhhcgohaaGreat
open Go.RowKit
def zad (x:Int):List V := [.int .i64 x]
instance : CellsI zad 1:=⟨fun _=>rfl,fun _ d h=>by simp[zad]at h;subst h;rfl⟩
instance : FlatI zad:=⟨fun _ d h=>by simp[zad]at h;subst h;exact .int _ _⟩
structure Bridge where
 addr:Int
 prios:List Int
 region:Region
def zaj (b:Bridge):List V := [.int .u64 b.addr,.slice (b.prios.map zad),.str b.region.name,.int .i64 b.region.rev,.slice (b.region.ways.map wayV)]
instance : CellsI zaj 5:=⟨fun _=>rfl,fun t d h=>by
 simp only[zaj,List.mem_cons,List.mem_nil_iff,or_false]at h
 rcases h with rfl|rfl|rfl|rfl|rfl<;>rfl⟩
structure Link where
 a:Int
 pa:Int
 b:Int
 pb:Int
 cost:Int
 up:Bool
def zar (l:Link):List V := [.int .i64 l.a,.int .i64 l.pa,.int .i64 l.b,.int .i64 l.pb,.int .i64 l.cost,.bool l.up]
instance : CellsI zar 6:=⟨fun _=>rfl,fun t d h=>by
 simp only[zar,List.mem_cons,List.mem_nil_iff,or_false]at h
 rcases h with rfl|rfl|rfl|rfl|rfl|rfl<;>rfl⟩
instance : FlatI zar:=⟨fun t d h=>by
 simp only[zar,List.mem_cons,List.mem_nil_iff,or_false]at h
 rcases h with rfl|rfl|rfl|rfl|rfl|rfl<;>first|exact .int _ _|exact .bool _⟩
structure Net where
 bridges:List Bridge
 links:List Link
def Net.cells (n:Net):List V := [.slice (n.bridges.map zaj),.slice (n.links.map zar)]
def Net.v (n:Net):V := .agg n.cells
def zb1 (p:Int×Nat):V := .agg [.int .i64 p.1,.int .i64 p.2]
def zbh (p:Int):Prop:=p<0∨61440<p∨p.tmod 4096≠0
instance (p : Int):Decidable (zbh p):=by unfold zbh;infer_instance
def Bridge.wrong (b:Bridge):Int:=if 281474976710655<b.addr then 3 else if 16<b.prios.length then 5 else if b.prios.any (fun p=>decide (zbh p))then 3 else b.region.wrong
def Link.wrong (k:Nat) (l:Link):Int :=
 if l.a<0∨(k:Int)≤l.a∨l.b<0∨(k:Int)≤l.b then 6 else if l.a=l.b then 8
 else if l.pa<1∨30<l.pa∨l.pb<1∨30<l.pb∨l.cost<1∨200000<l.cost then 3 else 0
def zbk (seen:List Bridge) (i:Nat):List Bridge→Option (Int×Nat)
 | []=>none
 | b::r=>if b.wrong≠0 then some (b.wrong,i)else if seen.any (fun o=>decide (o.addr=b.addr))then some (7,i)else zbk (seen++[b]) (i+1) r
def za0 (k:Nat) (had:List (Int×Int)) (i:Nat):List Link→Option (Int×Nat)
 | []=>none
 | l::r=>if l.wrong k≠0 then some (l.wrong k,i)else if(l.a,l.pa)∈had then some (7,i)else if(l.b,l.pb)∈had++[(l.a,l.pa)]then some (7,i)else za0 k (had++[(l.a,l.pa)]++[(l.b,l.pb)]) (i+1) r
def Net.wrong (n:Net):Int×Nat :=
 if 12<n.bridges.length∨40<n.links.length then(5,0)else
 match zbk [] 0 n.bridges with
 | some f=>f
 | none=>(za0 n.bridges.length [] 0 n.links).getD (0,0)
def zbD (p:Int×Int):List V := [.int .i64 p.1,.int .i64 p.2]
instance : CellsI zbD 2:=⟨fun _=>rfl,fun t d h=>by
 simp only[zbD,List.mem_cons,List.mem_nil_iff,or_false]at h
 rcases h with rfl|rfl<;>rfl⟩
end Go.Proofs.YtcdhlofhhcgohaaGreat
namespace Go.Proofs.YtcdhlofhhcgohaaGreat
open Go.RowKit
attribute [local irreducible] SStep DW DWin DOps zaG zaE zaJ retQ zaN FnF FnG Wk IntKind.wrap IntKind.andI IntKind.orI IntKind.xorI IntKind.andNotI IntKind.shlI IntKind.shrI Region.wrong
set_option maxHeartbeats 2000000 in
theorem zeM (b:Bridge) (hl:b.region.ways.length≤9223372036854775807):FnF Tryz.prog 85 [.rp (zaj b)] (.int .i64 b.wrong):=by
 refine zal Tryz.func85 rfl rfl rfl ?_
 simp only[zap]
 have hr:=zfV b.region hl
 have hml:(b.prios.map zad).length=b.prios.length:=by simp
 by_cases h1:281474976710655<b.addr
 ·repeat' (first|refine qU ?_|((first|apply dX rfl|apply Da rfl rfl|apply Db rfl rfl qN);(focus ((try intro hg);first|exact zab (zbr rfl rfl) (decide_eq_true h1)|exact qM));constructor)|refine qP ?_)
  refine ret1 rfl (.inl rfl) ?_
  unfold Bridge.wrong
  rw[if_pos h1]
 by_cases h2:16<b.prios.length
 ·repeat' (first|refine qU ?_|((first|apply dX rfl|apply Da rfl rfl|apply Db rfl rfl qN);(focus ((try intro hg);first|exact zab (zbr rfl rfl) (decide_eq_false h1)|exact zab (zbr rfl rfl) (decide_eq_true (by omega:(16:Int)<((b.prios.map zad).length:Int)))|exact qM));constructor)|refine qP ?_)
  refine ret1 rfl (.inl rfl) ?_
  unfold Bridge.wrong
  rw[if_neg h1,if_pos h2]
 have hw:b.wrong=if b.prios.any (fun p=>decide (zbh p))then 3 else b.region.wrong:=by unfold Bridge.wrong;rw[if_neg h1,if_neg h2]
 repeat' (first|refine qU ?_|((first|apply dX rfl|apply Da rfl rfl|apply Db rfl rfl qN);(focus ((try intro hg);first|exact zab (zbr rfl rfl) (decide_eq_false h1)|exact zab (zbr rfl rfl) (decide_eq_false (by omega:¬(16:Int)<((b.prios.map zad).length:Int)))|exact qM));constructor)|refine qP ?_)
 refine zag (fun k:Nat=>⟨[(0,.dat false (.rp (zaj b))),(19,.dat false (.slice (b.prios.map zad))),(20,.dat true (.int .i64 (b.prios.map zad).length)),(21,.dat true (.int .i64 k))],[],42⟩)
  (fun k=>k≤b.prios.length∧b.prios.any (fun p=>decide (zbh p))=(b.prios.drop k).any (fun p=>decide (zbh p))) (fun k=>b.prios.length-k) 0 ⟨Nat.zero_le _,rfl⟩
  (Wk_g some rfl rfl kq) (fun k hR=>?_)
 obtain⟨hk,ha⟩:=hR
 by_cases hlt:k<b.prios.length
 ·have hx:b.prios[(k:Int).toNat]? = some b.prios[k]:=by simp[hlt]
  have hn:b.prios.drop k=b.prios[k]::b.prios.drop (k+1):=List.drop_eq_getElem_cons hlt
  generalize b.prios[k]=p at hx hn
  rw[hn,List.any_cons]at ha
  repeat' (first|refine qU ?_|refine zat rfl (fun hb=>?_) (fun hb=>?_)|((first|apply dX rfl|apply Da rfl rfl|apply Db rfl rfl qN);(focus ((try intro hg);first|exact zab (zam rfl rfl) (decide_eq_true (by omega:(k:Int)<((b.prios.map zad).length:Int)))|exact zaf rfl rfl (by omega) hx|exact qM));constructor)|refine qP ?_)
  ·refine ret1 rfl (.inl rfl) ?_
   simp only[Bool.or_eq_true,decide_eq_true_eq]at hb
   have hp:zbh p:=by unfold zbh;simp at hb;omega
   rw[hw,ha,decide_eq_true hp];rfl
  ·simp only[Bool.or_eq_false_iff,decide_eq_false_iff_not]at hb
   have hp:¬zbh p:=by unfold zbh;simp at hb;omega
   exact zaa (k+1) ⟨hlt,by rw[ha,decide_eq_false hp];rfl⟩ (by omega) (Wk_g some rfl rfl kq)
 ·rw[List.drop_eq_nil_of_le (by omega)]at ha
  repeat' (first|refine qU ?_|((first|apply dX rfl|apply Da rfl rfl|apply Db rfl rfl qN);(focus ((try intro hg);first|exact zab (zam rfl rfl) (decide_eq_false (by omega:¬(k:Int)<((b.prios.map zad).length:Int)))|exact zac hr rfl|exact qM));constructor)|refine qP ?_)
  refine ret1 rfl (.inl rfl) ?_
  rw[hw,ha];rfl
set_option maxHeartbeats 4000000 in
theorem ze7 (n:Net) (l:Link):FnF Tryz.prog 88 [.rp n.cells,.rp (zar l)] (.int .i64 (l.wrong n.bridges.length)):=by
 refine zal Tryz.func88 rfl rfl rfl ?_
 simp only[zap]
 have hml:(n.bridges.map zaj).length=n.bridges.length:=by simp
 repeat' (first|refine qU ?_|refine zat rfl (fun hb=>?_) (fun hb=>?_)|((first|apply dX rfl|apply Da rfl rfl|apply Db rfl rfl qN);(focus ((try intro hg);first|exact qM));constructor)|refine qP ?_)
 ·refine ret1 rfl (.inl rfl) ?_
  simp only[Bool.or_eq_true,decide_eq_true_eq]at hb
  unfold Link.wrong
  rw[if_pos (by omega)]
 ·rename_i h1
  refine ret1 rfl (.inl rfl) ?_
  simp only[Bool.or_eq_false_iff,decide_eq_true_eq,decide_eq_false_iff_not]at h1 hb
  unfold Link.wrong
  rw[if_neg (by omega),if_pos (by omega)]
 ·rename_i h1 h2
  refine ret1 rfl (.inl rfl) ?_
  simp only[Bool.or_eq_true,Bool.or_eq_false_iff,decide_eq_true_eq,decide_eq_false_iff_not]at h1 h2 hb
  unfold Link.wrong
  rw[if_neg (by omega),if_neg (by omega),if_pos (by omega)]
 ·rename_i h1 h2
  refine ret1 rfl (.inl rfl) ?_
  simp only[Bool.or_eq_false_iff,decide_eq_false_iff_not]at h1 h2 hb
  unfold Link.wrong
  rw[if_neg (by omega),if_neg (by omega),if_neg (by omega)]
theorem zmy (n:Net) (i:Nat) (b o:Bridge) (hx:n.bridges[i]? = some b):FnF Tryz.prog 87 [.agg (zaj o),.rp n.cells,.rp [.int .i64 i]] (.bool (decide (o.addr=b.addr))):=by
 refine zal Tryz.func87 rfl rfl rfl ?_
 simp only[zap]
 have hx':n.bridges[(i:Int).toNat]? = some b:=hx
 repeat' (first|refine qU ?_|((first|apply dX rfl|apply Da rfl rfl|apply Db rfl rfl qN);(focus ((try intro hg);first|exact zaf rfl rfl (by omega) hx'|exact qM));constructor)|refine qP ?_)
 refine ret1 rfl (.inl rfl) ?_
 simp
theorem zkd (l:List Bridge) (f:FuncId) (cap:List V) (p:Bridge→Bool) (hf:∀ b,FnF Tryz.prog f (.agg (zaj b)::cap) (.bool (p b))):FnF Tryz.prog 131 [.slice (l.map zaj),.fn f cap] (.int .i64 (if l.any p then(l.findIdx p:Int)else -1)):=by
 refine zal Tryz.func131 rfl rfl rfl ?_
 simp only[zap]
 refine zbY 0 rfl (fun hlen=>?_)
 have hml:(l.map zaj).length=l.length:=by simp
 repeat' (first|refine qU ?_|((first|apply dX rfl|apply Da rfl rfl|apply Db rfl rfl qN);(focus ((try intro hg);first|exact qM));constructor)|refine qP ?_)
 refine zag (fun k:Nat=>⟨[(0,.dat false (.slice (l.map zaj))),(1,.dat false (.fn f cap)),(7,.dat true (.int .i64 (l.map zaj).length)),(8,.dat true (.int .i64 k))],[],19⟩)
  (fun k=>k≤l.length∧(l.take k).any p=false) (fun k=>l.length-k) 0 ⟨Nat.zero_le _,by simp⟩
  (Wk_g some rfl rfl kq) (fun k hR=>?_)
 obtain⟨hk,ha⟩:=hR
 by_cases hlt:k<l.length
 ·have hx:l[(k:Int).toNat]? = some l[k]:=by simp[hlt]
  have hx':l[k]? = some l[k]:=by simp[hlt]
  have hfb:=hf l[k]
  generalize l[k]=b at hx hx' hfb
  have ht:l.take (k+1)=l.take k++[b]:=by rw[List.take_add_one,hx'];rfl
  cases hp:p b with
  | true =>
   rw[hp]at hfb
   repeat' (first|refine qU ?_|((first|apply dX rfl|apply Da rfl rfl|apply Db rfl rfl qN);(focus ((try intro hg);first|exact zab (zam rfl rfl) (decide_eq_true (by omega:(k:Int)<((l.map zaj).length:Int)))|exact zaf rfl rfl (by omega) hx|exact zaq rfl rfl hfb|exact qM));constructor)|refine qP ?_)
   refine ret1 rfl (.inl rfl) ?_
   have hany:l.any p=true:=List.any_eq_true.2 ⟨b,List.mem_of_getElem? hx',hp⟩
   rw[if_pos hany]
   have:l.findIdx p=k:=by
    rw[List.findIdx_eq hlt]
    refine⟨?_,fun j hj=>?_⟩
    ·have:l[k]=b:=(List.getElem?_eq_some_iff.1 hx').2
     rw[this];exact hp
    ·have:=List.any_eq_false.1 ha (l[j]) (by rw[List.mem_take_iff_getElem];exact⟨j,by omega,rfl⟩)
     simpa using this
   rw[this]
  | false =>
   rw[hp]at hfb
   repeat' (first|refine qU ?_|((first|apply dX rfl|apply Da rfl rfl|apply Db rfl rfl qN);(focus ((try intro hg);first|exact zab (zam rfl rfl) (decide_eq_true (by omega:(k:Int)<((l.map zaj).length:Int)))|exact zaf rfl rfl (by omega) hx|exact zaq rfl rfl hfb|exact qM));constructor)|refine qP ?_)
   exact zaa (k+1) ⟨hlt,by rw[ht,List.any_append,ha];simp[hp]⟩ (by omega) (Wk_g some rfl rfl kq)
 ·rw[List.take_of_length_le (by omega)]at ha
  repeat' (first|refine qU ?_|((first|apply dX rfl|apply Da rfl rfl|apply Db rfl rfl qN);(focus ((try intro hg);first|exact zab (zam rfl rfl) (decide_eq_false (by omega:¬(k:Int)<((l.map zaj).length:Int)))|exact qM));constructor)|refine qP ?_)
  refine ret1 rfl (.inl rfl) ?_
  rw[if_neg (by rw[ha];simp)]
theorem zdX (l:List Bridge) (f:FuncId) (cap:List V) (p:Bridge→Bool) (hf:∀ b,FnF Tryz.prog f (.agg (zaj b)::cap) (.bool (p b))):FnF Tryz.prog 86 [.slice (l.map zaj),.fn f cap] (.bool (l.any p)):=by
 refine zal Tryz.func86 rfl rfl rfl ?_
 simp only[zap]
 repeat' (first|refine qU ?_|((first|apply dX rfl|apply Da rfl rfl|apply Db rfl rfl qN);(focus ((try intro hg);first|exact zac (zkd l f cap p hf) rfl|exact qM));constructor)|refine qP ?_)
 refine ret1 rfl (.inl rfl) ?_
 congr 1
 split
 ·rename_i h
  rw[h,decide_eq_true_iff];omega
 ·rename_i h
  rw[Bool.eq_false_iff.2 h,decide_eq_false_iff_not];omega
end Go.Proofs.YtcdhlofhhcgohaaGreat
