/- One relation for all operations that write nothing: a walk finds the rule by the shape of its operands. -/
import Derived.Laws.StructEq
import Derived.Test.YtcdhlofhhcgohaaGreatxbWk
import Derived.Test.YtcdhlofhhcgohaaGreatxbMake
namespace Go.Proofs.YtcdhlofhhcgohaaGreat
open Go.RowKit
def V.eq1 : V→V→Option Bool
 | .bool a,.bool b=>some (a == b)
 | .int k a,.int k' b=>if k=k' then some (decide (a=b))else none
 | .str a,.str b=>some (decide (a=b))
 | _,_=>none
def eqL : List V→List V→Option Bool
 | [],[]=>some true
 | [a],[b]=>V.eq1 a b
 | a::r,b::q=>match V.eq1 a b,eqL r q with
  | some x,some y=>some (x && y)
  | _,_=>none
 | _,_=>none
theorem eqL_cons {a b:V} {r q:List V} {z:Bool} (h:eqL (a::r) (b::q)=some z):∃ x y,V.eq1 a b=some x∧eqL r q=some y∧z=(x && y):=by
 cases r with
 | nil =>
  cases q with
  | nil=>exact⟨z,true,h,rfl,by simp⟩
  | cons b' q=>simp[eqL]at h
 | cons a' r =>
  simp only[eqL]at h
  split at h
  ·rename_i x y h1 h2
   exact⟨x,y,h1,h2,by injection h with h;exact h.symm⟩
  ·cases h
theorem eqL_append : ∀ {a c b d:List V} {z:Bool},a.length=c.length→eqL (a++b) (c++d)=some z→∃ x y,eqL a c=some x∧eqL b d=some y∧z=(x && y)
 | [],[],_,_,z,_,h=>⟨true,z,rfl,h,by simp⟩
 | p::a,q::c,b,d,z,hl,h=>by
  obtain⟨x,y,h1,h2,rfl⟩:=eqL_cons h
  obtain⟨x',y',h3,h4,rfl⟩:=eqL_append (by simpa using hl) h2
  refine⟨x && x',y',?_,h4,by simp[Bool.and_assoc]⟩
  cases a with
  | nil=>cases c with
   | nil=>simp[eqL]at h3 ⊢;subst h3;simpa using h1
   | cons _ _=>simp at hl
  | cons a1 a=>cases c with
   | nil=>simp at hl
   | cons c1 c=>simp only[eqL,h1,h3]
 | [],_::_,_,_,_,hl,_=>by simp at hl
 | _::_,[],_,_,_,hl,_=>by simp at hl
section
variable (P : Program)
def sizeQ (t:TypeId):Option Nat:=(P.info? t).map (·.size)
def V.code : V→Nat
 | .bool _=>0
 | .int _ _=>1
 | .str _=>2
 | _=>3
def eqFs (g:TypeId→Option (List Nat)):List Field→Nat→Option (List Nat)
 | [],_=>some []
 | f :: l, o => if f.name = "_" ∨ f.offset ≠ o then none else
  match g f.type with
  | some s=>if sizeQ P f.type=some s.length then(match eqFs g l (o+s.length)with|some r=>some (s++r)|none=>none)else none
  | none=>none
def eqOK : Nat→TypeId→Option (List Nat)
 | 0,_=>none
 | n+1,t=>match P.underlying t with
  | some .bool=>some [0]
  | some (.int _)=>some [1]
  | some .string=>some [2]
  | some (.struct fs)=>if P.stoodInHeld t then none else eqFs P (eqOK n) fs.toList 0
  | _=>none
class EqI (t:TypeId) (c:outParam (List Nat)):Prop where
 ok:eqOK P 9 t=some c
 agg:∃ fs,P.underlying t=some (.struct fs)
 guard:P.eqGuardType P.depth t=false
end
def aggQ (P:Program) (t:TypeId):Bool:=match P.underlying t with|some sd=>aggDesc sd|none=>false
def mkV (agg:Bool) (cs:List V):V:=if agg then .agg cs else cs.headD .undef
section
variable {P : Program}
theorem run_isAggQ {t:TypeId} {sd:TypeDesc} (h:P.underlying t=some sd) (w:World):(isAgg t).run P w = .ok (aggDesc sd) w:=by
 simp only[isAgg,Sem.run_bind,run_under h,Result.andThen_ok]
 cases sd<;>rfl
theorem run_sizeQ {t:TypeId} {s:Nat} (h:sizeQ P t=some s) (w:World):(sizeOf t).run P w = .ok s w:=by
 unfold sizeQ at h
 cases hi:P.info? t with
 | none=>rw[hi]at h;cases h
 | some i =>
  rw[hi]at h
  injection h with h
  simp at h
  simp[sizeOf,typeInfo,program,Sem.run,hi,h]
theorem codes_append {a b:List Nat} {cs:List V} (h:cs.map V.code=a++b):∃ c1 c2,cs=c1++c2∧c1.map V.code=a∧c2.map V.code=b:=by
 refine⟨cs.take a.length,cs.drop a.length,(List.take_append_drop _ _).symm,?_,?_⟩
 ·rw[List.map_take,h,List.take_left'];rfl
 ·rw[List.map_drop,h,List.drop_left'];rfl
def EqAtT (P:Program) (w:World) (n:Nat) (t:TypeId) (c:List Nat):Prop :=
 ∀ (S:Nat→Prop) (d:Nat) (cs us:List V) (x y:Value) (z:Bool),cs.map V.code=c→us.map V.code=c→eqL cs us=some z →
  Rd S w (mkV (aggQ P t) cs) x→Rd S w (mkV (aggQ P t) us) y→(Op.equalIn (d+n) t x y).run P w = .ok z w
theorem code1 {c:Nat} {cs:List V} (h:cs.map V.code=[c]):∃ a,cs=[a]∧a.code=c:=by
 match cs,h with
 | [a],h=>exact⟨a,rfl,by simpa using h⟩
theorem code_b {a:V} (h:a.code=0):∃ b,a = .bool b:=by cases a<;>simp[V.code]at h;exact⟨_,rfl⟩
theorem code_i {a:V} (h:a.code=1):∃ k n,a = .int k n:=by cases a<;>simp[V.code]at h;exact⟨_,_,rfl⟩
theorem code_s {a:V} (h:a.code=2):∃ s,a = .str s:=by cases a<;>simp[V.code]at h;exact⟨_,rfl⟩
theorem eq_fields {w:World} {n:Nat} (IH:∀ t c,eqOK P n t=some c→EqAtT P w n t c) {S:Nat→Prop} {d:Nat} {CS US:List V} {xs ys:Array Value} (hx:xs.size=CS.length) (hy:ys.size=US.length)
  (rx:∀ (j:Nat) d c,CS[j]? = some d→xs[j]? = some c→Rd S w d c) (ry:∀ (j:Nat) d c,US[j]? = some d→ys[j]? = some c→Rd S w d c) :
  ∀ (l:List Field) (o:Nat) (c:List Nat) (cs us:List V) (z:Bool),eqFs P (eqOK P n) l o=some c→CS.drop o=cs→US.drop o=us→cs.map V.code=c→us.map V.code=c→eqL cs us=some z →
  (Op.eqFields (d+n) xs ys l).run P w = .ok z w
 | [],o,c,cs,us,z,h,h1,h2,h3,h4,h5=>by
  simp[eqFs]at h
  subst h
  simp at h3 h4
  subst h3 h4
  simp[eqL]at h5
  subst h5
  rfl
 | f :: l, o,c,cs,us,z,h,h1,h2,h3,h4,h5=>by
  simp only[eqFs]at h
  split at h
  ·cases h
  ·rename_i hf
   have hn : f.name ≠ "_" := fun e => hf (.inl e)
   have ho:f.offset=o:=Decidable.byContradiction fun e=>hf (.inr e)
   split at h
   ·rename_i s hs
    split at h
    ·rename_i hsz
     split at h
     ·rename_i r hr
      injection h with h
      subst h
      obtain⟨c1,c2,rfl,k1,k2⟩:=codes_append h3
      obtain⟨u1,u2,rfl,k3,k4⟩:=codes_append h4
      have l1:c1.length=s.length:=by rw[←k1];simp
      have l2:u1.length=s.length:=by rw[←k3];simp
      obtain⟨p,q,e1,e2,rfl⟩:=eqL_append (by rw[l1,l2]) h5
      have hpart:∀ (F1 F2 FS:List V) (vs:Array Value),vs.size=FS.length→(∀ (j:Nat) d c,FS[j]? = some d→vs[j]? = some c→Rd S w d c)→FS.drop o=F1++F2→F1.length=s.length→F1.map V.code=s →
        ∃ v,(part f.type vs f.offset).run P w = .ok v w∧Rd S w (mkV (aggQ P f.type) F1) v:=fun F1 F2 FS vs hv hr' hd hl hcd=>by
       have hlen:FS.length-o=F1.length+F2.length:=by have:=congrArg List.length hd;simpa using this
       cases hu:P.underlying f.type with
       | none=>cases n<;>simp[eqOK,hu]at hs
       | some sd =>
        have hag:aggQ P f.type=aggDesc sd:=by simp[aggQ,hu]
        rw[hag,ho]
        cases ha:aggDesc sd with
        | true =>
         refine⟨.agg (vs.extract o (o+s.length)),?_,?_⟩
         ·simp only[part,Sem.run_bind,run_isAggQ hu,Result.andThen_ok,ha,if_true,run_sizeQ hsz,Sem.run_pure]
         ·refine Rd.agg _ _ (by simp;omega) (fun j d' c' hd' hc'=>?_)
          have hj:j<F1.length:=(List.getElem?_eq_some_iff.1 hd').1
          rw[Array.getElem?_extract]at hc'
          split at hc'
          ·refine hr' (o+j) d' c' ?_ hc'
           rw[←List.getElem?_drop,hd,List.getElem?_append_left hj];exact hd'
          ·cases hc'
        | false =>
         have h1l:s.length=1:=by
          cases n with
          | zero=>simp[eqOK]at hs
          | succ n =>
           unfold eqOK at hs
           rw[hu]at hs
           cases sd<;>simp[aggDesc]at ha hs<;>(subst hs;rfl)
         rw[h1l]at hl
         match F1,hl with
         | [a],_ =>
          have ha0:FS[o]? = some a:=by
           have:=congrArg (fun l=>l[0]?) hd
           simpa using this
          have hlt:o<vs.size:=by rw[hv];exact(List.getElem?_eq_some_iff.1 ha0).1
          have hc0:vs[o]? = some vs[o]:=Array.getElem?_eq_getElem hlt
          refine⟨vs[o],?_,hr' o a _ ha0 hc0⟩
          simp only[part,Sem.run_bind,run_isAggQ hu,Result.andThen_ok,ha,Bool.false_eq_true,if_false,hc0,Sem.run_pure]
      obtain⟨v1,g1,g2⟩:=hpart c1 c2 CS xs hx rx h1 l1 k1
      obtain⟨v2,g3,g4⟩:=hpart u1 u2 US ys hy ry h2 l2 k3
      have hq:=IH f.type s hs S d c1 u1 v1 v2 p k1 k3 e1 g2 g4
      simp only[Op.eqFields,hn,ne_eq,not_false_eq_true,if_true,Sem.run_bind,g1,g3,hq,Result.andThen_ok]
      have hrest:=eq_fields (d:=d) IH hx hy rx ry l (o+s.length) r c2 u2 q hr (by rw[←List.drop_drop,h1,←l1,List.drop_left'];rfl) (by rw[←List.drop_drop,h2,←l2,List.drop_left'];rfl) k2 k4 e2
      cases p with
      | true=>simpa using hrest
      | false=>simp
     ·cases h
    ·cases h
   ·cases h
theorem rv_bool {S:Nat→Prop} {w:World} {a:Bool} {v:Value} (h:Rd S w (.bool a) v):v = .bool a:=by cases h;rfl
theorem rv_int {S:Nat→Prop} {w:World} {k:IntKind} {a:Int} {v:Value} (h:Rd S w (.int k a) v):v = .int k a:=by cases h;rfl
theorem rv_str {S:Nat→Prop} {w:World} {a:List UInt8} {v:Value} (h:Rd S w (.str a) v):v = .string ⟨a.toArray⟩:=by cases h;rfl
theorem equal_at {w:World}:∀ (n:Nat) (t:TypeId) (c:List Nat),eqOK P n t=some c→EqAtT P w n t c
 | 0,t,c,h=>by simp[eqOK]at h
 | n + 1,t,c,h=>by
  intro S d cs us x y z hc hu he hx hy
  unfold eqOK at h
  split at h
  ·rename_i ht
   injection h with h;subst h
   obtain⟨a,rfl,ha⟩:=code1 hc
   obtain⟨b,rfl,hb⟩:=code1 hu
   obtain⟨a,rfl⟩:=code_b ha
   obtain⟨b,rfl⟩:=code_b hb
   simp[mkV,aggQ,ht,aggDesc]at hx hy
   rw[rv_bool hx,rv_bool hy,←Nat.add_assoc,run_equalIn_bool' w _ _ _ _ ht]
   simp[eqL,V.eq1]at he
   subst he;rfl
  ·rename_i k ht
   injection h with h;subst h
   obtain⟨a,rfl,ha⟩:=code1 hc
   obtain⟨b,rfl,hb⟩:=code1 hu
   obtain⟨k1,a,rfl⟩:=code_i ha
   obtain⟨k2,b,rfl⟩:=code_i hb
   simp[mkV,aggQ,ht,aggDesc]at hx hy
   simp[eqL,V.eq1]at he
   obtain⟨rfl,rfl⟩:=he
   rw[rv_int hx,rv_int hy,←Nat.add_assoc,run_equalIn_int w _ _ _ _ _ _ ht]
   rfl
  ·rename_i ht
   injection h with h;subst h
   obtain⟨a,rfl,ha⟩:=code1 hc
   obtain⟨b,rfl,hb⟩:=code1 hu
   obtain⟨a,rfl⟩:=code_s ha
   obtain⟨b,rfl⟩:=code_s hb
   simp[mkV,aggQ,ht,aggDesc]at hx hy
   rw[rv_str hx,rv_str hy,←Nat.add_assoc,run_equalIn_string w _ _ _ _ ht]
   simp[eqL,V.eq1]at he
   subst he
   simp[ByteArray.toList_mk]
   by_cases hab:a=b<;>simp[hab]
  ·rename_i fs ht
   split at h
   ·cases h
   ·rename_i hst
    have hag:aggQ P t=true:=by simp[aggQ,ht,aggDesc]
    rw[hag]at hx hy
    simp only[mkV,if_true]at hx hy
    have hff:P.fieldsOf t=fs:=by simp[Program.fieldsOf,ht]
    cases hx with
    | agg _ xs hxl hxr =>
     cases hy with
     | agg _ ys hyl hyr =>
      rw[←Nat.add_assoc,run_equalIn_struct w (d+n) t xs ys (by rw[hff];exact ht) (by simpa using hst),hff]
      exact eq_fields (fun t' c' h'=>equal_at n t' c' h') hxl hyl hxr hyr fs.toList 0 c cs us z h (by simp) (by simp) hc hu he
  ·cases h
section
variable {e : Operand → D} {m : Mem} {dst : Option Tmp} {ty : TypeId} {pos : String} {af : Array Edge} {gd : Option (Nat × Bool)} {x y : Operand} {t : TypeId} {yt : TypeId}
theorem eq_run {C:Cf} {c:List Nat} {n1 n2:Bool} {cs us:List V} {z:Bool} {vx vy:Value} [hq:EqI P t c] (h1:RdF C n1 (.agg cs) vx) (h2:RdF C n2 (.agg us) vy)
  (hc:cs.map V.code=c) (hu:us.map V.code=c) (hz:eqL cs us=some z):∃ xs ys,vx = .agg xs∧vy = .agg ys∧(Op.equalIn 10000 t vx vy).run P C.w = .ok z C.w:=by
 obtain⟨fs,hfs⟩:=hq.agg
 have hag:aggQ P t=true:=by simp[aggQ,hfs,aggDesc]
 have g1:Rd (fun _=>True) C.w (.agg cs) vx:=Rd.mono h1 (fun _ _=>trivial) (fun _ _=>rfl)
 have g2:Rd (fun _=>True) C.w (.agg us) vy:=Rd.mono h2 (fun _ _=>trivial) (fun _ _=>rfl)
 have hr:=equal_at (P:=P) (w:=C.w) 9 t c hq.ok (fun _=>True) 9991 cs us vx vy z hc hu hz (by rw[hag];exact g1) (by rw[hag];exact g2)
 cases g1 with
 | agg _ xs _ _=>cases g2 with
  | agg _ ys _ _=>exact⟨xs,ys,rfl,rfl,hr⟩
theorem S_eqlA {c:List Nat} {n1 n2:Bool} {cs us:List V} {z:Bool} [hq:EqI P t c] (h1:asV m (e x)=some (n1,.agg cs)) (h2:asV m (e y)=some (n2,.agg us)) (hc:cs.map V.code=c) (hu:us.map V.code=c) (hz:eqL cs us=some z) :
  SStep P ⟨dst,.binOp .eql t x y yt,ty,pos,af,gd⟩ e m (refs m (e x)++refs m (e y)) (.dat true (.bool z)) [] :=
 .pure fun C m' ac ha hh hx=>by
  have g1:=asV_ok hh (fun g hg=>ha g (List.mem_append_left _ hg)) h1 (hx x (by simp[Op.operands]))
  have g2:=asV_ok hh (fun g hg=>ha g (List.mem_append_right _ hg)) h2 (hx y (by simp[Op.operands]))
  obtain⟨xs,ys,e1,e2,hr⟩:=eq_run (P:=P) (t:=t) g1 g2 hc hu hz
  refine⟨.bool z,?_,mk_bool⟩
  rw[e1,e2]at hr
  simp only[execOp,e1,e2,Sem.run_bind,run_eqGuard_agg _ _ _ _ _ _ _ hq.guard,Result.andThen_ok,run_eql_struct,hr]
  rfl
theorem S_neqA {c:List Nat} {n1 n2:Bool} {cs us:List V} {z:Bool} [hq:EqI P t c] (h1:asV m (e x)=some (n1,.agg cs)) (h2:asV m (e y)=some (n2,.agg us)) (hc:cs.map V.code=c) (hu:us.map V.code=c) (hz:eqL cs us=some z) :
  SStep P ⟨dst,.binOp .neq t x y yt,ty,pos,af,gd⟩ e m (refs m (e x)++refs m (e y)) (.dat true (.bool (!z))) [] :=
 .pure fun C m' ac ha hh hx=>by
  have g1:=asV_ok hh (fun g hg=>ha g (List.mem_append_left _ hg)) h1 (hx x (by simp[Op.operands]))
  have g2:=asV_ok hh (fun g hg=>ha g (List.mem_append_right _ hg)) h2 (hx y (by simp[Op.operands]))
  obtain⟨xs,ys,e1,e2,hr⟩:=eq_run (P:=P) (t:=t) g1 g2 hc hu hz
  refine⟨.bool (!z),?_,mk_bool⟩
  rw[e1,e2]at hr
  simp only[execOp,e1,e2,Sem.run_bind,run_eqGuard_agg _ _ _ _ _ _ _ hq.guard,Result.andThen_ok,run_neq_struct,hr]
  rfl
end
end
end Go.Proofs.YtcdhlofhhcgohaaGreat
namespace Go.Proofs.YtcdhlofhhcgohaaGreat
open Go.RowKit
inductive Wr (k:IntKind) (a:Int):Int→Prop
 | inK (h:InK k a):Wr k a a
 | wr:Wr k a (k.wrap a)
inductive Cpy : D→D→Prop
 | dat {n:Bool} {x:V}:Cpy (.dat n x) (.dat n x)
 | ptr {g o:Nat}:Cpy (.ptr g o) (.ptr g o)
 | own {g v l n:Nat}:Cpy (.own g v l n) (.own g v l n)
 | nil:Cpy .nil .nil
 | rptr {g v i o:Nat}:Cpy (.rptr g v i o) (.rptr g v i o)
 | aggd {cs:List D}:Cpy (.aggd cs) (.aggd cs)
 | mp {g:Nat}:Cpy (.mp g) (.mp g)
 | sl {g n:Nat}:Cpy (.sl g n) (.sl g n)
 | fnd {f:FuncId} {cs:List D}:Cpy (.fnd f cs) (.fnd f cs)
inductive Ldg (P:Program) (m:Mem) (t:TypeId):D→List Nat→D→Prop
 | rp {n agg:Bool} {s by_:Nat} {zs cs:List V} {r:V} [ht:TyI P t agg s by_ zs] (hr:ldV agg s cs=some r):Ldg P m t (.dat n (.rp cs)) [] (.dat n r)
 | ptr {frz nw:Bool} {s by_ g off:Nat} {zs:List V} {cs:List D} {d:D} [ht:TyI P t false s by_ zs] (hm:m.at g = .cells frz nw cs) (hc:cs[off]? = some d):Ldg P m t (.ptr g off) [g] d
 | ptrs {frz nw:Bool} {s by_ g off:Nat} {zs:List V} {cs:List D} [ht:TyI P t true s by_ zs] (hm:m.at g = .cells frz nw cs) (hl:Nat.ble (off+s) cs.length=true):Ldg P m t (.ptr g off) [g] (.aggd ((cs.drop off).take s))
 | rptr {frz nw agg:Bool} {s by_ g ver i off sz:Nat} {zs:List V} {xs:List (List V)} {el:List V} {r:V} [ht:TyI P t agg s by_ zs] (hm:m.at g = .row ver frz nw sz xs) (he:xs[i]? = some el) (hr:ldV agg s (el.drop off)=some r) :
   Ldg P m t (.rptr g ver i off) [g] (.dat nw r)
inductive Fad (P:Program) (m:Mem) (t:TypeId) (i:Nat):D→List Nat→D→Prop
 | rp {off ft s by_:Nat} {agg n:Bool} {zs cs:List V} [hf:FldI P t i off ft] [ht:TyI P ft agg s by_ zs] (hs:Nat.beq s 0=false):Fad P m t i (.dat n (.rp cs)) [] (.dat n (.rp (cs.drop off)))
 | ptr {off ft s by_ g o:Nat} {agg:Bool} {zs:List V} [hf:FldI P t i off ft] [ht:TyI P ft agg s by_ zs] (hs:Nat.beq s 0=false):Fad P m t i (.ptr g o) [] (.ptr g (o+off))
 | rptr {off ft s by_ g ver k o sz:Nat} {agg frz nw:Bool} {zs:List V} {xs:List (List V)} [hf:FldI P t i off ft] [ht:TyI P ft agg s by_ zs] (hs:Nat.beq s 0=false) (hm:m.at g = .row ver frz nw sz xs) :
   Fad P m t i (.rptr g ver k o) [g] (.rptr g ver k (o+off))
inductive Fld (P:Program) (t:TypeId) (i:Nat):D→D→Prop
 | dat {off ft s by_:Nat} {agg n:Bool} {zs cs:List V} {r:V} [hf:FldI P t i off ft] [ht:TyI P ft agg s by_ zs] (hr:partV agg s off cs=some r):Fld P t i (.dat n (.agg cs)) (.dat n r)
 | aggd {off ft by_:Nat} {zs:List V} {cs:List D} {d:D} [hf:FldI P t i off ft] [ht:TyI P ft false 1 by_ zs] (hr:cs[off]? = some d):Fld P t i (.aggd cs) d
inductive Bin (P:Program) (m:Mem) (t:TypeId):BinOp→D→D→List Nat→D→Prop
 | add {n1 n2:Bool} {k:IntKind} {a b c:Int} (h:Wr k (a+b) c):Bin P m t .add (.dat n1 (.int k a)) (.dat n2 (.int k b)) [] (.dat true (.int k c))
 | sub {n1 n2:Bool} {k:IntKind} {a b c:Int} (h:Wr k (a-b) c):Bin P m t .sub (.dat n1 (.int k a)) (.dat n2 (.int k b)) [] (.dat true (.int k c))
 | mul {n1 n2:Bool} {k:IntKind} {a b c:Int} (h:Wr k (a*b) c):Bin P m t .mul (.dat n1 (.int k a)) (.dat n2 (.int k b)) [] (.dat true (.int k c))
 | quo {n1 n2:Bool} {k:IntKind} {a b:Int} (h:b≠0):Bin P m t .quo (.dat n1 (.int k a)) (.dat n2 (.int k b)) [] (.dat true (.int k (k.wrap (a.tdiv b))))
 | rem {n1 n2:Bool} {k:IntKind} {a b:Int} (h:b≠0):Bin P m t .rem (.dat n1 (.int k a)) (.dat n2 (.int k b)) [] (.dat true (.int k (a.tmod b)))
 | and {n1 n2:Bool} {k:IntKind} {a b:Int}:Bin P m t .and (.dat n1 (.int k a)) (.dat n2 (.int k b)) [] (.dat true (.int k (k.andI a b)))
 | or {n1 n2:Bool} {k:IntKind} {a b:Int}:Bin P m t .or (.dat n1 (.int k a)) (.dat n2 (.int k b)) [] (.dat true (.int k (k.orI a b)))
 | xor {n1 n2:Bool} {k:IntKind} {a b:Int}:Bin P m t .xor (.dat n1 (.int k a)) (.dat n2 (.int k b)) [] (.dat true (.int k (k.xorI a b)))
 | andNot {n1 n2:Bool} {k:IntKind} {a b:Int}:Bin P m t .andNot (.dat n1 (.int k a)) (.dat n2 (.int k b)) [] (.dat true (.int k (k.andNotI a b)))
 | shl {n1 n2:Bool} {k k':IntKind} {a b:Int} (h:0≤b):Bin P m t .shl (.dat n1 (.int k a)) (.dat n2 (.int k' b)) [] (.dat true (.int k (k.shlI a b)))
 | shr {n1 n2:Bool} {k k':IntKind} {a b:Int} (h:0≤b):Bin P m t .shr (.dat n1 (.int k a)) (.dat n2 (.int k' b)) [] (.dat true (.int k (k.shrI a b)))
 | lss {n1 n2:Bool} {k:IntKind} {a b:Int}:Bin P m t .lss (.dat n1 (.int k a)) (.dat n2 (.int k b)) [] (.dat true (.bool (decide (a<b))))
 | leq {n1 n2:Bool} {k:IntKind} {a b:Int}:Bin P m t .leq (.dat n1 (.int k a)) (.dat n2 (.int k b)) [] (.dat true (.bool (decide (a≤b))))
 | gtr {n1 n2:Bool} {k:IntKind} {a b:Int}:Bin P m t .gtr (.dat n1 (.int k a)) (.dat n2 (.int k b)) [] (.dat true (.bool (decide (b<a))))
 | geq {n1 n2:Bool} {k:IntKind} {a b:Int}:Bin P m t .geq (.dat n1 (.int k a)) (.dat n2 (.int k b)) [] (.dat true (.bool (decide (b≤a))))
 | eqI {n1 n2:Bool} {k:IntKind} {a b:Int}:Bin P m t .eql (.dat n1 (.int k a)) (.dat n2 (.int k b)) [] (.dat true (.bool (decide (a=b))))
 | neI {n1 n2:Bool} {k:IntKind} {a b:Int}:Bin P m t .neq (.dat n1 (.int k a)) (.dat n2 (.int k b)) [] (.dat true (.bool (decide (a≠b))))
 | eqS {n1 n2:Bool} {a b:List UInt8}:Bin P m t .eql (.dat n1 (.str a)) (.dat n2 (.str b)) [] (.dat true (.bool (decide (a=b))))
 | neS {n1 n2:Bool} {a b:List UInt8}:Bin P m t .neq (.dat n1 (.str a)) (.dat n2 (.str b)) [] (.dat true (.bool (decide (a≠b))))
 | eqB {n1 n2 a b:Bool} [ht:BoolI P t]:Bin P m t .eql (.dat n1 (.bool a)) (.dat n2 (.bool b)) [] (.dat true (.bool (a == b)))
 | neB {n1 n2 a b:Bool} [ht:BoolI P t]:Bin P m t .neq (.dat n1 (.bool a)) (.dat n2 (.bool b)) [] (.dat true (.bool (a != b)))
 | eqA {d1 d2:D} {c:List Nat} {n1 n2:Bool} {cs us:List V} {z:Bool} [hq:EqI P t c] (h1:asV m d1=some (n1,.agg cs)) (h2:asV m d2=some (n2,.agg us)) (hc:cs.map V.code=c) (hu:us.map V.code=c) (hz:eqL cs us=some z) :
   Bin P m t .eql d1 d2 (refs m d1++refs m d2) (.dat true (.bool z))
 | neA {d1 d2:D} {c:List Nat} {n1 n2:Bool} {cs us:List V} {z:Bool} [hq:EqI P t c] (h1:asV m d1=some (n1,.agg cs)) (h2:asV m d2=some (n2,.agg us)) (hc:cs.map V.code=c) (hu:us.map V.code=c) (hz:eqL cs us=some z) :
   Bin P m t .neq d1 d2 (refs m d1++refs m d2) (.dat true (.bool (!z)))
inductive Pck : D→D→D→D→Prop
 | T {n n1 c:Bool} {d:D}:Pck (.dat n (.bool true)) (.dat n1 (.bool c)) d (.dat true (.bool c))
 | F {n n1 c:Bool} {d:D}:Pck (.dat n (.bool false)) d (.dat n1 (.bool c)) (.dat true (.bool c))
 | and {n n1 n2 b c:Bool}:Pck (.dat n (.bool b)) (.grd (b == true) (.dat n1 (.bool c))) (.dat n2 (.bool false)) (.dat true (.bool (b && c)))
 | or {n n1 n2 b c:Bool}:Pck (.dat n (.bool b)) (.dat n1 (.bool true)) (.grd (b == false) (.dat n2 (.bool c))) (.dat true (.bool (b || c)))
inductive Lng (P:Program) (m:Mem) (t:TypeId):D→List Nat→Int→Prop
 | slice {n:Bool} {xs:List (List V)} {el:Nat} [hu:SlcI P t el]:Lng P m t (.dat n (.slice xs)) [] xs.length
 | own {g ver lo len el sz:Nat} {frz nw:Bool} {xs:List (List V)} [hu:SlcI P t el] (hm:m.at g = .row ver frz nw sz xs):Lng P m t (.own g ver lo len) [g] len
 | str {n:Bool} {s:List UInt8} [hu:StrI P t]:Lng P m t (.dat n (.str s)) [] s.length
 | nil {el:Nat} [hu:SlcI P t el]:Lng P m t .nil [] 0
inductive Nch : D→D→Prop
 | ptr {g o:Nat}:Nch (.ptr g o) (.ptr g o)
 | rp {n:Bool} {cs:List V}:Nch (.dat n (.rp cs)) (.dat n (.rp cs))
 | fn {n:Bool} {f:FuncId} {cs:List V}:Nch (.dat n (.fn f cs)) (.dat n (.fn f cs))
inductive Ixa (P:Program) (t:TypeId):D→D→D→Prop
 | slice {n n' agg:Bool} {k:IntKind} {i:Int} {el s by_:Nat} {zs c:List V} {xs:List (List V)} [hu:SlcI P t el] [ht:TyI P el agg s by_ zs] (hi:0≤i) (hc:xs[i.toNat]? = some c) (hl:c.length=s) :
   Ixa P t (.dat n (.slice xs)) (.dat n' (.int k i)) (.dat n (.rp c))
 | arr {n' agg:Bool} {k:IntKind} {i:Int} {el s by_ len g o:Nat} {zs:List V} [hu:ArrI P t len el] [ht:TyI P el agg s by_ zs] (hi:0≤i) (hc:i<len):Ixa P t (.ptr g o) (.dat n' (.int k i)) (.ptr g (o+i.toNat*s))
inductive Pu (P:Program) (e:Operand→D) (m:Mem):Op→List Nat→D→Prop
 | move {x:Operand} {d:D} (h:Cpy (e x) d):Pu P e m (.move x) [] d
 | assign {x:Operand} {d:D} (h:Cpy (e x) d):Pu P e m (.assign x) [] d
 | load {t:TypeId} {x:Operand} {rd:List Nat} {d:D} (h:Ldg P m t (e x) rd d):Pu P e m (.load t x) rd d
 | fad {t:TypeId} {x:Operand} {i:Nat} {rd:List Nat} {d:D} (h:Fad P m t i (e x) rd d):Pu P e m (.fieldAddr t x i) rd d
 | fld {t:TypeId} {x:Operand} {i:Nat} {d:D} (h:Fld P t i (e x) d):Pu P e m (.field t x i) [] d
 | eqNil {t yt:TypeId} {x:Operand} {el:Nat} [hu:SlcI P t el] (h:e x = .nil):Pu P e m (.binOp .eql t x (.const (.slice none 0 0)) yt) [] (.dat true (.bool true))
 | bin {op:BinOp} {t yt:TypeId} {x y:Operand} {rd:List Nat} {d:D} (h:Bin P m t op (e x) (e y) rd d):Pu P e m (.binOp op t x y yt) rd d
 | not {t:TypeId} {x:Operand} {n b:Bool} (h:e x = .dat n (.bool b)):Pu P e m (.unOp .not t x) [] (.dat true (.bool (!b)))
 | pick {x y z:Operand} {d:D} (h:Pck (e x) (e y) (e z) d):Pu P e m (.pick x y z) [] d
 | len {t:TypeId} {x:Operand} {rd:List Nat} {a:Int} (h:Lng P m t (e x) rd a):Pu P e m (.call { callee := .builtin .len,args := #[x],argTypes := #[t] }) rd (.dat true (.int .i64 a))
 | min {x y:Operand} {n n':Bool} {k:IntKind} {a b:Int} {ts:Array TypeId} (h1:e x = .dat n (.int k a)) (h2:e y = .dat n' (.int k b)):Pu P e m (.call { callee := .builtin .min,args := #[x,y],argTypes:=ts }) [] (.dat true (.int k (Min.min a b)))
 | max {x y:Operand} {n n':Bool} {k:IntKind} {a b:Int} {ts:Array TypeId} (h1:e x = .dat n (.int k a)) (h2:e y = .dat n' (.int k b)):Pu P e m (.call { callee := .builtin .max,args := #[x,y],argTypes:=ts }) [] (.dat true (.int k (Max.max a b)))
 | extract {x:Operand} {i:Nat} {n:Bool} {cs:List V} {d:V} (h:e x = .dat n (.tuple cs)) (hi:cs[i]? = some d):Pu P e m (.extract x i) [] (.dat n d)
 | conv {s t:TypeId} {x:Operand} {n:Bool} {k k':IntKind} {a c:Int} [hs:IntI P s k] [ht:IntI P t k'] (h:e x = .dat n (.int k a)) (hw:Wr k' a c):Pu P e m (.convert s t x) [] (.dat true (.int k' c))
 | nilCheck {x:Operand} {d:D} (h:Nch (e x) d):Pu P e m (.nilCheck x) [] d
 | build {t:TypeId} {s by_:Nat} {zs:List V} {pl:List (Nat×Nat)} {cs:List D} {parts:Array (Nat×Operand)} [ht:TyI P t true s by_ zs] [hp:StructI P t pl] (h:fillD (pl[·]?) e (zs.map V.zD) parts.toList=some cs):Pu P e m (.build t parts) [] (.aggd cs)
 | buildA {t:TypeId} {s by_ es eb len el:Nat} {eagg:Bool} {zs ez:List V} {cs:List D} {parts:Array (Nat×Operand)} [ht:TyI P t true s by_ zs] [hu:ArrI P t len el] [he:TyI P el eagg es eb ez] (h:fillD (fun i=>some (i*es,es)) e (zs.map V.zD) parts.toList=some cs) :
   Pu P e m (.build t parts) [] (.aggd cs)
 | lit {t:TypeId} {el s by_ len:Nat} {agg n:Bool} {zs:List V} {els:List (List V)} {parts:Array (Nat×Operand)} [hu:SlcI P t el] [ht:TyI P el agg s by_ zs] (h:elsV m e s 0 parts.toList=some (n,els)) (hl:Nat.beq parts.size len=true) (hb:Nat.ble (len*s) 16777216=true) (hb2:Nat.ble len 16777216=true) :
   Pu P e m (.buildSlice t len parts) (parts.toList.flatMap fun p=>refs m (e p.2)) (.dat n (.slice els))
 | makeFunc {f:FuncId} {n:Bool} {caps:Array Operand} {vs:List V} (h:asVL m (caps.toList.map e)=some (n,vs)):Pu P e m (.makeFunc (.func f) #[] caps) ((caps.toList.map e).flatMap (refs m)) (.dat n (.fn f vs))
 | ixa {t:TypeId} {x y:Operand} {d:D} (h:Ixa P t (e x) (e y) d):Pu P e m (.indexAddr t x y) [] d
 | index {t:TypeId} {x y:Operand} {n':Bool} {k:IntKind} {i:Int} {el by_ len:Nat} {zs:List V} {cs:List D} {d:D} [hu:ArrI P t len el] [ht:TyI P el false 1 by_ zs]
   (h1:e x = .aggd cs) (h2:e y = .dat n' (.int k i)) (hi:0≤i) (hc:i<len) (hr:cs[i.toNat]? = some d):Pu P e m (.index t x y) [] d
section
variable {P : Program} {e : Operand → D} {m : Mem} {dst : Option Tmp} {ty : TypeId} {pos : String} {af : Array Edge} {gd : Option (Nat × Bool)} {x y z : Operand} {t : TypeId} {yt : TypeId}
theorem Wr.eq {k:IntKind} {a c:Int} (h:Wr k a c):k.wrap a=c:=by
 cases h with
 | inK h=>exact wrap_in h
 | wr=>rfl
theorem Bin.ok {op:BinOp} {rd:List Nat} {d:D} (h:Bin P m t op (e x) (e y) rd d):SStep P ⟨dst,.binOp op t x y yt,ty,pos,af,gd⟩ e m rd d []:=by
 generalize hx:e x=d1 at h
 generalize hy:e y=d2 at h
 cases h with
 | add h=>rw[←h.eq];exact S_add hx hy
 | sub h=>rw[←h.eq];exact S_sub hx hy
 | mul h=>rw[←h.eq];exact S_mul hx hy
 | quo h=>exact S_quo hx hy h
 | rem h=>exact S_rem hx hy h
 | and=>exact S_and hx hy
 | or=>exact S_or hx hy
 | xor=>exact S_xor hx hy
 | andNot=>exact S_andNot hx hy
 | shl h=>exact S_shl hx hy h
 | shr h=>exact S_shr hx hy h
 | lss=>exact S_lss hx hy
 | leq=>exact S_leq hx hy
 | gtr=>exact S_gtr hx hy
 | geq=>exact S_geq hx hy
 | eqI=>exact S_eql hx hy
 | neI=>exact S_neq hx hy
 | eqS=>exact S_eqls hx hy
 | neS=>exact S_neqs hx hy
 | eqB=>exact S_eqlb BoolI.out hx hy
 | neB=>exact S_neqb BoolI.out hx hy
 | eqA h1 h2 hc hu hz=>subst hx hy;exact S_eqlA h1 h2 hc hu hz
 | neA h1 h2 hc hu hz=>subst hx hy;exact S_neqA h1 h2 hc hu hz
theorem Pu.ok {op:Op} {rd:List Nat} {d:D} (h:Pu P e m op rd d):SStep P ⟨dst,op,ty,pos,af,gd⟩ e m rd d []:=by
 cases h with
 | @move x _ h=>generalize hx:e x=d1 at h;cases h<;>(rw[←hx];exact S_move)
 | @assign x _ h=>generalize hx:e x=d1 at h;cases h<;>(rw[←hx];exact S_assign)
 | @load t x _ _ h =>
  generalize hx:e x=d1 at h
  cases h with
  | rp hr=>exact S_load_rp hx hr
  | ptr hm hc=>exact S_load_ptr hx hm hc
  | ptrs hm hl=>exact S_load_ptrs hx hm hl
  | rptr hm he hr=>exact S_load_rptr hx hm he hr
 | @fad t x i _ _ h =>
  generalize hx:e x=d1 at h
  cases h with
  | rp hs=>exact S_fieldAddr_rp hs hx
  | ptr hs=>exact S_fieldAddr_ptr hs hx
  | rptr hs hm=>exact S_fieldAddr_rptr hs hx hm
 | @fld t x i _ h =>
  generalize hx:e x=d1 at h
  cases h with
  | dat hr=>exact S_field hx hr
  | aggd hr=>exact S_field_aggd hx hr
 | eqNil h=>exact S_eqNilT h
 | bin h=>exact h.ok
 | not h=>exact S_not h
 | @pick x y z _ h =>
  generalize hx:e x=d1 at h
  generalize hy:e y=d2 at h
  generalize hz:e z=d3 at h
  cases h with
  | T=>exact S_pick hx (fun _ C m v hv=>by rw[hy]at hv;rw[rd_bool hv];exact mk_bool) (fun hb=>by cases hb)
  | F=>exact S_pick hx (fun hb=>by cases hb) (fun _ C m v hv=>by rw[hz]at hv;rw[rd_bool hv];exact mk_bool)
  | and=>exact S_pick_and hx hy hz
  | or=>exact S_pick_or hx hy hz
 | @len t x _ _ h =>
  generalize hx:e x=d1 at h
  cases h with
  | slice=>exact S_len_slice hx
  | own hm=>exact S_len_own hx hm
  | str=>exact S_len_str hx
  | nil=>exact S_len_nil hx
 | min h1 h2=>exact S_min h1 h2
 | max h1 h2=>exact S_max h1 h2
 | extract h hi=>exact S_extract h hi
 | conv h hw=>rw[←hw.eq];exact W_toInt h
 | @nilCheck x _ h =>
  generalize hx:e x=d1 at h
  cases h with
  | ptr=>exact S_nilCheck_ptr hx
  | rp=>exact S_nilCheck_rp hx
  | fn=>exact S_nilCheck_fn hx
 | build h=>exact S_build h
 | buildA h=>exact S_buildA h
 | lit h hl hb hb2=>exact S_lit h hl hb hb2
 | makeFunc h=>exact S_makeFunc h
 | @ixa t x y _ h =>
  generalize hx:e x=d1 at h
  generalize hy:e y=d2 at h
  cases h with
  | slice hi hc hl=>exact S_ix_slice hx hy hi hc hl
  | arr hi hc=>exact S_ix_arr_ptr hx hy hi hc
 | index h1 h2 hi hc hr=>exact S_index_aggd h1 h2 hi hc hr
end
end Go.Proofs.YtcdhlofhhcgohaaGreat
