/- == and != of structs whose cells are bools, integers and strings. -/
import Derived.Laws.StructEq
import Derived.Test.YtcdhlofhhcgohaaGreatwbWk
namespace Go.Proofs.YtcdhlofhhcgohaaGreat
open Go.RowKit
def V.eq1 : V→V→Option Bool
 | .bool a,.bool b=>some (a == b)
 | .int k a,.int k' b=>if k=k' then some (decide (a=b))else none
 | .str a,.str b=>some (decide (a=b))
 | _,_=>none
def eqL : List V→List V→Option Bool
 | [],[]=>some true
 | [a],[b]=>V.eq1 a b
 | a::r,b::q=>match V.eq1 a b,eqL r q with
  | some x,some y=>some (x && y)
  | _,_=>none
 | _,_=>none
theorem zqM {a b:V} {r q:List V} {z:Bool} (h:eqL (a::r) (b::q)=some z):∃ x y,V.eq1 a b=some x∧eqL r q=some y∧z=(x && y):=by
 cases r with
 | nil =>
  cases q with
  | nil=>exact⟨z,true,h,rfl,by simp⟩
  | cons b' q=>simp[eqL]at h
 | cons a' r =>
  simp only[eqL]at h
  split at h
  ·rename_i x y h1 h2
   exact⟨x,y,h1,h2,by injection h with h;exact h.symm⟩
  ·cases h
theorem zh2 : ∀ {a c b d:List V} {z:Bool},a.length=c.length→eqL (a++b) (c++d)=some z→∃ x y,eqL a c=some x∧eqL b d=some y∧z=(x && y)
 | [],[],_,_,z,_,h=>⟨true,z,rfl,h,by simp⟩
 | p::a,q::c,b,d,z,hl,h=>by
  obtain⟨x,y,h1,h2,rfl⟩:=zqM h
  obtain⟨x',y',h3,h4,rfl⟩:=zh2 (by simpa using hl) h2
  refine⟨x && x',y',?_,h4,by simp[Bool.and_assoc]⟩
  cases a with
  | nil=>cases c with
   | nil=>simp[eqL]at h3 ⊢;subst h3;simpa using h1
   | cons _ _=>simp at hl
  | cons a1 a=>cases c with
   | nil=>simp at hl
   | cons c1 c=>simp only[eqL,h1,h3]
 | [],_::_,_,_,_,hl,_=>by simp at hl
 | _::_,[],_,_,_,hl,_=>by simp at hl
section
variable (P : Program)
def zsG (t:TypeId):Option Nat:=(P.info? t).map (·.size)
def V.code : V→Nat
 | .bool _=>0
 | .int _ _=>1
 | .str _=>2
 | _=>3
def eqFs (g:TypeId→Option (List Nat)):List Field→Nat→Option (List Nat)
 | [],_=>some []
 | f :: l, o => if f.name = "_" ∨ f.offset ≠ o then none else
  match g f.type with
  | some s=>if zsG P f.type=some s.length then(match eqFs g l (o+s.length)with|some r=>some (s++r)|none=>none)else none
  | none=>none
def eqOK : Nat→TypeId→Option (List Nat)
 | 0,_=>none
 | n+1,t=>match P.underlying t with
  | some .bool=>some [0]
  | some (.int _)=>some [1]
  | some .string=>some [2]
  | some (.struct fs)=>if P.stoodInHeld t then none else eqFs P (eqOK n) fs.toList 0
  | _=>none
class EqI (t:TypeId) (c:outParam (List Nat)):Prop where
 ok:eqOK P 9 t=some c
 agg:∃ fs,P.underlying t=some (.struct fs)
 guard:P.eqGuardType P.depth t=false
end
def aggQ (P:Program) (t:TypeId):Bool:=match P.underlying t with|some sd=>zcD sd|none=>false
def mkV (agg:Bool) (cs:List V):V:=if agg then .agg cs else cs.headD .undef
section
variable {P : Program}
theorem zh3 {t:TypeId} {sd:TypeDesc} (h:P.underlying t=some sd) (w:World):(isAgg t).run P w = .ok (zcD sd) w:=by
 simp only[isAgg,Sem.run_bind,zao h,Result.andThen_ok]
 cases sd<;>rfl
theorem zoB {t:TypeId} {s:Nat} (h:zsG P t=some s) (w:World):(sizeOf t).run P w = .ok s w:=by
 unfold zsG at h
 cases hi:P.info? t with
 | none=>rw[hi]at h;cases h
 | some i =>
  rw[hi]at h
  injection h with h
  simp at h
  simp[sizeOf,typeInfo,program,Sem.run,hi,h]
theorem zfT {a b:List Nat} {cs:List V} (h:cs.map V.code=a++b):∃ c1 c2,cs=c1++c2∧c1.map V.code=a∧c2.map V.code=b:=by
 refine⟨cs.take a.length,cs.drop a.length,(List.take_append_drop _ _).symm,?_,?_⟩
 ·rw[List.map_take,h,List.take_left'];rfl
 ·rw[List.map_drop,h,List.drop_left'];rfl
def ztA (P:Program) (w:World) (n:Nat) (t:TypeId) (c:List Nat):Prop :=
 ∀ (S:Nat→Prop) (d:Nat) (cs us:List V) (x y:Value) (z:Bool),cs.map V.code=c→us.map V.code=c→eqL cs us=some z →
  Rd S w (mkV (aggQ P t) cs) x→Rd S w (mkV (aggQ P t) us) y→(Op.equalIn (d+n) t x y).run P w = .ok z w
theorem code1 {c:Nat} {cs:List V} (h:cs.map V.code=[c]):∃ a,cs=[a]∧a.code=c:=by
 match cs,h with
 | [a],h=>exact⟨a,rfl,by simpa using h⟩
theorem zsb {a:V} (h:a.code=0):∃ b,a = .bool b:=by cases a<;>simp[V.code]at h;exact⟨_,rfl⟩
theorem zsc {a:V} (h:a.code=1):∃ k n,a = .int k n:=by cases a<;>simp[V.code]at h;exact⟨_,_,rfl⟩
theorem zsd {a:V} (h:a.code=2):∃ s,a = .str s:=by cases a<;>simp[V.code]at h;exact⟨_,rfl⟩
theorem zj9 {w:World} {n:Nat} (IH:∀ t c,eqOK P n t=some c→ztA P w n t c) {S:Nat→Prop} {d:Nat} {CS US:List V} {xs ys:Array Value} (hx:xs.size=CS.length) (hy:ys.size=US.length)
  (rx:∀ (j:Nat) d c,CS[j]? = some d→xs[j]? = some c→Rd S w d c) (ry:∀ (j:Nat) d c,US[j]? = some d→ys[j]? = some c→Rd S w d c) :
  ∀ (l:List Field) (o:Nat) (c:List Nat) (cs us:List V) (z:Bool),eqFs P (eqOK P n) l o=some c→CS.drop o=cs→US.drop o=us→cs.map V.code=c→us.map V.code=c→eqL cs us=some z →
  (Op.eqFields (d+n) xs ys l).run P w = .ok z w
 | [],o,c,cs,us,z,h,h1,h2,h3,h4,h5=>by
  simp[eqFs]at h
  subst h
  simp at h3 h4
  subst h3 h4
  simp[eqL]at h5
  subst h5
  rfl
 | f :: l, o,c,cs,us,z,h,h1,h2,h3,h4,h5=>by
  simp only[eqFs]at h
  split at h
  ·cases h
  ·rename_i hf
   have hn : f.name ≠ "_" := fun e => hf (.inl e)
   have ho:f.offset=o:=Decidable.byContradiction fun e=>hf (.inr e)
   split at h
   ·rename_i s hs
    split at h
    ·rename_i hsz
     split at h
     ·rename_i r hr
      injection h with h
      subst h
      obtain⟨c1,c2,rfl,k1,k2⟩:=zfT h3
      obtain⟨u1,u2,rfl,k3,k4⟩:=zfT h4
      have l1:c1.length=s.length:=by rw[←k1];simp
      have l2:u1.length=s.length:=by rw[←k3];simp
      obtain⟨p,q,e1,e2,rfl⟩:=zh2 (by rw[l1,l2]) h5
      have hpart:∀ (F1 F2 FS:List V) (vs:Array Value),vs.size=FS.length→(∀ (j:Nat) d c,FS[j]? = some d→vs[j]? = some c→Rd S w d c)→FS.drop o=F1++F2→F1.length=s.length→F1.map V.code=s →
        ∃ v,(part f.type vs f.offset).run P w = .ok v w∧Rd S w (mkV (aggQ P f.type) F1) v:=fun F1 F2 FS vs hv hr' hd hl hcd=>by
       have hlen:FS.length-o=F1.length+F2.length:=by have:=congrArg List.length hd;simpa using this
       cases hu:P.underlying f.type with
       | none=>cases n<;>simp[eqOK,hu]at hs
       | some sd =>
        have hag:aggQ P f.type=zcD sd:=by simp[aggQ,hu]
        rw[hag,ho]
        cases ha:zcD sd with
        | true =>
         refine⟨.agg (vs.extract o (o+s.length)),?_,?_⟩
         ·simp only[part,Sem.run_bind,zh3 hu,Result.andThen_ok,ha,if_true,zoB hsz,Sem.run_pure]
         ·refine Rd.agg _ _ (by simp;omega) (fun j d' c' hd' hc'=>?_)
          have hj:j<F1.length:=(List.getElem?_eq_some_iff.1 hd').1
          rw[Array.getElem?_extract]at hc'
          split at hc'
          ·refine hr' (o+j) d' c' ?_ hc'
           rw[←List.getElem?_drop,hd,List.getElem?_append_left hj];exact hd'
          ·cases hc'
        | false =>
         have h1l:s.length=1:=by
          cases n with
          | zero=>simp[eqOK]at hs
          | succ n =>
           unfold eqOK at hs
           rw[hu]at hs
           cases sd<;>simp[zcD]at ha hs<;>(subst hs;rfl)
         rw[h1l]at hl
         match F1,hl with
         | [a],_ =>
          have ha0:FS[o]? = some a:=by
           have:=congrArg (fun l=>l[0]?) hd
           simpa using this
          have hlt:o<vs.size:=by rw[hv];exact(List.getElem?_eq_some_iff.1 ha0).1
          have hc0:vs[o]? = some vs[o]:=Array.getElem?_eq_getElem hlt
          refine⟨vs[o],?_,hr' o a _ ha0 hc0⟩
          simp only[part,Sem.run_bind,zh3 hu,Result.andThen_ok,ha,Bool.false_eq_true,if_false,hc0,Sem.run_pure]
      obtain⟨v1,g1,g2⟩:=hpart c1 c2 CS xs hx rx h1 l1 k1
      obtain⟨v2,g3,g4⟩:=hpart u1 u2 US ys hy ry h2 l2 k3
      have hq:=IH f.type s hs S d c1 u1 v1 v2 p k1 k3 e1 g2 g4
      simp only[Op.eqFields,hn,ne_eq,not_false_eq_true,if_true,Sem.run_bind,g1,g3,hq,Result.andThen_ok]
      have hrest:=zj9 (d:=d) IH hx hy rx ry l (o+s.length) r c2 u2 q hr (by rw[←List.drop_drop,h1,←l1,List.drop_left'];rfl) (by rw[←List.drop_drop,h2,←l2,List.drop_left'];rfl) k2 k4 e2
      cases p with
      | true=>simpa using hrest
      | false=>simp
     ·cases h
    ·cases h
   ·cases h
theorem zoC {S:Nat→Prop} {w:World} {a:Bool} {v:Value} (h:Rd S w (.bool a) v):v = .bool a:=by cases h;rfl
theorem zka {S:Nat→Prop} {w:World} {k:IntKind} {a:Int} {v:Value} (h:Rd S w (.int k a) v):v = .int k a:=by cases h;rfl
theorem zse {S:Nat→Prop} {w:World} {a:List UInt8} {v:Value} (h:Rd S w (.str a) v):v = .string ⟨a.toArray⟩:=by cases h;rfl
theorem zmv {w:World}:∀ (n:Nat) (t:TypeId) (c:List Nat),eqOK P n t=some c→ztA P w n t c
 | 0,t,c,h=>by simp[eqOK]at h
 | n + 1,t,c,h=>by
  intro S d cs us x y z hc hu he hx hy
  unfold eqOK at h
  split at h
  ·rename_i ht
   injection h with h;subst h
   obtain⟨a,rfl,ha⟩:=code1 hc
   obtain⟨b,rfl,hb⟩:=code1 hu
   obtain⟨a,rfl⟩:=zsb ha
   obtain⟨b,rfl⟩:=zsb hb
   simp[mkV,aggQ,ht,zcD]at hx hy
   rw[zoC hx,zoC hy,←Nat.add_assoc,run_equalIn_bool' w _ _ _ _ ht]
   simp[eqL,V.eq1]at he
   subst he;rfl
  ·rename_i k ht
   injection h with h;subst h
   obtain⟨a,rfl,ha⟩:=code1 hc
   obtain⟨b,rfl,hb⟩:=code1 hu
   obtain⟨k1,a,rfl⟩:=zsc ha
   obtain⟨k2,b,rfl⟩:=zsc hb
   simp[mkV,aggQ,ht,zcD]at hx hy
   simp[eqL,V.eq1]at he
   obtain⟨rfl,rfl⟩:=he
   rw[zka hx,zka hy,←Nat.add_assoc,run_equalIn_int w _ _ _ _ _ _ ht]
   rfl
  ·rename_i ht
   injection h with h;subst h
   obtain⟨a,rfl,ha⟩:=code1 hc
   obtain⟨b,rfl,hb⟩:=code1 hu
   obtain⟨a,rfl⟩:=zsd ha
   obtain⟨b,rfl⟩:=zsd hb
   simp[mkV,aggQ,ht,zcD]at hx hy
   rw[zse hx,zse hy,←Nat.add_assoc,run_equalIn_string w _ _ _ _ ht]
   simp[eqL,V.eq1]at he
   subst he
   simp[ByteArray.toList_mk]
   by_cases hab:a=b<;>simp[hab]
  ·rename_i fs ht
   split at h
   ·cases h
   ·rename_i hst
    have hag:aggQ P t=true:=by simp[aggQ,ht,zcD]
    rw[hag]at hx hy
    simp only[mkV,if_true]at hx hy
    have hff:P.fieldsOf t=fs:=by simp[Program.fieldsOf,ht]
    cases hx with
    | agg _ xs hxl hxr =>
     cases hy with
     | agg _ ys hyl hyr =>
      rw[←Nat.add_assoc,run_equalIn_struct w (d+n) t xs ys (by rw[hff];exact ht) (by simpa using hst),hff]
      exact zj9 (fun t' c' h'=>zmv n t' c' h') hxl hyl hxr hyr fs.toList 0 c cs us z h (by simp) (by simp) hc hu he
  ·cases h
section
variable {e : Operand → D} {m : Mem} {dst : Option Tmp} {ty : TypeId} {pos : String} {af : Array Edge} {gd : Option (Nat × Bool)} {x y : Operand} {t : TypeId} {yt : TypeId}
theorem zoD {C:Cf} {c:List Nat} {n1 n2:Bool} {cs us:List V} {z:Bool} {vx vy:Value} [hq:EqI P t c] (h1:RdF C n1 (.agg cs) vx) (h2:RdF C n2 (.agg us) vy)
  (hc:cs.map V.code=c) (hu:us.map V.code=c) (hz:eqL cs us=some z):∃ xs ys,vx = .agg xs∧vy = .agg ys∧(Op.equalIn 10000 t vx vy).run P C.w = .ok z C.w:=by
 obtain⟨fs,hfs⟩:=hq.agg
 have hag:aggQ P t=true:=by simp[aggQ,hfs,zcD]
 have g1:Rd (fun _=>True) C.w (.agg cs) vx:=Rd.mono h1 (fun _ _=>trivial) (fun _ _=>rfl)
 have g2:Rd (fun _=>True) C.w (.agg us) vy:=Rd.mono h2 (fun _ _=>trivial) (fun _ _=>rfl)
 have hr:=zmv (P:=P) (w:=C.w) 9 t c hq.ok (fun _=>True) 9991 cs us vx vy z hc hu hz (by rw[hag];exact g1) (by rw[hag];exact g2)
 cases g1 with
 | agg _ xs _ _=>cases g2 with
  | agg _ ys _ _=>exact⟨xs,ys,rfl,rfl,hr⟩
theorem ze6 {c:List Nat} {n1 n2:Bool} {cs us:List V} {z:Bool} [hq:EqI P t c] (h1:asV m (e x)=some (n1,.agg cs)) (h2:asV m (e y)=some (n2,.agg us)) (hc:cs.map V.code=c) (hu:us.map V.code=c) (hz:eqL cs us=some z) :
  SStep P ⟨dst,.binOp .eql t x y yt,ty,pos,af,gd⟩ e m (refs m (e x)++refs m (e y)) (.dat true (.bool z)) [] :=
 .pure fun C m' ac ha hh hx=>by
  have g1:=zcF hh (fun g hg=>ha g (List.mem_append_left _ hg)) h1 (hx x (by simp[Op.operands]))
  have g2:=zcF hh (fun g hg=>ha g (List.mem_append_right _ hg)) h2 (hx y (by simp[Op.operands]))
  obtain⟨xs,ys,e1,e2,hr⟩:=zoD (P:=P) (t:=t) g1 g2 hc hu hz
  refine⟨.bool z,?_,zaY⟩
  rw[e1,e2]at hr
  simp only[execOp,e1,e2,Sem.run_bind,run_eqGuard_agg _ _ _ _ _ _ _ hq.guard,Result.andThen_ok,run_eql_struct,hr]
  rfl
theorem zdU {c:List Nat} {n1 n2:Bool} {cs us:List V} {z:Bool} [hq:EqI P t c] (h1:asV m (e x)=some (n1,.agg cs)) (h2:asV m (e y)=some (n2,.agg us)) (hc:cs.map V.code=c) (hu:us.map V.code=c) (hz:eqL cs us=some z) :
  SStep P ⟨dst,.binOp .neq t x y yt,ty,pos,af,gd⟩ e m (refs m (e x)++refs m (e y)) (.dat true (.bool (!z))) [] :=
 .pure fun C m' ac ha hh hx=>by
  have g1:=zcF hh (fun g hg=>ha g (List.mem_append_left _ hg)) h1 (hx x (by simp[Op.operands]))
  have g2:=zcF hh (fun g hg=>ha g (List.mem_append_right _ hg)) h2 (hx y (by simp[Op.operands]))
  obtain⟨xs,ys,e1,e2,hr⟩:=zoD (P:=P) (t:=t) g1 g2 hc hu hz
  refine⟨.bool (!z),?_,zaY⟩
  rw[e1,e2]at hr
  simp only[execOp,e1,e2,Sem.run_bind,run_eqGuard_agg _ _ _ _ _ _ _ hq.guard,Result.andThen_ok,run_neq_struct,hr]
  rfl
end
end
end Go.Proofs.YtcdhlofhhcgohaaGreat
