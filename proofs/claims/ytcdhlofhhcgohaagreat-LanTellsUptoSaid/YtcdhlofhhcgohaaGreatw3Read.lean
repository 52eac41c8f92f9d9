/- The D-machine, part 3: facts on types as classes; own memory seen as data; operations that read. -/
import Derived.Laws.Cells
import Derived.Laws.Entries
import Derived.Test.YtcdhlofhhcgohaaGreatw2Step
namespace Go.Proofs.YtcdhlofhhcgohaaGreat
open Go.RowKit
def zcD : TypeDesc→Bool
 | .struct _ | .array _ _=>true
 | _=>false
def V.val : V→Value
 | .bool b=>.bool b
 | .int k n=>.int k n
 | .str s=>.string ⟨s.toArray⟩
 | .slice _=>.slice none 0 0
 | _=>.tuple #[]
def V.isC : V→Bool
 | .bool _ | .int _ _ | .str _=>true
 | .slice xs=>xs.isEmpty
 | _=>false
def zval (agg:Bool) (z:List V):Value:=if agg then .agg (z.map V.val).toArray else(z.headD .undef).val
class TyI (P:Program) (t:TypeId) (agg:outParam Bool) (s:outParam Nat) (by_:outParam Nat) (z:outParam (List V)):Prop where
 desc:∃ sd,P.underlying t=some sd∧zcD sd=agg
 info:∃ i,P.info? t=some i∧i.size=s∧i.bytes=by_∧i.zero=some (zval agg z)
 zc:z.all V.isC=true
 zl:z.length=s
 z1:agg=false→s=1
class FldI (P:Program) (t:TypeId) (i:Nat) (off:outParam Nat) (ft:outParam TypeId):Prop where
 out:∃ fs f,P.underlying t=some (.struct fs)∧fs[i]? = some f∧f.offset=off∧f.type=ft
class SlcI (P:Program) (t:TypeId) (el:outParam TypeId):Prop where
 out:P.underlying t=some (.slice el)
class ArrI (P:Program) (t:TypeId) (n:outParam Nat) (el:outParam TypeId):Prop where
 out:P.underlying t=some (.array n el)
class StrI (P:Program) (t:TypeId):Prop where
 out:P.underlying t=some .string
class BoolI (P:Program) (t:TypeId):Prop where
 out:P.underlying t=some .bool
class IntI (P:Program) (t:TypeId) (k:outParam IntKind):Prop where
 out:P.underlying t=some (.int k)
theorem aadd (b off n:Nat):(⟨b,off,none⟩:Addr).add n=⟨b,off+n,none⟩:=by
 unfold Addr.add;split
 ·simp_all
 ·rfl
section
variable {P : Program}
theorem zao {t:TypeId} {d:TypeDesc} (h:P.underlying t=some d) (w:World):(underlying t).run P w = .ok d w:=by
 simp[underlying,program,Sem.run,h]
theorem zaS {t:TypeId} {agg:Bool} {s by_:Nat} {z:List V} (h:TyI P t agg s by_ z) (w:World):(sizeOf t).run P w = .ok s w:=by
 obtain⟨i,hi,hs,_⟩:=h.info
 simp[sizeOf,typeInfo,program,Sem.run,hi,hs]
theorem zdq {t:TypeId} {agg:Bool} {s by_:Nat} {z:List V} (h:TyI P t agg s by_ z) (w:World):(isAgg t).run P w = .ok agg w:=by
 obtain⟨sd,hd,ha⟩:=h.desc
 subst ha
 simp only[isAgg,Sem.run_bind,zao hd,Result.andThen_ok]
 cases sd<;>rfl
theorem zbi {t:TypeId} {s by_:Nat} {z:List V} (h:TyI P t true s by_ z) (w:World) (a:Addr) (f:Nat→Value) (hc:∀ j,j<s→w.cell? (a.add j)=some (f j)) :
  (loadVar t a).run P w = .ok (.agg ((List.range s).map f).toArray) w:=by
 simp only[loadVar,Sem.run_bind,zdq h,Result.andThen_ok,if_true,zaS h,run_loadCells w a s f hc,Sem.run_pure]
theorem zb5 {t:TypeId} {s by_:Nat} {z:List V} (h:TyI P t false s by_ z) (w:World) (a:Addr) (v:Value) (hc:w.cell? a=some v) :
  (loadVar t a).run P w = .ok v w:=by
 simp only[loadVar,Sem.run_bind,zdq h,Result.andThen_ok,Bool.false_eq_true,if_false,run_load,hc]
end
def asV0 (m:Mem):D→Option (Bool×V)
 | .dat n x=>some (n,x)
 | .nil=>some (true,.slice [])
 | .own g ver lo len=>match m.at g with
  | .row ver' true nw _ xs=>bif Nat.beq ver ver' then some (nw,.slice ((xs.drop lo).take len))else none
  | _=>none
 | _=>none
def refs0 : D→List Nat
 | .own g _ _ _=>[g]
 | .ptr g _=>[g]
 | .rptr g _ _ _=>[g]
 | .sl g _=>[g]
 | _=>[]
def V.isI : V→Bool
 | .bool _ | .int _ _ | .str _=>true
 | _=>false
def asVs (m:Mem):List D→Option (Bool×List V)
 | []=>some (true,[])
 | d::r=>match asV0 m d,asVs m r with
  | some (n,x),some (n',xs)=>some ((n || x.isI) && n',x::xs)
  | _,_=>none
def asV (m:Mem):D→Option (Bool×V)
 | .ptr g off=>match m.at g with
  | .cells true nw cs=>match asVs m (cs.drop off)with
   | some (n,xs)=>bif xs.all V.one then some (nw && n,.rp xs)else none
   | none=>none
  | _=>none
 | .aggd cs=>match asVs m cs with
  | some (n,xs)=>some (n,.agg xs)
  | none=>none
 | d=>asV0 m d
def refs (m:Mem):D→List Nat
 | .ptr g off=>g::(match m.at g with
  | .cells _ _ cs=>(cs.drop off).flatMap refs0
  | _=>[])
 | .aggd cs=>cs.flatMap refs0
 | .fnd _ cs=>cs.flatMap refs0
 | d=>refs0 d
theorem zaz {w:World} {b:Nat} {arr:Array Value} {T:TypeId} {fz:Nat×Nat} (h:w.heap[b]? = some (.cells arr T fz)) (i:Nat):w.cell? ⟨b,i,none⟩=arr[i]? := by
 simp[World.cell?,h]
theorem RdF.and {C:Cf} {m:Mem} (hm:HoldsM C m) {n n':Bool} {x:V} {v:Value} (h:RdF C n x v):RdF C (n && n') x v:=by
 cases n'<;>cases n<;>first|exact h|exact h.weak hm
theorem RdF.and' {C:Cf} {m:Mem} (hm:HoldsM C m) {n n':Bool} {x:V} {v:Value} (h:RdF C n' x v):RdF C (n && n') x v:=by
 cases n'<;>cases n<;>first|exact h|exact h.weak hm
theorem zdr {i j n sz:Nat} (hi:i<n) (hj:j<sz):i*sz+j<n*sz:=by
 have h1:(i+1)*sz≤n*sz:=Nat.mul_le_mul_right _ hi
 rw[Nat.add_mul,Nat.one_mul]at h1
 omega
theorem zjM {C:Cf} {b lo len cap sz:Nat} {nw:Bool} {xs:List (List V)} {S:Nat→Prop} (hS:S b) (hD:∀ b,C.D nw b→S b)
  (h:∃ arr T fz,C.w.heap[b]? = some (.cells arr T fz)∧Loose sz arr fz∧xs.length*sz≤arr.size∧(∀ (i:Nat) (e:List V),xs[i]? = some e→e.length=sz) ∧
   (∀ (i j:Nat) (e:List V) (d:V),xs[i]? = some e→e[j]? = some d→d.one=true)∧(∀ (i j:Nat) (e:List V) d c,xs[i]? = some e→e[j]? = some d→arr[i*sz+j]? = some c→RdF C nw d c))
  (hl:lo+len≤xs.length) (hc:len≤cap) (hm:cap≤maxLen) :
  Rd S C.w (.slice ((xs.drop lo).take len)) (.slice (some ⟨b,lo*sz,none⟩) len cap):=by
 obtain⟨arr,T,fz,hb,_,hsz,hel,h1,hr⟩:=h
 have hlen:((xs.drop lo).take len).length=len:=by simp;omega
 have get:∀ (i:Nat) (e:List V),((xs.drop lo).take len)[i]? = some e→i<len∧xs[lo+i]? = some e:=by
  intro i e h
  have hi:i<len:=by
   have:=(List.getElem?_eq_some_iff.1 h).1
   omega
  rw[List.getElem?_take,if_pos hi,List.getElem?_drop]at h
  exact⟨hi,h⟩
 have hcell:∀ (i j:Nat) (e:List V) (d:V),((xs.drop lo).take len)[i]? = some e→e[j]? = some d →
   C.w.cell? ⟨b,lo*sz+i*sz+j,none⟩=some (arr.getD ((lo+i)*sz+j) undef)∧arr[(lo+i)*sz+j]? = some (arr.getD ((lo+i)*sz+j) undef):=by
  intro i j e d h2 h3
  obtain⟨hi,hx⟩:=get i e h2
  have hj:j<sz:=by
   have:=(List.getElem?_eq_some_iff.1 h3).1
   have:=hel _ _ hx
   omega
  have hlt:(lo+i)*sz+j<arr.size:=Nat.lt_of_lt_of_le (zdr (by omega) hj) hsz
  have hg:arr[(lo+i)*sz+j]? = some (arr.getD ((lo+i)*sz+j) undef):=by
   simp[Array.getElem?_eq_getElem hlt]
  refine⟨?_,hg⟩
  rw[zaz hb,show lo*sz+i*sz+j=(lo+i)*sz+j by rw[Nat.add_mul]]
  exact hg
 have:=Rd.slice (S:=S) (w:=C.w) ((xs.drop lo).take len) b (lo*sz) cap sz (fun i j=>arr.getD ((lo+i)*sz+j) undef) (by omega) hm
  (fun i e h=>hel _ _ (get i e h).2) (fun i j e d h2 h3=>h1 _ _ _ _ (get i e h2).2 h3) (fun _=>hS)
  (fun i j e d h2 h3=>(hcell i j e d h2 h3).1)
  (fun i j e d h2 h3=>Rd.mono (hr _ _ _ _ _ (get i e h2).2 h3 (hcell i j e d h2 h3).2) hD (fun _ _=>rfl))
 rwa[hlen]at this
theorem zeE {C:Cf} {m m':Mem} {d:D} {v:Value} {n:Bool} {x:V} (hm:HoldsM C m') (ha:∀ g,g∈refs0 d→m'.at g=m.at g) (h:asV0 m d=some (n,x)) (hd:RdD C m' d v):RdF C n x v:=by
 cases d with
 | dat n' x' =>
  simp only[asV0,Option.some.injEq,Prod.mk.injEq]at h
  obtain⟨rfl,rfl⟩:=h
  exact hd
 | nil =>
  simp only[asV0,Option.some.injEq,Prod.mk.injEq]at h
  obtain⟨rfl,rfl⟩:=h
  have:v = .slice none 0 0:=hd
  subst this
  exact Rd.nil
 | own g ver lo len =>
  have hg:=ha g (by simp[refs0])
  simp only[asV0]at h
  obtain⟨ver',frz,nw,sz,xs,hat,hle,_,hown⟩:=hd
  rw[hg]at hat
  rw[hat]at h
  cases frz with
  | false=>simp at h
  | true =>
   by_cases hv:ver=ver'
   ·subst hv
    simp only[Nat.beq_refl,cond_true,Option.some.injEq,Prod.mk.injEq]at h
    obtain⟨rfl,rfl⟩:=h
    obtain⟨hl,ho⟩:=hown rfl
    have hb:=hm.box g
    rw[hg,hat]at hb
    unfold OwnV at ho
    cases hi:C.ι g with
    | none =>
     simp only[hi]at ho
     simp only[BoxOK,hi]at hb
     obtain⟨rfl,rfl,rfl⟩:=ho
     subst hb
     exact Rd.nil
    | some b =>
     simp only[hi]at ho
     simp only[BoxOK,hi]at hb
     obtain⟨cap,arr,T,fz,rfl,_,_,hc,hmx⟩:=ho
     obtain⟨arr',T',fz',h1,h2,h3,h4,h5,h6,h7⟩:=hb
     refine zjM (nw:=nw) ?_ (fun b hb=>hb) ⟨arr',T',fz',h1,h2,h3,h4,h5,h6⟩ hl hc hmx
     cases nw
     ·exact hm.ns _ (h7 rfl)
     ·exact h7 rfl
   ·have:Nat.beq ver ver'=false:=by
     cases hb:Nat.beq ver ver'
     ·rfl
     ·exact absurd (Nat.eq_of_beq_eq_true hb) hv
    simp[this]at h
 | _=>simp[asV0]at h
theorem RdF.word {C:Cf} {n:Bool} {x:V} {v:Value} (h:RdF C n x v):RdF C (n || x.isI) x v:=by
 cases x with
 | bool b=>exact RdF.flat h (.bool b)
 | int k i=>exact RdF.flat h (.int k i)
 | str s=>exact RdF.flat h (.str s)
 | _=>cases n<;>exact h
theorem zfo {C:Cf} {m m':Mem} (hm:HoldsM C m'):∀ (ds:List D) (n:Bool) (xs:List V),(∀ g,g∈ds.flatMap refs0→m'.at g=m.at g)→asVs m ds=some (n,xs) →
  xs.length=ds.length∧∀ (j:Nat) (d:D) (x:V) (v:Value),ds[j]? = some d→xs[j]? = some x→RdS C m' d v→RdF C n x v
 | [],n,xs,_,h=>by
  simp only[asVs,Option.some.injEq,Prod.mk.injEq]at h
  obtain⟨rfl,rfl⟩:=h
  simp
 | d :: r,n,xs,ha,h=>by
  simp only[asVs]at h
  cases h0:asV0 m d with
  | none=>simp[h0]at h
  | some p =>
   obtain⟨n0,x0⟩:=p
   cases h1:asVs m r with
   | none=>simp[h0,h1]at h
   | some q =>
    obtain⟨n1,x1⟩:=q
    simp only[h0,h1,Option.some.injEq,Prod.mk.injEq]at h
    obtain⟨rfl,rfl⟩:=h
    obtain⟨hl,ih⟩:=zfo hm r n1 x1 (fun g hg=>ha g (by simp[hg])) h1
    refine⟨by simp[hl],fun j d' x v hd hx hr=>?_⟩
    cases j with
    | zero =>
     simp only[List.getElem?_cons_zero,Option.some.injEq]at hd hx
     subst hd;subst hx
     exact(zeE hm (fun g hg=>ha g (by simp[hg])) h0 hr.rd).word.and hm
    | succ j =>
     simp only[List.getElem?_cons_succ]at hd hx
     exact(ih j d' x v hd hx hr).and' hm
theorem zcF {C:Cf} {m m':Mem} {d:D} {v:Value} {n:Bool} {x:V} (hm:HoldsM C m') (ha:∀ g,g∈refs m d→m'.at g=m.at g) (h:asV m d=some (n,x)) (hd:RdD C m' d v):RdF C n x v:=by
 cases d with
 | ptr g off =>
  have hg:=ha g (by simp[refs])
  simp only[asV]at h
  obtain⟨frz,nw,cs,b,hat,hi,rfl⟩:=hd
  rw[hg]at hat
  rw[hat]at h
  cases frz with
  | false=>simp at h
  | true =>
   cases hv:asVs m (cs.drop off)with
   | none=>simp[hv]at h
   | some q =>
    obtain⟨n1,xs⟩:=q
    simp only[hv]at h
    cases hone:xs.all V.one with
    | false=>simp[hone]at h
    | true =>
     simp only[hone,cond_true,Option.some.injEq,Prod.mk.injEq]at h
     obtain⟨rfl,rfl⟩:=h
     have hb:=hm.box g
     rw[hg,hat]at hb
     obtain⟨b',hi',arr,T,fz,h1,h2,h3,h4,h5⟩:=hb
     rw[hi]at hi'
     injection hi' with hi'
     subst hi'
     obtain⟨hl,hall⟩:=zfo hm (cs.drop off) n1 xs (fun g' hg'=>ha g' (by simp only[refs,hat];exact List.mem_cons_of_mem _ hg')) hv
     have hcell:∀ (j:Nat) (x:V),xs[j]? = some x→∃ d,(cs.drop off)[j]? = some d∧arr[off+j]? = some (arr.getD (off+j) undef)∧cs[off+j]? = some d:=by
      intro j x hx
      have hj:j<xs.length:=(List.getElem?_eq_some_iff.1 hx).1
      have hj2:j<(cs.drop off).length:=by omega
      refine⟨(cs.drop off)[j],List.getElem?_eq_getElem hj2,?_,?_⟩
      ·have:off+j<arr.size:=by simp at hj2;omega
       simp[Array.getElem?_eq_getElem this]
      ·rw[←List.getElem?_drop];exact List.getElem?_eq_getElem hj2
     refine Rd.rp xs b off (fun j=>arr.getD (off+j) undef) (fun j d hd=>?_) ?_ (fun j x hx=>?_) (fun j x hx=>?_)
     ·rw[List.all_eq_true]at hone
      exact hone d (List.mem_of_getElem? hd)
     ·have:=h5 rfl
      cases nw<;>cases n1<;>first|exact this|exact hm.ns _ this
     ·obtain⟨d,hd,ha',_⟩:=hcell j x hx
      rw[zaz h1];exact ha'
     ·obtain⟨d,hd,ha',hd'⟩:=hcell j x hx
      exact(hall j d x _ hd hx (h4 _ _ _ hd' ha')).and' hm
 | aggd cs =>
  obtain⟨vs,rfl,hl,hv⟩:=hd
  simp only[asV]at h
  cases hc:asVs m cs with
  | none=>simp[hc]at h
  | some q =>
   obtain⟨n1,xs⟩:=q
   simp only[hc,Option.some.injEq,Prod.mk.injEq]at h
   obtain⟨rfl,rfl⟩:=h
   obtain⟨hl',hall⟩:=zfo hm cs n1 xs (fun g' hg'=>ha g' (by simpa[refs]using hg')) hc
   refine Rd.agg xs vs (by omega) (fun j d c hd hcv=>?_)
   have hj:j<cs.length:=by have:=(List.getElem?_eq_some_iff.1 hd).1;omega
   have hcs:cs[j]? = some cs[j]:=List.getElem?_eq_getElem hj
   exact hall j cs[j] d c hcs hd (hv j cs[j] c hcs hcv)
 | dat n' x'=>exact zeE hm (fun g hg=>ha g (by simpa[refs]using hg)) (show asV0 m (.dat n' x')=some (n,x)from h) hd
 | nil=>exact zeE hm (fun g hg=>ha g (by simpa[refs]using hg)) (show asV0 m .nil=some (n,x)from h) hd
 | own g ver lo len=>exact zeE hm (fun g hg=>ha g (by simpa[refs]using hg)) (show asV0 m (.own g ver lo len)=some (n,x)from h) hd
 | _=>simp[asV,asV0]at h
section
variable {P : Program} {e : Operand → D} {m : Mem} {dst : Option Tmp} {ty : TypeId} {pos : String} {af : Array Edge} {gd : Option (Nat × Bool)} {x y z : Operand} {t : TypeId} {yt : TypeId}
def ldV (agg:Bool) (s:Nat) (cs:List V):Option V :=
 if agg then(if s≤cs.length then some (.agg (cs.take s))else none)else cs.head?
theorem zoa {n agg:Bool} {s by_:Nat} {zs:List V} {cs:List V} {r:V} [ht:TyI P t agg s by_ zs] (h:e x = .dat n (.rp cs)) (hr:ldV agg s cs=some r) :
  SStep P ⟨dst,.load t x,ty,pos,af,gd⟩ e m [] (.dat n r) [] :=
 .pure fun C m' ac _ _ hx=>by
  have g1:=hx x (by simp[Op.operands]);rw[h]at g1
  generalize hv:ac.eval x=v at g1
  cases g1 with
  | rp _ b off cell h1 hS hw hrd =>
   cases agg with
   | true =>
    simp only[ldV,if_true]at hr
    split at hr
    ·rename_i hle
     injection hr with hr
     subst hr
     have hget:∀ j,j<s→cs[j]? = some (cs.getD j .undef):=fun j hj=>by
      rw[List.getD_eq_getElem?_getD,List.getElem?_eq_getElem (by omega)];rfl
     refine⟨.agg ((List.range s).map cell).toArray,?_,?_⟩
     ·simp only[execOp,hv,Instr.loadAt,Instr.sureAddr,Sem.run_bind,Sem.run_pure,Result.andThen_ok]
      rw[zbi ht C.w _ cell (fun j hj=>by rw[aadd];exact hw j _ (hget j hj))]
      rfl
     ·refine Rd.agg _ _ (by simp;omega) (fun j d c hd hc=>?_)
      have hj:j<s:=by
       have:=(List.getElem?_eq_some_iff.1 hd).1
       simp at this;omega
      rw[List.getElem?_take,if_pos hj]at hd
      have:c=cell j:=by simpa[hj]using hc.symm
      subst this
      exact hrd j d hd
    ·cases hr
   | false =>
    simp only[ldV,Bool.false_eq_true,if_false,List.head?_eq_getElem?]at hr
    have:=hw 0 r hr
    refine⟨cell 0,?_,hrd 0 r hr⟩
    simp only[execOp,hv,Instr.loadAt,Instr.sureAddr,Sem.run_bind,Sem.run_pure,Result.andThen_ok]
    rw[zb5 ht C.w _ (cell 0) (by simpa using this)]
    rfl
theorem zaI {frz nw:Bool} {s by_ g off:Nat} {zs:List V} {cs:List D} {d:D} [ht:TyI P t false s by_ zs] (h:e x = .ptr g off) (hm:m.at g = .cells frz nw cs) (hc:cs[off]? = some d) :
  SStep P ⟨dst,.load t x,ty,pos,af,gd⟩ e m [g] d [] :=
 .pure fun C m' ac ha hh hx=>by
  have g1:=hx x (by simp[Op.operands]);rw[h]at g1
  obtain⟨frz',nw',cs',b,hat,hi,hv⟩:=g1
  have hb:=hh.box g
  rw[ha g (by simp),hm]at hat
  injection hat with e1 e2 e3
  subst e1;subst e2;subst e3
  rw[ha g (by simp),hm]at hb
  obtain⟨b',hi',arr,T,fz,h1,h2,h3,h4,h5⟩:=hb
  rw[hi]at hi'
  injection hi' with hi'
  subst hi'
  have hlt:off<arr.size:=by have:=(List.getElem?_eq_some_iff.1 hc).1;omega
  have hg:arr[off]? = some arr[off]:=Array.getElem?_eq_getElem hlt
  refine⟨arr[off],?_,(h4 off d _ hc hg).rd⟩
  simp only[execOp,hv,Instr.loadAt,Instr.sureAddr,Sem.run_bind,Sem.run_pure,Result.andThen_ok]
  rw[zb5 ht C.w _ arr[off] (by rw[zaz h1];exact hg)]
  rfl
theorem zgy {frz nw:Bool} {s by_ g off:Nat} {zs:List V} {cs:List D} [ht:TyI P t true s by_ zs] (h:e x = .ptr g off) (hm:m.at g = .cells frz nw cs) (hl:Nat.ble (off+s) cs.length=true) :
  SStep P ⟨dst,.load t x,ty,pos,af,gd⟩ e m [g] (.aggd ((cs.drop off).take s)) [] :=
 .pure fun C m' ac ha hh hx=>by
  have hl:=Nat.le_of_ble_eq_true hl
  have g1:=hx x (by simp[Op.operands]);rw[h]at g1
  obtain⟨frz',nw',cs',b,hat,hi,hv⟩:=g1
  have hb:=hh.box g
  rw[ha g (by simp),hm]at hat
  injection hat with e1 e2 e3
  subst e1;subst e2;subst e3
  rw[ha g (by simp),hm]at hb
  obtain⟨b',hi',arr,T,fz,h1,h2,h3,h4,h5⟩:=hb
  rw[hi]at hi'
  injection hi' with hi'
  subst hi'
  have hcell:∀ j,j<s→arr[off+j]? = some (arr.getD (off+j) undef):=fun j hj=>by
   have:off+j<arr.size:=by omega
   simp[Array.getElem?_eq_getElem this]
  refine⟨.agg ((List.range s).map fun j=>arr.getD (off+j) undef).toArray,?_,⟨_,rfl,by simp;omega,fun j d c hd hc'=>?_⟩⟩
  ·simp only[execOp,hv,Instr.loadAt,Instr.sureAddr,Sem.run_bind,Sem.run_pure,Result.andThen_ok]
   rw[zbi ht C.w _ (fun j=>arr.getD (off+j) undef) (fun j hj=>by rw[aadd,zaz h1];exact hcell j hj)]
   rfl
  ·have hj:j<s:=by have:=(List.getElem?_eq_some_iff.1 hd).1;simp at this;omega
   have hce:c=arr.getD (off+j) undef:=by simpa[hj]using hc'.symm
   subst hce
   rw[List.getElem?_take,if_pos hj,List.getElem?_drop]at hd
   exact h4 _ _ _ hd (hcell j hj)
theorem zbn {frz nw agg:Bool} {s by_ g ver i off sz:Nat} {zs:List V} {xs:List (List V)} {el:List V} {r:V} [ht:TyI P t agg s by_ zs] (h:e x = .rptr g ver i off) (hm:m.at g = .row ver frz nw sz xs)
  (he:xs[i]? = some el) (hr:ldV agg s (el.drop off)=some r) :
  SStep P ⟨dst,.load t x,ty,pos,af,gd⟩ e m [g] (.dat nw r) [] :=
 .pure fun C m' ac ha hh hx=>by
  have g1:=hx x (by simp[Op.operands]);rw[h]at g1
  obtain⟨ver',frz',nw',sz',xs',hat,_,_,hv⟩:=g1
  have hb:=hh.box g
  rw[ha g (by simp),hm]at hat
  injection hat with e1 e2 e3 e4 e5
  subst e1;subst e2;subst e3;subst e4;subst e5
  obtain⟨hil,b,hi,hv⟩:=hv rfl
  rw[ha g (by simp),hm]at hb
  simp only[BoxOK,hi]at hb
  obtain⟨arr,T,fz,h1,h2,h3,h4,h5,h6,h7⟩:=hb
  have hel:=h4 i el he
  have hcell:∀ j d,(el.drop off)[j]? = some d→arr[i*sz+off+j]? = some (arr.getD (i*sz+off+j) undef)∧RdF C nw d (arr.getD (i*sz+off+j) undef):=by
   intro j d hd
   rw[List.getElem?_drop]at hd
   have hj:off+j<el.length:=(List.getElem?_eq_some_iff.1 hd).1
   have hlt:i*sz+(off+j)<arr.size:=Nat.lt_of_lt_of_le (zdr hil (by omega)) h3
   have hg:arr[i*sz+off+j]? = some (arr.getD (i*sz+off+j) undef):=by
    rw[Nat.add_assoc]
    simp[Array.getElem?_eq_getElem hlt]
   exact⟨hg,h6 i (off+j) el d _ he hd (by rw[←Nat.add_assoc];exact hg)⟩
  cases agg with
  | true =>
   simp only[ldV,if_true]at hr
   split at hr
   ·rename_i hle
    injection hr with hr
    subst hr
    have hget:∀ j,j<s→(el.drop off)[j]? = some ((el.drop off).getD j .undef):=fun j hj=>by
     rw[List.getD_eq_getElem?_getD,List.getElem?_eq_getElem (by omega)];rfl
    refine⟨.agg ((List.range s).map fun j=>arr.getD (i*sz+off+j) undef).toArray,?_,?_⟩
    ·simp only[execOp,hv,Instr.loadAt,Instr.sureAddr,Sem.run_bind,Sem.run_pure,Result.andThen_ok]
     rw[zbi ht C.w _ (fun j=>arr.getD (i*sz+off+j) undef) (fun j hj=>by rw[aadd,zaz h1];exact(hcell j _ (hget j hj)).1)]
     rfl
    ·refine Rd.agg _ _ (by simp at hle ⊢;omega) (fun j d c hd hc=>?_)
     have hj:j<s:=by
      have:=(List.getElem?_eq_some_iff.1 hd).1
      simp at this;omega
     rw[List.getElem?_take,if_pos hj]at hd
     have:c=arr.getD (i*sz+off+j) undef:=by simpa[hj]using hc.symm
     subst this
     exact(hcell j d hd).2
   ·cases hr
  | false =>
   simp only[ldV,Bool.false_eq_true,if_false,List.head?_eq_getElem?]at hr
   obtain⟨hg,hrd⟩:=hcell 0 r hr
   refine⟨_,?_,hrd⟩
   simp only[execOp,hv,Instr.loadAt,Instr.sureAddr,Sem.run_bind,Sem.run_pure,Result.andThen_ok]
   rw[zb5 ht C.w _ (arr.getD (i*sz+off+0) undef) (by rw[zaz h1];exact hg)]
   rfl
end
end Go.Proofs.YtcdhlofhhcgohaaGreat
