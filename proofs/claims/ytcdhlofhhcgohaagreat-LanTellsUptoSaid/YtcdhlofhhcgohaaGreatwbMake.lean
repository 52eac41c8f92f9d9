/- Rows that are made; stores into a row; copy; slices of a row; literals as rows; append at nil, and of rows; closures; what is nil. -/
import Derived.Laws.Cover3
import Derived.Laws.MakeOwn
import Derived.Test.YtcdhlofhhcgohaaGreatwbBytes
import Derived.Test.YtcdhlofhhcgohaaGreatwbOwn
namespace Go.Proofs.YtcdhlofhhcgohaaGreat
open Go.RowKit
theorem zdA {z:Array Value} {n q:Nat} (hq:q<n):(madeCells z n)[q]? = some (z[q % z.size]!):=by
  simp[madeCells,hq]
theorem zot {i j s:Nat} (hj:j<s):(i*s+j) % s=j:=by
  rw[Nat.mul_comm,Nat.mul_add_mod];exact Nat.mod_eq_of_lt hj
section
variable {P : Program} {e : Operand → D} {m : Mem} {dst : Option Tmp} {ty : TypeId} {pos : String} {af : Array Edge} {gd : Option (Nat × Bool)} {x y : Operand} {t : TypeId}
theorem zou {el s by_ l c:Nat} {agg n1 n2:Bool} {k1 k2:IntKind} {zs:List V} {a b:Int} (g:Nat) [hu:SlcI P t el] [ht:TyI P el agg s by_ zs] (h1:e x = .dat n1 (.int k1 a)) (h2:e y = .dat n2 (.int k2 b)) (ha:a=(l:Int)) (hb:b=(c:Int)) (hlc:l≤c)
    (hby:c*(by_+1)≤140737488355328) (hg:m.at g = .gone) :
    SStep P ⟨dst,.makeSlice t x y,ty,pos,af,gd⟩ e m [] (.own g 0 0 l) [(g,.row 0 false true s (List.replicate l zs))]:=by
  intro C m' ac next Q hag hm hx hn
  have g1:=zbq (by have:=hx x (by simp[Op.operands]);rwa[h1]at this)
  have g2:=zbq (by have:=hx y (by simp[Op.operands]);rwa[h2]at this)
  obtain⟨i,hi,hsz,hbt,hz⟩:=ht.info
  have hb1:c*by_≤140737488355328:=Nat.le_trans (Nat.mul_le_mul_left _ (Nat.le_succ _)) hby
  have hb2:c≤140737488355328:=by
    have:c*1≤c*(by_+1):=Nat.mul_le_mul_left _ (by omega)
    omega
  have hrun:=run_make (P:=P) C.w t el i _ hu.out hi hz k1 k2 l c (by omega) (by omega) (by
    rw[hbt]
    have:((by_*c:Nat):Int)≤281474976710656:=by rw[Nat.mul_comm];omega
    rwa[Int.natCast_mul]at this) (by omega)
  simp only[Int.toNat_natCast,hsz]at hrun
  have hexec:(execOp ac.eval ⟨dst,.makeSlice t x y,ty,pos,af,gd⟩).run P C.w = .ok (.value (.slice (some ⟨C.w.heap.size,0,none⟩) l c)) (C.w.alloc (.cells (madeCells (zval agg zs).cells (c*s)) el)):=by
    simp[execOp,g1,g2,ha,hb,hrun]
  have hg':m'.at g = .gone:=(hag g (by simp)).trans hg
  have hblk:(C.w.alloc (.cells (madeCells (zval agg zs).cells (c*s)) el)).heap[C.w.heap.size]? = some (.cells (madeCells (zval agg zs).cells (c*s)) el (0,0)):=heap_alloc_new C.w _
  have hz0:=zcells ht
  have hzl:=ht.zl
  have hzc:=ht.zc
  rw[List.all_eq_true]at hzc
  have hrep:∀ (i:Nat) (e:List V),(List.replicate l zs)[i]? = some e→i<l∧e=zs:=fun i e h=>by
    rw[List.getElem?_replicate]at h
    split at h
    · injection h with h;exact⟨by assumption,h.symm⟩
    · cases h
  have hst:=ziL (g:=g) (xs:=List.replicate l zs) (sz:=s) (nw:=true) hm hg' (Grew.alloc C.w (.cells (madeCells (zval agg zs).cells (c*s)) el)) C.w.heap.size (Nat.le_refl _) hblk (loose0 _)
    (by rw[List.length_replicate,size_madeCells];exact Nat.mul_le_mul_right _ hlc) (fun i e h=>by rw[(hrep i e h).2,hzl]) (fun i j e d h1 h2=>by
      rw[(hrep i e h1).2]at h2
      exact zog (hzc d (List.mem_of_getElem? h2))) (fun i j e d u h1 h2 h3=>by
      obtain⟨hil,he⟩:=hrep i e h1
      rw[he]at h2
      have hj:j<s:=by rw[←hzl];exact(List.getElem?_eq_some_iff.1 h2).1
      rw[zdA (Nat.lt_of_lt_of_le (zdr hil hj) (Nat.mul_le_mul_right _ hlc)),hz0]at h3
      simp only[List.size_toArray,List.length_map,hzl,zot hj,Option.some.injEq]at h3
      rw[←h3]
      have:(zs.map V.val).toArray[j]! = d.val:=by
        obtain⟨hj',he'⟩:=List.getElem?_eq_some_iff.1 h2
        simp[h2]
      rw[this]
      exact zof (hzc d (List.mem_of_getElem? h2)))
  refine zaC hexec (hn _ _ hst ?_)
  refine⟨0,false,true,s,List.replicate l zs,Mem.at_cons_same _ _ _,Nat.le_refl _,⟨_,_,_,rfl⟩,fun _=>⟨by simp,?_⟩⟩
  rw[Cf.set_same]
  exact⟨c,_,el,(0,0),by simp,hblk,by rw[size_madeCells];simp,hlc,by unfold maxLen;omega⟩
def zcn (cs:List V) (off:Nat) (ds:List V):List V:=cs.take off++(ds++cs.drop (off+ds.length))
theorem zhR {cs:List V} {off:Nat} {ds:List V} (h:off+ds.length≤cs.length):(zcn cs off ds).length=cs.length:=by
  simp[zcn];omega
theorem zgM {cs:List V} {off:Nat} {ds:List V} (h:off+ds.length≤cs.length) (j:Nat) :
    (zcn cs off ds)[j]? = if off≤j∧j<off+ds.length then ds[j-off]? else cs[j]? := by
  unfold zcn
  rw[List.getElem?_append,List.length_take,Nat.min_eq_left (by omega)]
  by_cases h1:j<off
  · rw[if_pos h1,if_neg (by omega),List.getElem?_take,if_pos h1]
  · rw [if_neg h1,List.getElem?_append]
    by_cases h2:j<off+ds.length
    · rw[if_pos (by omega),if_pos (by omega)]
    · rw[if_neg (by omega),if_neg (by omega),List.getElem?_drop]
      congr 1
      omega
theorem zj4 {C:Cf} {m:Mem} {g b ver sz:Nat} {nw nw':Bool} {xs xs':List (List V)} {w':World} {arr arr':Array Value} {T:TypeId} {fz fz':Nat×Nat} (hh:HoldsM C m) (hmg:m.at g = .row ver false nw sz xs) (hi:C.ι g=some b)
    (hl:xs'.length=xs.length) (h0:C.w.heap[b]? = some (.cells arr T fz)) (h1:w'.heap[b]? = some (.cells arr' T fz')) (h2:arr'.size=arr.size)
    (q4:w'.os=C.w.os) (q5:w'.tape=C.w.tape) (q6:w'.output=C.w.output) (q7:w'.heap.size=C.w.heap.size) (q8:∀ k,k≠b→w'.heap[k]? = C.w.heap[k]?)
    (hbx:(∀ n x v,RdF C n x v→RdF { C with w:=w' } n x v)→ziF { C with w:=w' } b false nw' sz xs') :
    Step C m { C with w:=w' } ((g,.row ver false nw' sz xs')::m):=by
  have hat:∀ {ver1 frz nw1 sz1 xs1},m.at g = .row ver1 frz nw1 sz1 xs1→ver1=ver∧frz=false∧nw1=nw∧sz1=sz∧xs1=xs:=fun h=>by
    rw[hmg]at h
    injection h with e1 e2 e3 e4 e5
    exact⟨e1.symm,e2.symm,e3.symm,e4.symm,e5.symm⟩
  refine Step.write hh (by rw[hmg];rfl) hi q4 q5 q6 q7 q8 ?_ ?_ ?_ ?_ (fun hd _=>hbx hd)
  · rintro v0 lo0 len0 u ⟨ver1,frz,nw1,sz1,xs1,h,hle,ha,ho⟩
    obtain⟨e1,e2,e3,e4,e5⟩:=hat h
    subst e1 e2 e3 e4 e5
    refine⟨ver1,false,nw',sz1,xs',Mem.at_cons_same _ _ _,hle,ha,fun hv=>?_⟩
    obtain⟨p1,p2⟩:=ho hv
    refine⟨by omega,?_⟩
    show OwnV w' sz1 (C.ι g) lo0 len0 u
    rw[hi]at p2 ⊢
    obtain⟨cap,arr1,T1,fz1,r1,r2,r3,r4⟩:=p2
    rw[h0]at r2
    injection r2 with r2
    injection r2 with r2 _ _
    subst r2
    exact⟨cap,arr',T,fz',r1,h1,by rw[h2];exact r3,r4⟩
  · rintro off v ⟨_,_,_,_,h,_⟩;rw[hmg]at h;cases h
  · rintro v0 i0 off0 u ⟨ver1,frz,nw1,sz1,xs1,h,hle,ha,ho⟩
    obtain⟨e1,e2,e3,e4,e5⟩:=hat h
    subst e1 e2 e3 e4 e5
    refine⟨ver1,false,nw',sz1,xs',Mem.at_cons_same _ _ _,hle,ha,fun hv=>?_⟩
    obtain⟨p1,p2⟩:=ho hv
    exact⟨by omega,p2⟩
  · rintro v ⟨_,_,_,_,h,_⟩;rw[hmg]at h;cases h
theorem zov {i j i' j' s:Nat} (hj:j<s) (hj':j'<s):i*s+j=i'*s+j'↔i=i'∧j=j':=by
  constructor
  · intro h
    have h1:(i*s+j) / s=i:=by rw[Nat.mul_comm,Nat.mul_add_div (by omega)];rw[Nat.div_eq_of_lt hj];omega
    have h2:(i'*s+j') / s=i':=by rw[Nat.mul_comm,Nat.mul_add_div (by omega)];rw[Nat.div_eq_of_lt hj'];omega
    rw[h]at h1
    have e:i=i':=h1.symm.trans h2
    subst e
    exact⟨rfl,by omega⟩
  · rintro⟨rfl,rfl⟩;rfl
theorem zqK {agg nw n nf:Bool} {s by_ g ver i off sz:Nat} {zs:List V} {xs:List (List V)} {el vs:List V} [ht:TyI P t agg s by_ zs] (h:e x = .rptr g ver i off) (hmg:m.at g = .row ver false nw sz xs) (he:xs[i]? = some el)
    (hd:D.vcells m (e y)=some (n,vs)) (hnf:nf=n∨∀ d∈vs,Flat d) (h1:vs.all V.one=true) (hl:vs.length=s) (hle:Nat.ble (off+s) el.length=true) :
    SStep P ⟨none,.store t x y,ty,pos,af,gd⟩ e m (g::refs m (e y)) .any [(g,.row ver false (nw && nf) sz (xs.set i (zcn el off vs)))]:=by
  intro C m' a next Q ha hh hx hn
  have hle:=Nat.le_of_ble_eq_true hle
  have g1:=hx x (by simp[Op.operands]);rw[h]at g1
  have g2:=hx y (by simp[Op.operands])
  have hmg':m'.at g = .row ver false nw sz xs:=(ha g (by simp)).trans hmg
  obtain⟨ver',frz',nw',sz',xs',hat,_,_,hv⟩:=g1
  rw[hmg']at hat
  injection hat with e1 e2 e3 e4 e5
  subst e1 e2 e3 e4 e5
  obtain⟨hil,b,hi,hv⟩:=hv rfl
  have hb:=hh.box g
  rw[hmg',hi]at hb
  obtain⟨arr,T,fz,k1,k2,k3,k4,k5,k6,_⟩:=hb
  have hel:=k4 i el he
  obtain ⟨c1,c2⟩:=zjO hh (fun g' hg'=>ha g' (.inl (List.mem_cons_of_mem _ (by
    rcases hg' with hg'|⟨cs,hcs,hg'⟩
    · cases hex:e y with
      | aggd cs=>rw[hex]at hg';simp[refs0]at hg'
      | fnd f cs=>rw[hex]at hg';simp[refs0]at hg'
      | ptr g1 off1=>rw[hex]at hg';simp only[refs0]at hg';simp only[refs];exact List.mem_cons.2 (.inl (by simpa using hg'))
      | _=>rw[hex]at hg';exact hg'
    · rw[hcs];exact hg')))) hd g2
  have hone:∀ u,u∈(a.eval y).cells.toList→u.oneCell'=true:=fun u hu=>by
    obtain⟨j,hj,rfl⟩:=List.mem_iff_getElem.1 hu
    have hj':j<(a.eval y).cells.size:=by simpa using hj
    have hvs:vs[j]? = some (vs[j]'(by omega)):=List.getElem?_eq_getElem (by omega)
    have:=c2 j _ _ hvs (Array.getElem?_eq_getElem hj')
    rw[List.all_eq_true]at h1
    exact(zbC this (h1 _ (List.mem_of_getElem? hvs))).2
  have hlen:(a.eval y).cells.toList.length=s:=by simp[c1,hl]
  obtain ⟨w',arr',hr,q1,q2,q3,q4,q5,q6,q7,q8⟩:=zbu (P:=P) b T fz (a.eval y).cells.toList 0 (i*sz+off) C.w arr k1 k2 (by
    rw[hlen]
    have:(i+1)*sz≤xs.length*sz:=Nat.mul_le_mul_right _ hil
    rw[Nat.add_mul,Nat.one_mul]at this
    omega) hone
  rw[hlen]at q3
  simp only[Nat.add_zero]at q3
  have hst : Step C m' { C with w:=w' } ((g,.row ver false (nw && nf) sz (xs.set i (zcn el off vs)))::m'):=by
    refine zj4 hh hmg' hi (by simp) k1 q1 q2 q4 q5 q6 q7 q8 (fun hdd=>?_)
    have hget:∀ (i':Nat) (e':List V),(xs.set i (zcn el off vs))[i']? = some e'→i'≠i∧xs[i']? = some e'∨i'=i∧e'=zcn el off vs:=fun i' e' h'=>by
      rw[List.getElem?_set]at h'
      by_cases hii:i=i'
      · rw[if_pos hii]at h'
        split at h'
        · injection h' with h';exact .inr ⟨hii.symm,h'.symm⟩
        · exfalso;omega
      · rw[if_neg hii]at h'
        exact .inl ⟨fun e=>hii e.symm,h'⟩
    have hsl:(zcn el off vs).length=sz:=by rw[zhR (by omega),hel]
    refine⟨arr',T,fz,q1,⟨fun j hj=>k2.1 j (by omega),k2.2⟩,by rw[q2,List.length_set];exact k3,fun i' e' h'=>?_,fun i' j e' d h' hd'=>?_,fun i' j e' d c h' hd' hc'=>hdd _ _ _ ?_,fun h=>by cases h⟩
    · rcases hget i' e' h' with⟨_,h2⟩|⟨rfl,rfl⟩
      · exact k4 i' e' h2
      · exact hsl
    · rcases hget i' e' h' with⟨_,h2⟩|⟨rfl,rfl⟩
      · exact k5 i' j e' d h2 hd'
      · rw [zgM (by omega)]at hd'
        split at hd'
        · rw[List.all_eq_true]at h1
          exact h1 d (List.mem_of_getElem? hd')
        · exact k5 i' j el d he hd'
    · rcases hget i' e' h' with⟨hne,h2⟩|⟨rfl,rfl⟩
      · have hj:j<sz:=by rw[←k4 i' e' h2];exact(List.getElem?_eq_some_iff.1 hd').1
        rw[q3,if_neg]at hc'
        · exact(k6 i' j e' d c h2 hd' hc').and hh
        · rintro⟨p1,p2⟩
          have:=(zov (i:=i) (j:=i'*sz+j-i*sz) (i':=i') (j':=j) (s:=sz) (by omega) hj).1 (by omega)
          exact hne this.1.symm
      · have hj:j<sz:=by rw[←hsl];exact(List.getElem?_eq_some_iff.1 hd').1
        rw[zgM (by omega)]at hd'
        rw[q3]at hc'
        by_cases hin:off≤j∧j<off+vs.length
        · rw [if_pos hin]at hd'
          rw[if_pos (by omega),show i'*sz+j-(i'*sz+off)=j-off by omega,Array.getElem?_toList]at hc'
          have:=c2 _ _ _ hd' hc'
          rcases hnf with rfl|hf
          · exact this.and' hh
          · have:RdF C nf d c:=RdF.flat this (hf d (List.mem_of_getElem? hd'))
            exact this.and' hh
        · rw[if_neg hin]at hd'
          rw[if_neg (by omega)]at hc'
          exact(k6 i' j el d c he hd' hc').and hh
  refine zfn (w':=w') ?_ (hn undef _ hst trivial)
  simp only[execOp,hv,Instr.storeAt,Instr.sureAddr,Sem.run_bind,Sem.run_pure,Result.andThen_ok,zfQ ht _ _ _ (c1.trans hl),hr]
def zsE (P:Program) (C:Cf) (s:Nat) (n:Bool) (els:List (List V)) (v:Value):Prop :=
  (Builtin.lenOf v).run P C.w = .ok els.length C.w∧∀ k,k≤els.length→∃ arr:Array Value,(Builtin.firstCells s k v).run P C.w = .ok arr C.w∧arr.size=k*s∧(∀ u∈arr.toList,u.oneCell'=true) ∧
    ∀ (i j:Nat) (e:List V) d c,i<k→els[i]? = some e→e[j]? = some d→arr[i*s+j]? = some c→RdF C n d c
theorem zj5 {C:Cf} {s:Nat} {n:Bool} {els:List (List V)} {v:Value} (hs:0<s) (hel:∀ e∈els,e.length=s) (h:zln C s n els v):zsE P C s n els v:=by
  rcases h with⟨rfl,a,c,rfl⟩|⟨h0,b2,off,cap,rfl,hcell⟩
  · refine⟨by simp[Builtin.lenOf],fun k hk=>?_⟩
    simp at hk
    subst hk
    refine⟨#[],?_,by simp,by simp,fun i j e d c h=>by omega⟩
    cases a with
    | none=>simp[Builtin.firstCells]
    | some a=>exact run_firstCells_some (P:=P) C.w s 0 a 0 c [] (by simp) (by simp)
  · refine ⟨by simp[Builtin.lenOf],fun k hk=>?_⟩
    have hat:∀ q,q<k*s→∃ c,C.w.cell? ⟨b2,off+q,none⟩=some c∧c.oneCell'=true:=fun q hq=>by
      obtain⟨k1,k2,k3⟩:=zgI hs hq
      have he:=List.getElem?_eq_getElem (show q / s<els.length by omega)
      have hl:=hel _ (List.mem_of_getElem? he)
      obtain⟨c,c1,_,c3⟩:=hcell (q / s) (q % s) _ _ he (List.getElem?_eq_getElem (by omega))
      rw[Nat.add_assoc,←k3]at c1
      exact⟨c,c1,c3⟩
    let news:List Value:=(List.range (k*s)).map fun q=>(C.w.cell? ⟨b2,off+q,none⟩).getD undef
    have hnl:news.length=k*s:=by simp[news]
    have hget:∀ q u,news[q]? = some u→q<k*s∧C.w.cell? ⟨b2,off+q,none⟩=some u∧u.oneCell'=true:=fun q u hq=>by
      have hlt:q<k*s:=by rw[←hnl];exact(List.getElem?_eq_some_iff.1 hq).1
      obtain⟨c,c1,c3⟩:=hat q hlt
      have:news[q]? = some c:=by simp[news,hlt,c1]
      rw[this]at hq
      injection hq with hq
      subst hq
      exact⟨hlt,c1,c3⟩
    refine⟨news.toArray,run_firstCells_some (P:=P) C.w s k _ els.length cap news hnl (fun j u hj=>by rw[aadd];exact(hget j u hj).2.1),by simp[hnl],fun u hu=>?_,fun i j e d c hi h1 h2 h3=>?_⟩
    · obtain⟨q,hq⟩:=List.getElem?_of_mem (by simpa using hu)
      exact(hget q u hq).2.2
    · rw[List.getElem?_toArray]at h3
      obtain⟨c',c1,c2,_⟩:=hcell i j e d h1 h2
      have:=(hget _ _ h3).2.1
      rw[←Nat.add_assoc,c1]at this
      injection this with this
      subst this
      exact c2
theorem zow {C:Cf} {l:List UInt8}:zsE P C 1 true (zbZ l) (.string ⟨l.toArray⟩):=by
  have hsz:(⟨l.toArray⟩:ByteArray).size=l.length:=by simp[ByteArray.size]
  refine⟨by simp[Builtin.lenOf,hsz,zcN],fun k hk=>?_⟩
  rw[zcN]at hk
  refine⟨((l.take k).map fun b=>Value.int .u8 b.toNat).toArray,?_,by simp;omega,fun u hu=>?_,fun i j e d c hi h1 h2 h3=>?_⟩
  · simp[Builtin.firstCells,zj3]
  · simp only[List.mem_map]at hu
    obtain⟨b,_,rfl⟩:=hu
    rfl
  · simp only[zbZ,List.getElem?_map,Option.map_eq_some_iff]at h1
    obtain⟨b,hb,rfl⟩:=h1
    have hj:j=0:=by have:=(List.getElem?_eq_some_iff.1 h2).1;simp at this;exact this
    subst hj
    simp at h2
    subst h2
    simp only[Nat.mul_one,Nat.add_zero,List.getElem?_toArray,List.getElem?_map,List.getElem?_take,if_pos hi,hb,Option.map_some,Option.some.injEq]at h3
    subst h3
    exact .int _ _
theorem zj6 {C:Cf} {m':Mem} {g ver lo len s:Nat} {frz nw:Bool} {xs:List (List V)} {v:Value} (hh:HoldsM C m') (hmg:m'.at g = .row ver frz nw s xs) (h:RdD C m' (.own g ver lo len) v):zln C s nw ((xs.drop lo).take len) v:=by
  obtain⟨ver',frz',nw',sz',xs',hat,_,_,hv⟩:=h
  rw[hmg]at hat
  injection hat with e1 e2 e3 e4 e5
  subst e1 e2 e3 e4 e5
  obtain⟨hl,ho⟩:=hv rfl
  have hb:=hh.box g
  rw[hmg]at hb
  cases hi:C.ι g with
  | none =>
    rw[hi]at ho hb
    obtain⟨rfl,rfl,rfl⟩:=ho
    exact .inl ⟨by simp,_,_,rfl⟩
  | some b =>
    rw[hi]at ho hb
    obtain⟨cap,arr,T,fz,rfl,h1,h2,h3,h4⟩:=ho
    obtain⟨arr',T',fz',k1,k2,k3,k4,k5,k6,_⟩:=hb
    have hlen:((xs.drop lo).take len).length=len:=by simp;omega
    by_cases h0:len=0
    · subst h0
      exact .inl ⟨by simp,_,_,rfl⟩
    · refine .inr ⟨fun e=>h0 (by rw[←hlen,e];rfl),b,lo*s,cap,by rw[hlen],fun i j e d q1 q2=>?_⟩
      have hil:i<len:=by rw[←hlen];exact(List.getElem?_eq_some_iff.1 q1).1
      rw[List.getElem?_take,if_pos hil,List.getElem?_drop]at q1
      have hj:j<s:=by rw[←k4 _ e q1];exact(List.getElem?_eq_some_iff.1 q2).1
      have hlt:(lo+i)*s+j<arr'.size:=Nat.lt_of_lt_of_le (zdr (by omega) hj) k3
      have hg:arr'[(lo+i)*s+j]? = some arr'[(lo+i)*s+j]:=Array.getElem?_eq_getElem hlt
      have hr:=k6 _ _ _ _ _ q1 q2 hg
      refine⟨_,?_,hr,(zbC hr (k5 _ _ _ _ q1 q2)).2⟩
      rw[zaz k1,show lo*s+i*s+j=(lo+i)*s+j by rw[Nat.add_mul]]
      exact hg
inductive SrcD (m:Mem):D→Nat→Bool→List (List V)→Prop
  | dat (n:Bool) (els:List (List V)) (s:Nat) (hel:∀ e∈els,e.length=s):SrcD m (.dat n (.slice els)) s n els
  | str (n:Bool) (l:List UInt8):SrcD m (.dat n (.str l)) 1 true (zbZ l)
  | own (g ver lo len s:Nat) (frz nw:Bool) (xs:List (List V)) (h:m.at g = .row ver frz nw s xs):SrcD m (.own g ver lo len) s nw ((xs.drop lo).take len)
theorem zsF {C:Cf} {m m':Mem} {d:D} {s:Nat} {n:Bool} {els:List (List V)} {v:Value} (hs:0<s) (hh:HoldsM C m') (hag:∀ g,g∈refs0 d→m'.at g=m.at g) (h:SrcD m d s n els) (hr:RdD C m' d v):zsE P C s n els v:=by
  cases h with
  | dat n els s hel=>exact zj5 hs hel (zgH hr hel)
  | str n l=>rw[ze1 hr];exact zow
  | own g ver lo len s frz nw xs h =>
    have hmg:=(hag g (by simp[refs0])).trans h
    refine zj5 hs (fun e he=>?_) (zj6 hh hmg hr)
    have hb:=hh.box g
    rw[hmg]at hb
    have he':=List.mem_of_mem_drop (List.mem_of_mem_take he)
    obtain⟨i,hi⟩:=List.getElem?_of_mem he'
    cases hio:C.ι g with
    | none=>rw[hio]at hb;have hb:xs=[]:=hb;rw[hb]at hi;simp at hi
    | some b=>rw[hio]at hb;obtain⟨_,_,_,_,_,_,k4,_⟩:=hb;exact k4 i e hi
theorem zsa {g ver len s by_ el:Nat} {agg nw n nf:Bool} {zs:List V} {xs els:List (List V)} {ts:TypeId} [hu:SlcI P t el] [ht:TyI P el agg s by_ zs] (hs:0<s) (h1:e x = .own g ver 0 len) (hmg:m.at g = .row ver false nw s xs) (hlx:len=xs.length)
    (h2:SrcD m (e y) s n els) (hel:∀ e∈els,e.length=s∧∀ d∈e,d.one=true) (hnf:nf=n∨∀ e∈els,∀ d∈e,Flat d) (hne:∀ v lo l,e y ≠ .own g v lo l) :
    SStep P ⟨dst,.call { callee := .builtin .copy,args := #[x,y],argTypes := #[t,ts] },ty,pos,af,gd⟩ e m (g::refs0 (e y)) (.dat true (.int .i64 (min els.length len:Nat))) [(g,.row ver false (nw && nf) s (els.take len++xs.drop els.length))]:=by
  intro C m' a next Q ha hm hx hn
  have g1:=hx x (by simp[Op.operands,Call.operands]);rw[h1]at g1
  have g2:=hx y (by simp[Op.operands,Call.operands])
  have hmg':m'.at g = .row ver false nw s xs:=(ha g (by simp)).trans hmg
  obtain⟨hlenR,hsrc⟩:=zsF (P:=P) hs hm (fun g' hg'=>ha g' (.inl (List.mem_cons_of_mem _ hg'))) h2 g2
  obtain⟨cs,hf,hcs,hone,hcr⟩:=hsrc (min els.length len) (Nat.min_le_left _ _)
  obtain⟨ver',frz',nw',sz',xs',hat,_,_,hv0⟩:=g1
  rw[hmg']at hat
  injection hat with e1 e2 e3 e4 e5
  subst e1 e2 e3 e4 e5
  obtain⟨hlen,hv⟩:=hv0 rfl
  have hexec:∀ {v:Value} {w':World},(Builtin.copy_ #[t,ts] ty #[a.eval x,a.eval y]).run P C.w = .ok v w' →
      (execOp a.eval ⟨dst,.call { callee := .builtin .copy,args := #[x,y],argTypes := #[t,ts] },ty,pos,af,gd⟩).run P C.w = .ok (.value v) w':=fun h=>by
    simp[execOp,resolve,invoke,builtin,h]
  have hbox:=hm.box g
  rw[hmg']at hbox
  have hgi:goInt ((min els.length len:Nat):Int) = .int .i64 (min els.length len:Nat):=rfl
  have hlist:(els.take len++xs.drop els.length).length=xs.length:=by
    rw[List.length_append,List.length_take,List.length_drop]
    omega
  cases hi:C.ι g with
  | none =>
    rw[hi]at hv hbox
    obtain⟨hv,_,hl0⟩:=hv
    have hx0:xs=[]:=hbox
    have hrun:(Builtin.copy_ #[t,ts] ty #[a.eval x,a.eval y]).run P C.w = .ok (.int .i64 (min els.length len:Nat)) C.w:=by
      have hf':=hf
      rw[hl0,Nat.min_zero]at hf' ⊢
      simp only[Builtin.copy_,hv]
      simp[hf',zao hu.out,hlenR,zaS ht,goInt]
    have hst : Step C m' C ((g,.row ver false (nw && nf) s (els.take len++xs.drop els.length))::m'):=by
      have h0:els.take len++xs.drop els.length=[]:=by rw[hx0,hl0];simp
      rw[h0]
      have hs0:=Step.refl hm
      refine⟨⟨rfl,rfl,rfl,Nat.le_refl _,fun _ _ _=>rfl,fun g' k q1 q2=>.inr ⟨g',?_,q2⟩,fun _ h=>h,fun _ h=>h,fun _ h=>.inl h,fun _ h=>.inl h⟩,⟨fun g'=>?_,fun g1 g2 k q1 q2=>hm.inj g1 g2 k ?_ ?_,fun g' k q1=>hm.sep g' k ?_,hm.sdom,hm.ns⟩,RdD.of_S ?_⟩
      · by_cases e:g'=g
        · subst e;rw[hmg'];rfl
        · rwa[Mem.at_cons_other _ _ (Ne.symm e)]at q1
      · by_cases e:g'=g
        · subst e;rw[Mem.at_cons_same,hi];exact rfl
        · rw [Mem.at_cons_other _ _ (Ne.symm e)]
          refine BoxOK.upd (hm.box g') (fun _ _=>rfl) (fun _ _ _ h=>h) (fun d v h=>?_) (fun _ h=>h) (fun _ h=>h)
          refine RdS.upd g (fun g' h _=>Mem.at_cons_other _ _ (Ne.symm h)) (fun _ _ _=>rfl) (fun _ _ _ _ _=>rfl) (fun _ _ _ h=>h) ?_ ?_ ?_ ?_ d v h
          all_goals first
            | (rintro v lo l u ⟨v1,f1,n1,s1,x1,q1,q2,q3,q4⟩
               rw[hmg']at q1
               injection q1 with p1 p2 p3 p4 p5
               subst p1 p2 p3 p4 p5
               exact⟨ver,false,_,s,[],Mem.at_cons_same _ _ _,q2,q3,fun hv=>by have:=q4 hv;rw[hx0]at this;exact this⟩)
            | (rintro off u ⟨_,_,_,_,q1,_⟩;rw[hmg']at q1;cases q1)
            | (rintro u ⟨_,_,_,_,q1,_⟩;rw[hmg']at q1;cases q1)
      · intro e;rw[Mem.at_cons_other _ _ (fun h=>?_)]at q1
        · exact q1 e
        · subst h;rw[hmg']at e;cases e
      · intro e;rw[Mem.at_cons_other _ _ (fun h=>?_)]at q2
        · exact q2 e
        · subst h;rw[hmg']at e;cases e
      · by_cases e:g'=g
        · subst e;rw[hmg'];rfl
        · rwa[Mem.at_cons_other _ _ (Ne.symm e)]at q1
      · intro d v h
        refine RdS.upd g (fun g' h _=>Mem.at_cons_other _ _ (Ne.symm h)) (fun _ _ _=>rfl) (fun _ _ _ _ _=>rfl) (fun _ _ _ h=>h) ?_ ?_ ?_ ?_ d v h
        all_goals first
          | (rintro v lo l u ⟨v1,f1,n1,s1,x1,q1,q2,q3,q4⟩
             rw[hmg']at q1
             injection q1 with p1 p2 p3 p4 p5
             subst p1 p2 p3 p4 p5
             exact⟨ver,false,_,s,[],Mem.at_cons_same _ _ _,q2,q3,fun hv=>by have:=q4 hv;rw[hx0]at this;exact this⟩)
          | (rintro off u ⟨_,_,_,_,q1,_⟩;rw[hmg']at q1;cases q1)
          | (rintro u ⟨_,_,_,_,q1,_⟩;rw[hmg']at q1;cases q1)
    exact zaC (hexec hrun) (hn _ C hst zbB)
  | some b =>
    rw[hi]at hv hbox
    obtain⟨cap,arr,T,fz,hv,hh,hle,hlc,hcm⟩:=hv
    obtain⟨arr',T',fz',k1,k2,k3,k4,k5,k6,_⟩:=hbox
    rw[hh]at k1
    injection k1 with k1
    injection k1 with k1 k1' k1''
    subst k1 k1' k1''
    rw[Nat.zero_mul]at hv
    have hcl:cs.toList.length=min els.length len*s:=by simpa using hcs
    obtain ⟨w',A,r1,r2,r3,r4,r5,r6,r7,r8,r9⟩:=zbu (P:=P) b T fz cs.toList 0 0 C.w arr hh k2 (by
      rw[hcl]
      have:min els.length len*s≤xs.length*s:=Nat.mul_le_mul_right _ (by omega)
      omega) hone
    rw[hcl]at r4
    simp only[Nat.zero_add,Nat.zero_le,true_and,Nat.sub_zero]at r4
    have hrun:(Builtin.copy_ #[t,ts] ty #[a.eval x,a.eval y]).run P C.w = .ok (.int .i64 (min els.length len:Nat)) w':=by
      have hmin:Nat.min els.length len=min els.length len:=rfl
      simp only[Builtin.copy_,hv]
      simp[zao hu.out,hlenR,zaS ht,hf,r1,hgi,hmin]
    have hst:Step C m' { C with w:=w' } ((g,.row ver false (nw && nf) s (els.take len++xs.drop els.length))::m'):=by
      refine zj4 hm hmg' hi hlist hh r2 r3 r5 r6 r7 r8 r9 (fun hdd=>?_)
      have hget:∀ (i:Nat) (e:List V),(els.take len++xs.drop els.length)[i]? = some e→(i<min els.length len∧els[i]? = some e)∨(min els.length len≤i∧xs[i]? = some e):=fun i e h=>by
        by_cases hi':i<min els.length len
        · rw[List.getElem?_append_left (by rw[List.length_take];omega),List.getElem?_take,if_pos (by omega)]at h
          exact .inl ⟨hi',h⟩
        · rw [List.getElem?_append_right (by rw[List.length_take];omega),List.getElem?_drop,List.length_take]at h
          refine .inr ⟨by omega,?_⟩
          by_cases hcase:els.length≤len
          · rw[show i=els.length+(i-min len els.length) by omega];exact h
          · exfalso
            have:=(List.getElem?_eq_some_iff.1 h).1
            omega
      refine⟨A,T,fz,r2,⟨fun j hj=>k2.1 j (by omega),k2.2⟩,by rw[r3,hlist];exact k3,fun i e h=>?_,fun i j e d h h'=>?_,fun i j e d c h h' hc=>hdd _ _ _ ?_,fun h=>by cases h⟩
      · rcases hget i e h with⟨_,h⟩|⟨_,h⟩
        · exact(hel e (List.mem_of_getElem? h)).1
        · exact k4 i e h
      · rcases hget i e h with⟨_,h⟩|⟨_,h⟩
        · exact(hel e (List.mem_of_getElem? h)).2 d (List.mem_of_getElem? h')
        · exact k5 i j e d h h'
      · rcases hget i e h with⟨q,h⟩|⟨q,h⟩
        · have hj:j<s:=by rw[←(hel e (List.mem_of_getElem? h)).1];exact(List.getElem?_eq_some_iff.1 h').1
          rw[r4,if_pos (zdr q hj),Array.getElem?_toList]at hc
          have:=hcr i j e d c q h h' hc
          rcases hnf with rfl|hf'
          · exact this.and' hm
          · have:RdF C nf d c:=RdF.flat this (hf' e (List.mem_of_getElem? h) d (List.mem_of_getElem? h'))
            exact this.and' hm
        · have hj:j<s:=by rw[←k4 i e h];exact(List.getElem?_eq_some_iff.1 h').1
          rw[r4,if_neg]at hc
          · exact(k6 i j e d c h h' hc).and hm
          · have:min els.length len*s≤i*s:=Nat.mul_le_mul_right _ q
            omega
    exact zaC (hexec hrun) (hn _ _ hst zbB)
theorem zb8 {el s by_ len:Nat} {agg n:Bool} {zs:List V} {els:List (List V)} {parts:Array (Nat×Operand)} (g:Nat) [hu:SlcI P t el] [ht:TyI P el agg s by_ zs] (h:elsV m e s 0 parts.toList=some (n,els)) (hl:Nat.beq parts.size len=true) (hb:Nat.ble (len*s) 16777216=true) (hb2:Nat.ble len 16777216=true) (hg:m.at g = .gone) :
    SStep P ⟨dst,.buildSlice t len parts,ty,pos,af,gd⟩ e m (parts.toList.flatMap fun p=>refs m (e p.2)) (.own g 0 0 len) [(g,.row 0 false n s els)]:=by
  intro C m' a next Q ha hm hx hn
  have hl:=Nat.eq_of_beq_eq_true hl
  have hb:=Nat.le_of_ble_eq_true hb
  have hmem:∀ i y,(i,y)∈parts.toList→RdD C m' (e y) (a.eval y):=fun i y hy=>hx y (by
    simp only[Op.operands,List.mem_toArray,List.mem_map]
    exact⟨(i,y),hy,rfl⟩)
  obtain ⟨arr',g1,g2,g3,g4,_,g6⟩:=zoq (ρ:=a.eval) hm parts.toList 0 n els ((Array.range (len*s)).map ((zs.map V.val).toArray[· % (zs.map V.val).toArray.size]!)) hmem
    (fun i y g hy hg=>ha g (.inl (List.mem_flatMap.2 ⟨(i,y),hy,hg⟩))) h (by simp[←hl])
  have hlen:els.length=len:=by rw[g3];simpa using hl
  have hrun:(execOp a.eval ⟨dst,.buildSlice t len parts,ty,pos,af,gd⟩).run P C.w = .ok (.value (.slice (some ⟨C.w.heap.size,0,none⟩) len len)) (C.w.alloc (.cells arr' el)):=by
    show(do pure (Next.value (←Instr.buildSlice t len (parts.map fun(i,x)=>(i,a.eval x)))):Sem Next).run P C.w=_
    simp only[Instr.buildSlice,Sem.run_bind,zao hu.out,Result.andThen_ok,zaS ht,Array.toList_map]
    have hno:¬(len*s>2 ^ 24):=by omega
    simp only[hno,if_false]
    have g1':∀ zz:Array Value,(len*s=0∨zz=(zs.map V.val).toArray)→Instr.fill (fun i=>some (i*s,s)) ((Array.range (len*s)).map (zz[· % zz.size]!)) (parts.toList.map fun(i,x)=>(i,a.eval x))=some arr':=by
      intro zz hz
      rcases hz with hz|hz
      · have e0:∀ f:Nat→Value,(Array.range (len*s)).map f = #[]:=fun f=>by rw[hz];simp
        rw[←g1,e0,e0]
      · rw[hz];exact g1
    by_cases h0:len*s=0
    · simp only[h0,if_true,Sem.run_bind,Sem.run_pure,Result.andThen_ok]
      have:=g1' #[] (.inl h0)
      rw[h0]at this
      simp only[this]
      simp[newRow,newObj,Sem.run]
    · simp only[h0,if_false,Sem.run_bind,zef ht,Result.andThen_ok,zcells ht,Sem.run_pure]
      simp only[g1' _ (.inr rfl)]
      simp[newRow,newObj,Sem.run]
  have hsz0:arr'.size=len*s:=by rw[g2];simp
  have hblk:(C.w.alloc (.cells arr' el)).heap[C.w.heap.size]? = some (.cells arr' el (0,0)):=heap_alloc_new C.w _
  have hg':m'.at g = .gone:=(ha g (by simp)).trans hg
  have hst:=ziL (g:=g) (xs:=els) (sz:=s) (nw:=n) hm hg' (Grew.alloc C.w (.cells arr' el)) C.w.heap.size (Nat.le_refl _) hblk (loose0 _)
    (by rw[hsz0,hlen];exact Nat.le_refl _) (fun i e' hi=>(g4 i e' hi).1) (fun i j e' d hi hj=>(g4 i e' hi).2 j d hj) (fun i j e' d c hi hj hc=>g6 i j e' d c hi hj (by rw[Nat.zero_add];exact hc))
  refine zaC hrun (hn _ _ hst ?_)
  refine⟨0,false,n,s,els,Mem.at_cons_same _ _ _,Nat.le_refl _,⟨_,_,_,rfl⟩,fun _=>⟨by omega,?_⟩⟩
  rw[Cf.set_same]
  exact⟨len,_,el,(0,0),by simp,hblk,by rw[hsz0];simp,Nat.le_refl _,by unfold maxLen;have:=Nat.le_of_ble_eq_true hb2;omega⟩
inductive AppD (m:Mem):D→Nat→Bool→List (List V)→Prop
  | dat (n:Bool) (els:List (List V)) (s:Nat) (hel:∀ e∈els,e.length=s):AppD m (.dat n (.slice els)) s n els
  | nil (s:Nat):AppD m .nil s true []
  | own (g ver lo len s:Nat) (frz nw:Bool) (xs:List (List V)) (h:m.at g = .row ver frz nw s xs):AppD m (.own g ver lo len) s nw ((xs.drop lo).take len)
theorem zox {C:Cf} {m m':Mem} {d:D} {s:Nat} {n:Bool} {els:List (List V)} {v:Value} (hh:HoldsM C m') (hag:∀ g,g∈refs0 d→m'.at g=m.at g) (h:AppD m d s n els) (hr:RdD C m' d v):zln C s n els v:=by
  cases h with
  | dat n els s hel=>exact zgH hr hel
  | nil s=>exact .inl ⟨rfl,none,0,hr⟩
  | own g ver lo len s frz nw xs h=>exact zj6 hh ((hag g (by simp[refs0])).trans h) hr
theorem zoy {g ver len s by_ el:Nat} {agg n nw nf:Bool} {zs:List V} {xs els:List (List V)} [hu:SlcI P t el] [ht:TyI P el agg s by_ zs]
    (h1:e x = .own g ver 0 len) (hmg:m.at g = .row ver false nw s xs) (h2:AppD m (e y) s n els) (hlx:len=xs.length) (hel:∀ e∈els,e.length=s∧∀ d∈e,d.one=true) (hnf:nf=n∨∀ e∈els,∀ d∈e,Flat d) (hs:0<s)
    (hb:(len+els.length)*(by_+1)≤140737488355328) :
    SStep P ⟨dst,.call { callee := .builtin .append,args := #[x,y],argTypes := #[t,t] },ty,pos,af,gd⟩ e m (g::refs0 (e y)) (.own g (ver+1) 0 (len+els.length)) [(g,.row (ver+1) false (nw && nf) s (xs++els))]:=by
  intro C m' a next Q ha hm hx hn
  have g1:=hx x (by simp[Op.operands,Call.operands]);rw[h1]at g1
  have g2:=hx y (by simp[Op.operands,Call.operands])
  exact zeJ hu ht hm g1 ((ha g (by simp)).trans hmg) (zox hm (fun g' hg'=>ha g' (.inl (List.mem_cons_of_mem _ hg'))) h2 g2) hlx hel hnf hs hb hn
theorem zoz {s by_ el:Nat} {agg n nf:Bool} {zs:List V} {els:List (List V)} (g:Nat) [hu:SlcI P t el] [ht:TyI P el agg s by_ zs]
    (h1:e x = .nil) (h2:AppD m (e y) s n els) (hel:∀ e∈els,e.length=s∧∀ d∈e,d.one=true) (hnf:nf=n∨∀ e∈els,∀ d∈e,Flat d) (hs:0<s)
    (hb:els.length*(by_+1)≤140737488355328) (hg:m.at g = .gone) :
    SStep P ⟨dst,.call { callee := .builtin .append,args := #[x,y],argTypes := #[t,t] },ty,pos,af,gd⟩ e m (refs0 (e y)) (.own g 1 0 els.length) [(g,.row 1 false nf s els)]:=by
  intro C m' a next Q ha hm hx hn
  have g1:=hx x (by simp[Op.operands,Call.operands]);rw[h1]at g1
  have g2:=hx y (by simp[Op.operands,Call.operands])
  have hg':m'.at g = .gone:=(ha g (by simp)).trans hg
  have hv:a.eval x = .slice none 0 0:=g1
  have st0:=zjN (sz:=s) (nw:=true) hm hg'
  have hrd:RdD (C.set g none C.w) ((g,.row 0 false true s [])::m') (.own g 0 0 0) (a.eval x):=by
    refine⟨0,false,true,s,[],Mem.at_cons_same _ _ _,Nat.le_refl _,⟨_,_,_,hv⟩,fun _=>⟨by simp,?_⟩⟩
    rw[Cf.set_same]
    exact⟨hv,rfl,rfl⟩
  have hsl:=zox hm (fun g' hg'=>ha g' (.inl hg')) h2 g2
  have hsl':zln (C.set g none C.w) s n els (a.eval y):=hsl
  refine zeJ (C:=C.set g none C.w) hu ht st0.holds hrd (Mem.at_cons_same _ _ _) hsl' rfl hel hnf hs (by simpa using hb) (fun v C' hst hv'=>?_)
  have hcong:∀ k,Mem.at ((g,.row (0+1) false (true && nf) s ([]++els))::(g,.row 0 false true s [])::m') k=Mem.at ([(g,.row 1 false nf s els)]++m') k:=fun k=>by
    show Mem.at _ k=Mem.at ((g,.row 1 false nf s els)::m') k
    by_cases e:g=k
    · subst e;rw[Mem.at_cons_same,Mem.at_cons_same];simp
    · rw[Mem.at_cons_other _ _ e,Mem.at_cons_other _ _ e,Mem.at_cons_other _ _ e]
  have st:=st0.trans hst
  refine hn v C' ⟨zgC (fun _=>rfl) hcong st.ext,zbW hcong st.holds,fun d u hd=>zb7 hcong _ _ (st.slot d u hd)⟩ ?_
  have:=zb7 hcong _ _ hv'
  simpa using this
def asVL (m:Mem):List D→Option (Bool×List V)
  | []=>some (true,[])
  | d::r=>match asV m d,asVL m r with
    | some (n,x),some (n',xs)=>some (n && n',x::xs)
    | _,_=>none
theorem zoA {C:Cf} {m m':Mem} (hm:HoldsM C m'):∀ (ds:List D) (n:Bool) (xs:List V),(∀ g,g∈ds.flatMap (refs m)→m'.at g=m.at g)→asVL m ds=some (n,xs) →
    xs.length=ds.length∧∀ (j:Nat) (d:D) (x:V) (v:Value),ds[j]? = some d→xs[j]? = some x→RdD C m' d v→RdF C n x v
  | [],n,xs,_,h=>by
    simp only[asVL,Option.some.injEq,Prod.mk.injEq]at h
    obtain⟨rfl,rfl⟩:=h
    simp
  | d :: r,n,xs,ha,h=>by
    simp only[asVL]at h
    cases h0:asV m d with
    | none=>simp[h0]at h
    | some p =>
      obtain⟨n0,x0⟩:=p
      cases h1:asVL m r with
      | none=>simp[h0,h1]at h
      | some q =>
        obtain⟨n1,x1⟩:=q
        simp only[h0,h1,Option.some.injEq,Prod.mk.injEq]at h
        obtain⟨rfl,rfl⟩:=h
        obtain⟨hl,ih⟩:=zoA hm r n1 x1 (fun g hg=>ha g (by simp[hg])) h1
        refine⟨by simp[hl],fun j d' x v hd hx hr=>?_⟩
        cases j with
        | zero =>
          simp only[List.getElem?_cons_zero,Option.some.injEq]at hd hx
          subst hd;subst hx
          exact(zcF hm (fun g hg=>ha g (by simp[hg])) h0 hr).and hm
        | succ j =>
          simp only[List.getElem?_cons_succ]at hd hx
          exact(ih j d' x v hd hx hr).and' hm
theorem zbv {f:FuncId} {n:Bool} {caps:Array Operand} {vs:List V} (h:asVL m (caps.toList.map e)=some (n,vs)) :
    SStep P ⟨dst,.makeFunc (.func f) #[] caps,ty,pos,af,gd⟩ e m ((caps.toList.map e).flatMap (refs m)) (.dat n (.fn f vs)) [] :=
  .pure fun C m' a ha hm hx=>by
    obtain⟨hl,hall⟩:=zoA hm _ n vs (fun g hg=>ha g hg) h
    refine⟨.func (.func f) #[] (caps.map a.eval),by simp[execOp,Instr.makeFunc],Rd.fn f vs _ (by simp[hl]) (fun j d c h1 h2=>?_)⟩
    simp only[Array.getElem?_map,Option.map_eq_some_iff]at h2
    obtain⟨o,ho,rfl⟩:=h2
    have ho':(caps.toList.map e)[j]? = some (e o):=by simp[ho]
    refine hall j (e o) d _ ho' h1 (hx o ?_)
    simp only[Op.operands]
    exact Array.mem_append.2 (.inr (Array.mem_of_getElem? ho))
theorem zj7 {n':Bool} {k:IntKind} {i:Int} {el by_ len:Nat} {zs:List V} {cs:List D} {d:D} [hu:ArrI P t len el] [ht:TyI P el false 1 by_ zs]
    (h1:e x = .aggd cs) (h2:e y = .dat n' (.int k i)) (hi:0≤i) (hc:i<len) (hr:cs[i.toNat]? = some d) :
    SStep P ⟨dst,.index t x y,ty,pos,af,gd⟩ e m [] d [] :=
  .pure fun C m' ac _ hh hx=>by
    have g1:=hx x (by simp[Op.operands]);rw[h1]at g1
    have g2:=zbq (by have:=hx y (by simp[Op.operands]);rwa[h2]at this)
    obtain⟨vs,hv,hl,hrd⟩:=g1
    have hlt:i.toNat<vs.size:=by rw[hl];exact(List.getElem?_eq_some_iff.1 hr).1
    have hg:vs[i.toNat]? = some vs[i.toNat]:=Array.getElem?_eq_getElem hlt
    refine⟨vs[i.toNat],?_,(hrd _ _ _ hr hg).rd⟩
    have hp:(part el vs (i.toNat*1)).run P C.w = .ok vs[i.toNat] C.w:=by
      simp only[part,Sem.run_bind,zdq ht,Result.andThen_ok,Bool.false_eq_true,if_false,Nat.mul_one,hg,Sem.run_pure]
    simp only[execOp,hv,g2,Instr.index,asIntOf,Sem.run_bind,Sem.run_pure,Result.andThen_ok,zao hu.out]
    simp only[hi,hc,and_self,if_true,Sem.run_bind,zaS ht,Result.andThen_ok,hp]
theorem zj8 {i off ft by_:Nat} {zs:List V} {cs:List D} {d:D} [hf:FldI P t i off ft] [ht:TyI P ft false 1 by_ zs] (h:e x = .aggd cs) (hr:cs[off]? = some d) :
    SStep P ⟨dst,.field t x i,ty,pos,af,gd⟩ e m [] d [] :=
  .pure fun C m' ac _ _ hx=>by
    have g1:=hx x (by simp[Op.operands]);rw[h]at g1
    obtain⟨vs,hv,hl,hrd⟩:=g1
    obtain⟨fs,f,h1,h2,rfl,rfl⟩:=hf.out
    have hlt:f.offset<vs.size:=by rw[hl];exact(List.getElem?_eq_some_iff.1 hr).1
    have hg:vs[f.offset]? = some vs[f.offset]:=Array.getElem?_eq_getElem hlt
    refine⟨vs[f.offset],?_,(hrd _ _ _ hr hg).rd⟩
    have hp:(part f.type vs f.offset).run P C.w = .ok vs[f.offset] C.w:=by
      simp only[part,Sem.run_bind,zdq ht,Result.andThen_ok,Bool.false_eq_true,if_false,hg,Sem.run_pure]
    simp only[execOp,hv,Instr.field,Sem.run_bind,zao h1,Result.andThen_ok,h2,asAgg,Sem.run_pure,hp]
theorem zqL {el:Nat} {yt:TypeId} [hu:SlcI P t el] (h:e x = .nil) :
    SStep P ⟨dst,.binOp .eql t x (.const (.slice none 0 0)) yt,ty,pos,af,gd⟩ e m [] (.dat true (.bool true)) [] :=
  .pure fun C m' ac _ _ hx=>by
    have hv:ac.eval x = .slice none 0 0:=by have:=hx x (by simp[Op.operands]);rwa[h]at this
    refine⟨.bool true,?_,zaY⟩
    have hq:=run_equal_slice_nil (P:=P) C.w t el none 0 0 hu.out
    have hb:binOp .eql t (.slice none 0 0) (.slice none 0 0)=(do pure (.bool (←Op.equal t (.slice none 0 0) (.slice none 0 0)))):=rfl
    have he:ac.eval (.const (.slice none 0 0)) = .slice none 0 0:=rfl
    simp[execOp,hv,he,eqGuard,hb,hq]
end
end Go.Proofs.YtcdhlofhhcgohaaGreat
