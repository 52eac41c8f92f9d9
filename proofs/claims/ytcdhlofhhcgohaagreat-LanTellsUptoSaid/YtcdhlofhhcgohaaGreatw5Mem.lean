/- The D-machine, part 5: what memory-making and writing does to the state. -/
import Derived.Test.YtcdhlofhhcgohaaGreatw3Read
namespace Go.Proofs.YtcdhlofhhcgohaaGreat
open Go.RowKit
section
variable {P : Program} {e : Operand → D} {m : Mem} {dst : Option Tmp} {ty : TypeId} {pos : String} {af : Array Edge} {gd : Option (Nat × Bool)} {x y z : Operand} {t : TypeId} {yt : TypeId}
theorem zsn (s:List UInt8):(ByteArray.mk s.toArray).size=s.length:=by show s.toArray.size=_;simp
theorem zeF {i off ft s by_:Nat} {agg:Bool} {zs:List V} (hf:FldI P t i off ft) (ht:TyI P ft agg s by_ zs) (hs:s≠0) (b o:Nat) (w:World) :
  (Instr.fieldAt t (.pointer (some ⟨b,o,none⟩)) i).run P w = .ok (.pointer (some ⟨b,o+off,none⟩)) w:=by
 obtain⟨fs,f,h1,h2,rfl,rfl⟩:=hf.out
 simp only[Instr.fieldAt,Sem.run_bind,zao h1,Result.andThen_ok,h2,Instr.sureAddr,Sem.run_pure,fieldPlace,zaS ht,hs,if_false,aadd]
theorem zhO {i off ft s by_:Nat} {agg n:Bool} {zs:List V} {cs:List V} [hf:FldI P t i off ft] [ht:TyI P ft agg s by_ zs] (hs:Nat.beq s 0=false) (h:e x = .dat n (.rp cs)) :
  SStep P ⟨dst,.fieldAddr t x i,ty,pos,af,gd⟩ e m [] (.dat n (.rp (cs.drop off))) [] :=
 .pure fun C m' ac _ _ hx=>by
  have hs':s≠0:=by rintro rfl;simp at hs
  have g1:=hx x (by simp[Op.operands]);rw[h]at g1
  generalize hv:ac.eval x=v at g1
  cases g1 with
  | rp _ b o cell h1 hS hw hrd =>
   refine⟨.pointer (some ⟨b,o+off,none⟩),?_,?_⟩
   ·simp only[execOp,hv,Sem.run_bind,zeF hf ht hs',Result.andThen_ok]
    rfl
   ·refine Rd.rp _ b (o+off) (fun j=>cell (off+j)) (fun j d hd=>?_) hS (fun j d hd=>?_) (fun j d hd=>?_)<;>rw[List.getElem?_drop]at hd
    ·exact h1 _ d hd
    ·rw[Nat.add_assoc];exact hw _ d hd
    ·exact hrd _ d hd
theorem zgz {i off ft s by_ g o:Nat} {agg:Bool} {zs:List V} [hf:FldI P t i off ft] [ht:TyI P ft agg s by_ zs] (hs:Nat.beq s 0=false) (h:e x = .ptr g o) :
  SStep P ⟨dst,.fieldAddr t x i,ty,pos,af,gd⟩ e m [] (.ptr g (o+off)) [] :=
 .pure fun C m' ac _ _ hx=>by
  have hs':s≠0:=by rintro rfl;simp at hs
  have g1:=hx x (by simp[Op.operands]);rw[h]at g1
  obtain⟨frz,nw,cs,b,hat,hi,hv⟩:=g1
  refine⟨.pointer (some ⟨b,o+off,none⟩),?_,⟨frz,nw,cs,b,hat,hi,rfl⟩⟩
  simp only[execOp,hv,Sem.run_bind,zeF hf ht hs',Result.andThen_ok]
  rfl
theorem zf7 {i off ft s by_ g ver k o sz:Nat} {agg frz nw:Bool} {zs:List V} {xs:List (List V)} [hf:FldI P t i off ft] [ht:TyI P ft agg s by_ zs] (hs:Nat.beq s 0=false) (h:e x = .rptr g ver k o) (hm:m.at g = .row ver frz nw sz xs) :
  SStep P ⟨dst,.fieldAddr t x i,ty,pos,af,gd⟩ e m [g] (.rptr g ver k (o+off)) [] :=
 .pure fun C m' ac ha _ hx=>by
  have hs':s≠0:=by rintro rfl;simp at hs
  have g1:=hx x (by simp[Op.operands]);rw[h]at g1
  obtain⟨ver',frz',nw',sz',xs',hat,hle,_,hv⟩:=g1
  have hat0:=hat
  rw[ha g (by simp),hm]at hat
  injection hat with e1 e2 e3 e4 e5
  subst e1;subst e2;subst e3;subst e4;subst e5
  obtain⟨hil,b,hi,hv⟩:=hv rfl
  refine⟨.pointer (some ⟨b,k*sz+o+off,none⟩),?_,⟨ver,frz,nw,sz,xs,hat0,hle,⟨_,rfl⟩,fun _=>⟨hil,b,hi,by rw[Nat.add_assoc]⟩⟩⟩
  simp only[execOp,hv,Sem.run_bind,zeF hf ht hs',Result.andThen_ok]
  rfl
def zqv (agg:Bool) (s off:Nat) (cs:List V):Option V:=ldV agg s (cs.drop off)
theorem zqw {S:Nat→Prop} {s by_ off:Nat} {agg:Bool} {zs:List V} {cs:List V} {vs:Array Value} {r:V} (ht:TyI P t agg s by_ zs) (w:World) (hl:vs.size=cs.length)
  (hr:∀ (j:Nat) d c,cs[j]? = some d→vs[j]? = some c→Rd S w d c) (h:zqv agg s off cs=some r):∃ v,(part t vs off).run P w = .ok v w∧Rd S w r v:=by
 unfold zqv ldV at h
 cases agg with
 | true =>
  simp only[if_true]at h
  split at h
  ·rename_i hle
   injection h with h
   subst h
   refine⟨.agg (vs.extract off (off+s)),?_,?_⟩
   ·simp only[part,Sem.run_bind,zdq ht,Result.andThen_ok,if_true,zaS ht,Sem.run_pure]
   ·simp at hle
    refine Rd.agg _ _ (by simp;omega) (fun j d c hd hc=>?_)
    have hj:j<s:=by
     have:=(List.getElem?_eq_some_iff.1 hd).1
     simp at this;omega
    rw[List.getElem?_take,if_pos hj,List.getElem?_drop]at hd
    rw[Array.getElem?_extract]at hc
    split at hc
    ·exact hr _ d c hd hc
    ·cases hc
  ·cases h
 | false =>
  simp only[Bool.false_eq_true,if_false,List.head?_eq_getElem?,List.getElem?_drop,Nat.add_zero]at h
  have hlt:off<vs.size:=by have:=(List.getElem?_eq_some_iff.1 h).1;omega
  have hg:vs[off]? = some vs[off]:=Array.getElem?_eq_getElem hlt
  refine⟨vs[off],?_,hr off r _ h hg⟩
  simp only[part,Sem.run_bind,zdq ht,Result.andThen_ok,Bool.false_eq_true,if_false,hg,Sem.run_pure]
theorem zso {i off ft s by_:Nat} {agg n:Bool} {zs:List V} {cs:List V} {r:V} [hf:FldI P t i off ft] [ht:TyI P ft agg s by_ zs] (h:e x = .dat n (.agg cs)) (hr:zqv agg s off cs=some r) :
  SStep P ⟨dst,.field t x i,ty,pos,af,gd⟩ e m [] (.dat n r) [] :=
 .pure fun C m' ac _ _ hx=>by
  have g1:=hx x (by simp[Op.operands]);rw[h]at g1
  generalize hv:ac.eval x=v at g1
  cases g1 with
  | agg _ vs hl hrd =>
   obtain⟨fs,f,h1,h2,rfl,rfl⟩:=hf.out
   obtain⟨v,hrun,hv'⟩:=zqw ht C.w hl hrd hr
   refine⟨v,?_,hv'⟩
   simp only[execOp,hv,Instr.field,Sem.run_bind,zao h1,Result.andThen_ok,h2,asAgg,Sem.run_pure,hrun]
theorem zaT {n n':Bool} {k:IntKind} {i:Int} {el s by_:Nat} {agg:Bool} {zs:List V} {xs:List (List V)} {c:List V} [hu:SlcI P t el] [ht:TyI P el agg s by_ zs]
  (h1:e x = .dat n (.slice xs)) (h2:e y = .dat n' (.int k i)) (hi:0≤i) (hc:xs[i.toNat]? = some c) (hl:c.length=s) :
  SStep P ⟨dst,.indexAddr t x y,ty,pos,af,gd⟩ e m [] (.dat n (.rp c)) [] :=
 .pure fun C m' ac _ hh hx=>by
  have g1:=hx x (by simp[Op.operands]);rw[h1]at g1
  have g2:=hx y (by simp[Op.operands]);rw[h2]at g2
  have g2:=zbq g2
  generalize hv:ac.eval x=v at g1
  have hlt:i.toNat<xs.length:=(List.getElem?_eq_some_iff.1 hc).1
  cases g1 with
  | nil=>simp at hc
  | mt=>simp at hc
  | slice _ b off cap sz cell hcap hmx hsz hone hS hw hrd =>
   have hsz':sz=s:=by rw[←hsz _ _ hc,hl]
   subst hsz'
   refine⟨.pointer (some ⟨b,off+i.toNat*sz,none⟩),?_,?_⟩
   ·simp only[execOp,hv,g2,Instr.indexAt,asIntOf,Sem.run_bind,Sem.run_pure,Result.andThen_ok,zao hu.out]
    have hlt':i<(xs.length:Int):=by omega
    simp only[hi,hlt',and_self,if_true,Sem.run_bind,zaS ht,Result.andThen_ok,Sem.run_pure,aadd]
   ·refine Rd.rp _ b _ (fun j=>cell i.toNat j) (fun j d hd=>hone _ _ _ _ hc hd) (hS (by rintro rfl;simp at hc)) (fun j d hd=>hw _ _ _ _ hc hd) (fun j d hd=>hrd _ _ _ _ hc hd)
theorem ziK {n':Bool} {k:IntKind} {i:Int} {el s by_ g ver lo len:Nat} {agg frz nw:Bool} {zs:List V} {xs:List (List V)} [hu:SlcI P t el] [ht:TyI P el agg s by_ zs]
  (h1:e x = .own g ver lo len) (h2:e y = .dat n' (.int k i)) (hm:m.at g = .row ver frz nw s xs) (hi:0≤i) (hc:i<len) :
  SStep P ⟨dst,.indexAddr t x y,ty,pos,af,gd⟩ e m [g] (.rptr g ver (lo+i.toNat) 0) [] :=
 .pure fun C m' ac ha hh hx=>by
  have g1:=hx x (by simp[Op.operands]);rw[h1]at g1
  have g2:=hx y (by simp[Op.operands]);rw[h2]at g2
  have g2:=zbq g2
  obtain⟨ver',frz',nw',sz',xs',hat,hle,_,hv⟩:=g1
  have hat0:=hat
  rw[ha g (by simp),hm]at hat
  injection hat with e1 e2 e3 e4 e5
  subst e1;subst e2;subst e3;subst e4;subst e5
  obtain⟨hlen,ho⟩:=hv rfl
  unfold OwnV at ho
  cases hio:C.ι g with
  | none=>simp only[hio]at ho;omega
  | some b =>
   simp only[hio]at ho
   obtain⟨cap,arr,T,fz,hv,_,_,_,_⟩:=ho
   refine⟨.pointer (some ⟨b,lo*s+i.toNat*s,none⟩),?_,⟨ver,frz,nw,s,xs,hat0,hle,⟨_,rfl⟩,fun _=>⟨by omega,b,hio,by rw[Nat.add_mul];rfl⟩⟩⟩
   simp only[execOp,hv,g2,Instr.indexAt,asIntOf,Sem.run_bind,Sem.run_pure,Result.andThen_ok,zao hu.out]
   simp only[hi,hc,and_self,if_true,Sem.run_bind,zaS ht,Result.andThen_ok,Sem.run_pure,aadd]
theorem zbV {n':Bool} {k:IntKind} {i:Int} {el s by_ len g o:Nat} {agg:Bool} {zs:List V} [hu:ArrI P t len el] [ht:TyI P el agg s by_ zs]
  (h1:e x = .ptr g o) (h2:e y = .dat n' (.int k i)) (hi:0≤i) (hc:i<len) :
  SStep P ⟨dst,.indexAddr t x y,ty,pos,af,gd⟩ e m [] (.ptr g (o+i.toNat*s)) [] :=
 .pure fun C m' ac _ hh hx=>by
  have g1:=hx x (by simp[Op.operands]);rw[h1]at g1
  have g2:=hx y (by simp[Op.operands]);rw[h2]at g2
  have g2:=zbq g2
  obtain⟨frz,nw,cs,b,hat,hio,hv⟩:=g1
  refine⟨.pointer (some ⟨b,o+i.toNat*s,none⟩),?_,⟨frz,nw,cs,b,hat,hio,rfl⟩⟩
  simp only[execOp,hv,g2,Instr.indexAt,asIntOf,Sem.run_bind,Sem.run_pure,Result.andThen_ok,zao hu.out,Instr.sureAddr]
  simp only[hi,hc,and_self,if_true,Sem.run_bind,zaS ht,Result.andThen_ok,Sem.run_pure,aadd]
theorem zlg {n:Bool} {xs:List (List V)} {el:Nat} [hu:SlcI P t el] (h:e x = .dat n (.slice xs)) :
  SStep P ⟨dst,.call { callee := .builtin .len,args := #[x],argTypes := #[t] },ty,pos,af,gd⟩ e m [] (.dat true (.int .i64 xs.length)) [] :=
 .pure fun C m' ac _ hh hx=>by
  have g1:=hx x (by simp[Op.operands,Call.operands]);rw[h]at g1
  refine⟨.int .i64 xs.length,?_,zbB⟩
  generalize hv:ac.eval x=v at g1
  cases g1<;>simp[execOp,resolve,invoke,builtin,Builtin.len_,zao hu.out,hv,goInt]
theorem zob {g ver lo len:Nat} {el:Nat} {frz nw:Bool} {sz:Nat} {xs:List (List V)} [hu:SlcI P t el] (h:e x = .own g ver lo len) (hm:m.at g = .row ver frz nw sz xs) :
  SStep P ⟨dst,.call { callee := .builtin .len,args := #[x],argTypes := #[t] },ty,pos,af,gd⟩ e m [g] (.dat true (.int .i64 len)) [] :=
 .pure fun C m' ac ha hh hx=>by
  have g1:=hx x (by simp[Op.operands,Call.operands]);rw[h]at g1
  refine⟨.int .i64 len,?_,zbB⟩
  obtain⟨ver',frz',nw',sz',xs',hat,hle,_,hv⟩:=g1
  rw[ha g (by simp),hm]at hat
  injection hat with e1 e2 e3 e4 e5
  obtain⟨_,ho⟩:=hv e1
  unfold OwnV at ho
  cases hio:C.ι g with
  | none =>
   simp only[hio]at ho
   obtain⟨hv,_,hl⟩:=ho
   simp[execOp,resolve,invoke,builtin,Builtin.len_,zao hu.out,hv,goInt,hl]
  | some b =>
   simp only[hio]at ho
   obtain⟨cap,arr,T,fz,hv,_⟩:=ho
   simp[execOp,resolve,invoke,builtin,Builtin.len_,zao hu.out,hv,goInt]
theorem zoc {el:Nat} [hu:SlcI P t el] (h:e x = .nil) :
  SStep P ⟨dst,.call { callee := .builtin .len,args := #[x],argTypes := #[t] },ty,pos,af,gd⟩ e m [] (.dat true (.int .i64 0)) [] :=
 .pure fun C m' ac ha hh hx=>by
  have g1:=hx x (by simp[Op.operands,Call.operands]);rw[h]at g1
  have hv:ac.eval x = .slice none 0 0:=g1
  refine⟨.int .i64 0,?_,zbB⟩
  simp[execOp,resolve,invoke,builtin,Builtin.len_,zao hu.out,hv,goInt]
theorem zod {n:Bool} {s:List UInt8} [hu:StrI P t] (h:e x = .dat n (.str s)) :
  SStep P ⟨dst,.call { callee := .builtin .len,args := #[x],argTypes := #[t] },ty,pos,af,gd⟩ e m [] (.dat true (.int .i64 s.length)) [] :=
 .pure fun C m' ac _ hh hx=>by
  have g1:=ze1 (by have:=hx x (by simp[Op.operands,Call.operands]);rwa[h]at this)
  refine⟨.int .i64 s.length,?_,zbB⟩
  simp[execOp,resolve,invoke,builtin,Builtin.len_,zao hu.out,g1,goInt,zsn]
theorem zsp {n n':Bool} {k:IntKind} {a b:Int} {ts:Array TypeId} (h1:e x = .dat n (.int k a)) (h2:e y = .dat n' (.int k b)) :
  SStep P ⟨dst,.call { callee := .builtin .min,args := #[x,y],argTypes:=ts },ty,pos,af,gd⟩ e m [] (.dat true (.int k (min a b))) [] :=
 .pure fun C m' ac _ hh hx=>by
  have g1:=zbq (by have:=hx x (by simp[Op.operands,Call.operands]);rwa[h1]at this)
  have g2:=zbq (by have:=hx y (by simp[Op.operands,Call.operands]);rwa[h2]at this)
  refine⟨.int k (min a b),?_,zbB⟩
  have:(if b<a then b else a)=min a b:=by omega
  simp[execOp,resolve,invoke,builtin,Builtin.min_,Builtin.min2,g1,g2,this]
theorem ztS {n n':Bool} {k:IntKind} {a b:Int} {ts:Array TypeId} (h1:e x = .dat n (.int k a)) (h2:e y = .dat n' (.int k b)) :
  SStep P ⟨dst,.call { callee := .builtin .max,args := #[x,y],argTypes:=ts },ty,pos,af,gd⟩ e m [] (.dat true (.int k (max a b))) [] :=
 .pure fun C m' ac _ hh hx=>by
  have g1:=zbq (by have:=hx x (by simp[Op.operands,Call.operands]);rwa[h1]at this)
  have g2:=zbq (by have:=hx y (by simp[Op.operands,Call.operands]);rwa[h2]at this)
  refine⟨.int k (max a b),?_,zbB⟩
  have:(if a<b then b else a)=max a b:=by omega
  simp[execOp,resolve,invoke,builtin,Builtin.max_,Builtin.max2,g1,g2,this]
theorem zmm {n:Bool} {b:Bool} {R:D} (h:e x = .dat n (.bool b)) (h1:b=true→∀ C m v,RdD C m (e y) v→RdD C m R v) (h2:b=false→∀ C m v,RdD C m (e z) v→RdD C m R v) :
  SStep P ⟨dst,.pick x y z,ty,pos,af,gd⟩ e m [] R [] :=
 .pure fun C m' ac _ _ hx=>by
  have g1:=za4 (by have:=hx x (by simp[Op.operands]);rwa[h]at this)
  have g2:=hx y (by simp[Op.operands])
  have g3:=hx z (by simp[Op.operands])
  cases b with
  | true=>exact⟨ac.eval y,by simp[execOp,g1,asBool],h1 rfl _ _ _ g2⟩
  | false=>exact⟨ac.eval z,by simp[execOp,g1,asBool],h2 rfl _ _ _ g3⟩
theorem zm6 {n n1 n2:Bool} {b c:Bool} (h:e x = .dat n (.bool b)) (h1:e y = .grd (b == true) (.dat n1 (.bool c))) (h2:e z = .dat n2 (.bool false)) :
  SStep P ⟨dst,.pick x y z,ty,pos,af,gd⟩ e m [] (.dat true (.bool (b && c))) [] :=
 zmm h (fun hb' C m v hv=>by rw[h1]at hv;have:=za4 (hv.1 (by rw[hb'];rfl));subst this;subst hb';exact zaY)
  (fun hb' C m v hv=>by rw[h2]at hv;have:=za4 hv;subst this;subst hb';exact zaY)
theorem zoe {n n1 n2:Bool} {b c:Bool} (h:e x = .dat n (.bool b)) (h1:e y = .dat n1 (.bool true)) (h2:e z = .grd (b == false) (.dat n2 (.bool c))) :
  SStep P ⟨dst,.pick x y z,ty,pos,af,gd⟩ e m [] (.dat true (.bool (b || c))) [] :=
 zmm h (fun hb' C m v hv=>by rw[h1]at hv;have:=za4 hv;subst this;subst hb';exact zaY)
  (fun hb' C m v hv=>by rw[h2]at hv;have:=za4 (hv.1 (by rw[hb'];rfl));subst this;subst hb';exact zaY)
theorem zlh {n n1 n2:Bool} {b c:Bool} (h:e x = .grd true (.dat n (.bool b))) (h1:e y = .grd (true && (b == true)) (.dat n1 (.bool c))) (h2:e z = .dat n2 (.bool false)) :
  SStep P ⟨dst,.pick x y z,ty,pos,af,gd⟩ e m [] (.dat true (.bool (b && c))) [] :=
 .pure fun C m' ac _ _ hx=>by
  have g1:=hx x (by simp[Op.operands]);rw[h]at g1
  have g1:=za4 (g1.1 rfl)
  have g2:=hx y (by simp[Op.operands]);rw[h1]at g2
  have g3:=za4 (by have:=hx z (by simp[Op.operands]);rwa[h2]at this)
  cases b with
  | true =>
   have g2:=za4 (g2.1 rfl)
   exact⟨ac.eval y,by simp[execOp,g1,asBool],by rw[g2];exact zaY⟩
  | false=>exact⟨ac.eval z,by simp[execOp,g1,asBool],by rw[g3];exact zaY⟩
theorem zm7 {n n1 n2:Bool} {b c:Bool} (h:e x = .grd true (.dat n (.bool b))) (h1:e y = .dat n1 (.bool true)) (h2:e z = .grd (true && (b == false)) (.dat n2 (.bool c))) :
  SStep P ⟨dst,.pick x y z,ty,pos,af,gd⟩ e m [] (.dat true (.bool (b || c))) [] :=
 .pure fun C m' ac _ _ hx=>by
  have g1:=hx x (by simp[Op.operands]);rw[h]at g1
  have g1:=za4 (g1.1 rfl)
  have g2:=za4 (by have:=hx y (by simp[Op.operands]);rwa[h1]at this)
  have g3:=hx z (by simp[Op.operands]);rw[h2]at g3
  cases b with
  | true=>exact⟨ac.eval y,by simp[execOp,g1,asBool],by rw[g2];exact zaY⟩
  | false =>
   have g3:=za4 (g3.1 rfl)
   exact⟨ac.eval z,by simp[execOp,g1,asBool],by rw[g3];exact zaY⟩
end
end Go.Proofs.YtcdhlofhhcgohaaGreat
namespace Go.Proofs.YtcdhlofhhcgohaaGreat
open Go.RowKit
theorem Mem.at_cons_same (g:Nat) (b:Box) (m:Mem):Mem.at ((g,b)::m) g=b:=zcP _ _ _ _
theorem Mem.at_cons_other {g g':Nat} (b:Box) (m:Mem) (h:g≠g'):Mem.at ((g,b)::m) g'=m.at g':=zcL _ _ _ _ _ h
theorem BoxOK.lt {C:Cf} {m:Mem} (h:HoldsM C m) {g b:Nat} (hg:m.at g ≠ .gone) (hi:C.ι g=some b):b<C.w.heap.size:=by
 have hb:=h.box g
 have aux:∀ {o:Obj},C.w.heap[b]? = some o→b<C.w.heap.size:=fun ho=>(Array.getElem?_eq_some_iff.1 ho).1
 rw[hi]at hb
 cases hm:m.at g with
 | gone=>exact absurd hm hg
 | cells frz nw cs =>
  rw[hm]at hb
  obtain⟨b',hb',arr,T,fz,h1,_⟩:=hb
  injection hb' with hb'
  subst hb'
  exact aux h1
 | row ver frz nw sz xs =>
  rw[hm]at hb
  obtain⟨arr,T,fz,h1,_⟩:=hb
  exact aux h1
 | mapb kt et es =>
  rw[hm]at hb
  obtain⟨b',hb',ents,clock,h1,_⟩:=hb
  injection hb' with hb'
  subst hb'
  exact aux h1
theorem RdS.upd {C C':Cf} {m m':Mem} (g:Nat) (hm:∀ g',g'≠g→m.at g' ≠ .gone→m'.at g'=m.at g') (hi:∀ g',g'≠g→m.at g' ≠ .gone→C'.ι g'=C.ι g')
  (hh:∀ g' b,g'≠g→m.at g' ≠ .gone→C.ι g'=some b→C'.w.heap[b]? = C.w.heap[b]?) (hd:∀ n x v,RdF C n x v→RdF C' n x v)
  (hown:∀ ver lo len v,RdS C m (.own g ver lo len) v→RdS C' m' (.own g ver lo len) v) (hptr:∀ off v,RdS C m (.ptr g off) v→RdS C' m' (.ptr g off) v)
  (hrptr:∀ ver i off v,RdS C m (.rptr g ver i off) v→RdS C' m' (.rptr g ver i off) v) (hmp:∀ v,RdS C m (.mp g) v→RdS C' m' (.mp g) v) :
  ∀ d v,RdS C m d v→RdS C' m' d v:=by
 intro d v h
 cases d with
 | any=>trivial
 | nil=>exact h
 | grd b d=>exact h.elim
 | aggd cs=>exact h.elim
 | fnd _ _=>exact h.elim
 | dat n x=>exact hd n x v h
 | own g' ver lo len =>
  by_cases hg:g'=g
  ·subst hg;exact hown ver lo len v h
  ·obtain⟨ver',frz,nw,sz,xs,hat,hle,hsl,ho⟩:=h
   have hne:m.at g' ≠ .gone:=by rw[hat];simp
   refine⟨ver',frz,nw,sz,xs,(hm g' hg hne).trans hat,hle,hsl,fun hv=>?_⟩
   obtain⟨hl,ho⟩:=ho hv
   refine⟨hl,?_⟩
   rw[hi g' hg hne]
   unfold OwnV at *
   cases hio:C.ι g' with
   | none=>simp only[hio]at ho ⊢;exact ho
   | some b =>
    simp only[hio]at ho ⊢
    obtain⟨cap,arr,T,fz,h1,h2,h3⟩:=ho
    exact⟨cap,arr,T,fz,h1,(hh g' b hg hne hio).trans h2,h3⟩
 | ptr g' off =>
  by_cases hg:g'=g
  ·subst hg;exact hptr off v h
  ·obtain⟨frz,nw,cs,b,hat,hio,hv⟩:=h
   have hne:m.at g' ≠ .gone:=by rw[hat];simp
   exact⟨frz,nw,cs,b,(hm g' hg hne).trans hat,(hi g' hg hne).trans hio,hv⟩
 | rptr g' ver i off =>
  by_cases hg:g'=g
  ·subst hg;exact hrptr ver i off v h
  ·obtain⟨ver',frz,nw,sz,xs,hat,hle,hsl,ho⟩:=h
   have hne:m.at g' ≠ .gone:=by rw[hat];simp
   refine⟨ver',frz,nw,sz,xs,(hm g' hg hne).trans hat,hle,hsl,fun hv=>?_⟩
   rw[hi g' hg hne]
   exact ho hv
 | mp g' =>
  by_cases hg:g'=g
  ·subst hg;exact hmp v h
  ·obtain⟨kt,et,es,b,hat,hio,hv⟩:=h
   have hne:m.at g' ≠ .gone:=by rw[hat];simp
   exact⟨kt,et,es,b,(hm g' hg hne).trans hat,(hi g' hg hne).trans hio,hv⟩
 | sl g' n =>
  obtain⟨frz,nw,cs,b,cap,hat,hio,hv,hn,hc⟩:=h
  by_cases hg:g'=g
  ·subst hg
   obtain⟨frz',nw',cs',b',h1,h2,h3⟩:=hptr 0 (.pointer (some ⟨b,0,none⟩)) ⟨frz,nw,cs,b,hat,hio,rfl⟩
   injection h3 with h3;injection h3 with h3;injection h3 with h3
   subst h3
   exact⟨frz',nw',cs',b,cap,h1,h2,hv,hn,hc⟩
  ·have hne:m.at g' ≠ .gone:=by rw[hat];simp
   exact⟨frz,nw,cs,b,cap,(hm g' hg hne).trans hat,(hi g' hg hne).trans hio,hv,hn,hc⟩
theorem RdD.of_S {C C':Cf} {m m':Mem} (hs:∀ d v,RdS C m d v→RdS C' m' d v):∀ d v,RdD C m d v→RdD C' m' d v:=by
 intro d
 cases d with
 | grd b d =>
  intro v h
  exact⟨fun hb=>RdD.of_S hs d v (h.1 hb),h.2⟩
 | aggd cs =>
  rintro v ⟨vs,hv,hl,h⟩
  exact⟨vs,hv,hl,fun j d c hd hc=>hs _ _ (h j d c hd hc)⟩
 | fnd f cs =>
  rintro v ⟨vs,hv,hl,h⟩
  exact⟨vs,hv,hl,fun j d c hd hc=>hs _ _ (h j d c hd hc)⟩
 | _=>intro v h;exact hs _ v h
theorem BoxOK.upd {C C':Cf} {m m':Mem} {ob:Option Nat} {bx:Box} (h:BoxOK C m ob bx) (hh:∀ b,ob=some b→C'.w.heap[b]? = C.w.heap[b]?)
  (hd:∀ n x v,RdF C n x v→RdF C' n x v) (hs:∀ d v,RdS C m d v→RdS C' m' d v) (hS:∀ b,C.S b→C'.S b) (hN:∀ b,C.N b→C'.N b):BoxOK C' m' ob bx:=by
 have hD:∀ nw b,C.D nw b→C'.D nw b:=fun nw b h=>by cases nw<;>first|exact hS b h|exact hN b h
 cases bx with
 | gone=>trivial
 | cells frz nw cs =>
  obtain⟨b,hb,arr,T,fz,h1,h2,h3,h4,h5⟩:=h
  exact⟨b,hb,arr,T,fz,(hh b hb).trans h1,h2,h3,fun j d c hd hc=>hs _ _ (h4 j d c hd hc),fun hf=>hD _ _ (h5 hf)⟩
 | row ver frz nw sz xs =>
  cases ob with
  | none=>exact h
  | some b =>
   obtain⟨arr,T,fz,h1,h2,h3,h4,h5,h6,h7⟩:=h
   exact⟨arr,T,fz,(hh b rfl).trans h1,h2,h3,h4,h5,fun i j e d c he hdd hc=>hd _ _ _ (h6 i j e d c he hdd hc),fun hf=>hN _ (h7 hf)⟩
 | mapb kt et es =>
  obtain⟨b,hb,ents,clock,h1,h2,h3,h4⟩:=h
  exact⟨b,hb,ents,clock,(hh b hb).trans h1,h2,h3,fun i p e hp he=>by
   obtain⟨q1,q2,q3⟩:=h4 i p e hp he
   exact⟨Rd.mono q1 (fun _ h=>h.elim) (fun _ h=>h.elim),Rd.mono q2 (fun _ h=>h.elim) (fun _ h=>h.elim),q3⟩⟩
def Cf.set (C:Cf) (g:Nat) (ob:Option Nat) (w:World):Cf := { C with ι:=fun k=>if k=g then ob else C.ι k,w:=w }
@[simp] theorem Cf.set_same (C:Cf) (g:Nat) (ob:Option Nat) (w:World):(C.set g ob w).ι g=ob:=by simp[Cf.set]
theorem Cf.set_other (C:Cf) {g g':Nat} (ob:Option Nat) (w:World) (h:g'≠g):(C.set g ob w).ι g'=C.ι g':=by simp[Cf.set,h]
structure Grew (w w':World):Prop where
 os:w'.os=w.os
 tape:w'.tape=w.tape
 output:w'.output=w.output
 size:w.heap.size≤w'.heap.size
 block:∀ b,b<w.heap.size→w'.heap[b]? = w.heap[b]?
theorem Grew.alloc (w:World) (o:Obj):Grew w (w.alloc o):=⟨rfl,rfl,rfl,by simp,fun b hb=>Below.heap_alloc w o b hb⟩
theorem Grew.drewAlloc (w:World) (o:Obj):Grew w (w.drew.alloc o):=⟨rfl,rfl,rfl,by simp,fun b hb=>Below.heap_alloc w.drew o b hb⟩
theorem Grew.refl (w:World):Grew w w:=⟨rfl,rfl,rfl,Nat.le_refl _,fun _ _=>rfl⟩
theorem Grew.trans {a b c:World} (h:Grew a b) (k:Grew b c):Grew a c :=
 ⟨k.os.trans h.os,k.tape.trans h.tape,k.output.trans h.output,Nat.le_trans h.size k.size,fun i hi=>(k.block i (Nat.lt_of_lt_of_le hi h.size)).trans (h.block i hi)⟩
theorem Step.fresh {C:Cf} {m:Mem} {g:Nat} {ob:Option Nat} {w:World} {bx:Box} (hm:HoldsM C m) (hg:m.at g = .gone) (hw:Grew C.w w)
  (hob:∀ b,ob=some b→C.w.heap.size≤b)
  (hbx:(∀ n x v,RdF C n x v→RdF (C.set g ob w) n x v)→(∀ d v,RdS C m d v→RdS (C.set g ob w) ((g,bx)::m) d v)→BoxOK (C.set g ob w) ((g,bx)::m) ob bx) :
  Step C m (C.set g ob w) ((g,bx)::m):=by
 have hne:∀ {g'},m.at g' ≠ .gone→g'≠g:=fun h e=>h (e▸hg)
 have hlt:∀ {g' b},m.at g' ≠ .gone→C.ι g'=some b→b<C.w.heap.size:=fun h hi=>BoxOK.lt hm h hi
 have hd:∀ n x v,RdF C n x v→RdF (C.set g ob w) n x v:=fun n x v h=>by
  cases n
  ·exact Rd.mono h (fun _ h=>h) (fun b hb=>hw.block b (hm.sdom b hb))
  ·exact Rd.mono h (fun _ h=>h) (fun b hb=>hw.block b (hm.sdom b (hm.ns b hb)))
 have hs:∀ d v,RdS C m d v→RdS (C.set g ob w) ((g,bx)::m) d v:=by
  refine RdS.upd g (fun g' h _=>Mem.at_cons_other _ _ (Ne.symm h)) (fun g' h _=>Cf.set_other _ _ _ h) (fun g' b h h1 h2=>hw.block b (hlt h1 h2)) hd ?_ ?_ ?_ ?_
  ·rintro ver lo len v ⟨_,_,_,_,_,hat,_⟩;rw[hg]at hat;cases hat
  ·rintro off v ⟨_,_,_,_,hat,_⟩;rw[hg]at hat;cases hat
  ·rintro ver i off v ⟨_,_,_,_,_,hat,_⟩;rw[hg]at hat;cases hat
  ·rintro v ⟨_,_,_,_,hat,_⟩;rw[hg]at hat;cases hat
 refine⟨⟨hw.os,hw.tape,hw.output,hw.size,fun b hb _=>hw.block b hb,fun g' b h1 h2=>?_,fun _ h=>h,fun _ h=>h,fun _ h=>.inl h,fun _ h=>.inl h⟩,⟨fun g'=>?_,?_,?_,?_,hm.ns⟩,RdD.of_S hs⟩
 ·by_cases h:g'=g
  ·subst h
   rw[Cf.set_same]at h2
   exact .inl (hob b h2)
  ·rw[Mem.at_cons_other _ _ (Ne.symm h)]at h1
   rw[Cf.set_other _ _ _ h]at h2
   exact .inr ⟨g',h1,h2⟩
 ·by_cases h:g'=g
  ·subst h
   rw[Mem.at_cons_same,Cf.set_same]
   exact hbx hd hs
  ·rw[Mem.at_cons_other _ _ (Ne.symm h),Cf.set_other _ _ _ h]
   by_cases hgo:m.at g' = .gone
   ·rw[hgo];trivial
   ·exact BoxOK.upd (hm.box g') (fun b hb=>hw.block b (hlt hgo hb)) hd hs (fun _ h=>h) (fun _ h=>h)
 ·intro g1 g2 b h1 h2 i1 i2
  by_cases e1:g1=g<;>by_cases e2:g2=g
  ·rw[e1,e2]
  ·subst e1
   rw[Cf.set_same]at i1
   rw[Cf.set_other _ _ _ e2]at i2
   rw[Mem.at_cons_other _ _ (Ne.symm e2)]at h2
   have:=hob b i1
   have:=hlt h2 i2
   omega
  ·subst e2
   rw[Cf.set_same]at i2
   rw[Cf.set_other _ _ _ e1]at i1
   rw[Mem.at_cons_other _ _ (Ne.symm e1)]at h1
   have:=hob b i2
   have:=hlt h1 i1
   omega
  ·rw[Cf.set_other _ _ _ e1]at i1
   rw[Cf.set_other _ _ _ e2]at i2
   rw[Mem.at_cons_other _ _ (Ne.symm e1)]at h1
   rw[Mem.at_cons_other _ _ (Ne.symm e2)]at h2
   exact hm.inj g1 g2 b h1 h2 i1 i2
 ·intro g' b h1 h2 h3
  by_cases h:g'=g
  ·subst h
   rw[Cf.set_same]at h2
   have:=hob b h2
   have:=hm.sdom b h3
   omega
  ·rw[Mem.at_cons_other _ _ (Ne.symm h)]at h1
   rw[Cf.set_other _ _ _ h]at h2
   exact hm.sep g' b h1 h2 h3
 ·intro b hb
  exact Nat.lt_of_lt_of_le (hm.sdom b hb) hw.size
theorem Step.write {C:Cf} {m:Mem} {g b:Nat} {w:World} {bx:Box} (hm:HoldsM C m) (hg:(m.at g).mut=true) (hi:C.ι g=some b)
  (hos:w.os=C.w.os) (htp:w.tape=C.w.tape) (hout:w.output=C.w.output) (hsz:w.heap.size=C.w.heap.size) (hk:∀ k,k≠b→w.heap[k]? = C.w.heap[k]?)
  (hown:∀ ver lo len v,RdS C m (.own g ver lo len) v→RdS { C with w:=w } ((g,bx)::m) (.own g ver lo len) v) (hptr:∀ off v,RdS C m (.ptr g off) v→RdS { C with w:=w } ((g,bx)::m) (.ptr g off) v)
  (hrptr:∀ ver i off v,RdS C m (.rptr g ver i off) v→RdS { C with w:=w } ((g,bx)::m) (.rptr g ver i off) v) (hmp:∀ v,RdS C m (.mp g) v→RdS { C with w:=w } ((g,bx)::m) (.mp g) v)
  (hbx:(∀ n x v,RdF C n x v→RdF { C with w:=w } n x v)→(∀ d v,RdS C m d v→RdS { C with w:=w } ((g,bx)::m) d v)→BoxOK { C with w:=w } ((g,bx)::m) (some b) bx) :
  Step C m { C with w:=w } ((g,bx)::m):=by
 have hgo:m.at g ≠ .gone:=by intro h;rw[h]at hg;simp[Box.mut]at hg
 have hbS:¬C.S b:=hm.sep g b hg hi
 have hkS:∀ k,C.S k→w.heap[k]? = C.w.heap[k]? := fun k hks=>hk k (fun e=>hbS (e▸hks))
 have hkg:∀ g' k,g'≠g→m.at g' ≠ .gone→C.ι g'=some k→w.heap[k]? = C.w.heap[k]? := fun g' k hne h1 h2=>hk k (fun e=>hne (hm.inj g' g k h1 hgo h2 (e▸hi)))
 have hd:∀ n x v,RdF C n x v→RdF { C with w:=w } n x v:=fun n x v h=>by
  cases n
  ·exact Rd.mono h (fun _ h=>h) hkS
  ·exact Rd.mono h (fun _ h=>h) (fun k h=>hkS k (hm.ns k h))
 have hs:∀ d v,RdS C m d v→RdS { C with w:=w } ((g,bx)::m) d v :=
  RdS.upd g (fun g' h _=>Mem.at_cons_other _ _ (Ne.symm h)) (fun _ _ _=>rfl) hkg hd hown hptr hrptr hmp
 refine⟨⟨hos,htp,hout,Nat.le_of_eq hsz.symm,fun k hkl hn=>hk k (fun e=>hn g hg (e▸hi)),fun g' k h1 h2=>?_,fun _ h=>h,fun _ h=>h,fun _ h=>.inl h,fun _ h=>.inl h⟩,⟨fun g'=>?_,?_,?_,?_,hm.ns⟩,RdD.of_S hs⟩
 ·by_cases h:g'=g
  ·subst h;exact .inr ⟨g',hg,h2⟩
  ·rw[Mem.at_cons_other _ _ (Ne.symm h)]at h1
   exact .inr ⟨g',h1,h2⟩
 ·by_cases h:g'=g
  ·subst h
   rw[Mem.at_cons_same]
   show BoxOK _ _ (C.ι g') bx
   rw[hi]
   exact hbx hd hs
  ·rw[Mem.at_cons_other _ _ (Ne.symm h)]
   by_cases hgo':m.at g' = .gone
   ·rw[hgo'];trivial
   ·exact BoxOK.upd (hm.box g') (fun k hkk=>hkg g' k h hgo' hkk) hd hs (fun _ h=>h) (fun _ h=>h)
 ·intro g1 g2 k h1 h2 i1 i2
  refine hm.inj g1 g2 k ?_ ?_ i1 i2
  ·by_cases e:g1=g
   ·rw[e];exact hgo
   ·rwa[Mem.at_cons_other _ _ (Ne.symm e)]at h1
  ·by_cases e:g2=g
   ·rw[e];exact hgo
   ·rwa[Mem.at_cons_other _ _ (Ne.symm e)]at h2
 ·intro g' k h1 h2 h3
  by_cases e:g'=g
  ·subst e;exact hm.sep g' k hg h2 h3
  ·rw[Mem.at_cons_other _ _ (Ne.symm e)]at h1
   exact hm.sep g' k h1 h2 h3
 ·intro k hks
  show k<w.heap.size
  rw[hsz];exact hm.sdom k hks
end Go.Proofs.YtcdhlofhhcgohaaGreat
