/- The D-machine, part 12: states read as weaker ones: slots and boxes forgotten, renamed, frozen; nil as an empty row. -/
import Derived.Test.YtcdhlofhhcgohaaGreatw9Draw
namespace Go.Proofs.YtcdhlofhhcgohaaGreat
open Go.RowKit
class StructI (P:Program) (t:TypeId) (pl:outParam (List (Nat×Nat))):Prop where
 out:∃ fs,P.underlying t=some (.struct fs)∧(fs.toList.map fun f=>(f.offset,(P.info? f.type).map (·.size)))=pl.map fun p=>(p.1,some p.2)
def zjX (pl:Nat→Option (Nat×Nat)) (e:Operand→D):List D→List (Nat×Operand)→Option (List D)
 | cs,[]=>some cs
 | cs,(i,x)::r=>match pl i,(e x).cells with
  | some (off,size),some ds=>bif Nat.beq ds.length size && Nat.ble (off+ds.length) cs.length then zjX pl e (splice cs off ds) r else none
  | _,_=>none
theorem zhZ (vs:List Value):∀ (k off:Nat) (cs:Array Value),off+k+vs.length≤cs.size →
  ((vs.zipIdx k).foldl (fun cs (p:Value×Nat)=>cs.setIfInBounds (off+p.2) p.1) cs).size=cs.size ∧
  ∀ j,((vs.zipIdx k).foldl (fun cs (p:Value×Nat)=>cs.setIfInBounds (off+p.2) p.1) cs)[j]? = if off+k≤j∧j<off+k+vs.length then vs[j-(off+k)]? else cs[j]? := by
 induction vs with
 | nil =>
  intro k off cs h
  refine⟨rfl,fun j=>?_⟩
  rw[if_neg (by simp)]
  rfl
 | cons v vs ih =>
  intro k off cs h
  simp only[List.length_cons]at h
  have:=ih (k+1) off (cs.setIfInBounds (off+k) v) (by simp;omega)
  simp only[List.zipIdx_cons,List.foldl_cons]
  refine⟨by rw[this.1];simp,fun j=>?_⟩
  rw[this.2 j]
  by_cases c1:off+(k+1)≤j∧j<off+(k+1)+vs.length
  ·rw[if_pos c1,if_pos (by simp;omega)]
   obtain⟨q,hq⟩:∃ q,j-(off+k)=q+1:=⟨j-(off+k)-1,by omega⟩
   rw[hq,List.getElem?_cons_succ]
   congr 1
   omega
  ·rw[if_neg c1]
   by_cases c2:j=off+k
   ·subst c2
    rw[if_pos (by simp)]
    simp[show off+k<cs.size by omega]
   ·rw[if_neg (by simp;omega),Array.getElem?_setIfInBounds,if_neg (by omega)]
theorem zlm {C:Cf} {m:Mem} {pl:Nat→Option (Nat×Nat)} {e:Operand→D} {ρ:Operand→Value}:∀ (parts:List (Nat×Operand)) (cs cs':List D) (arr:Array Value),
  (∀ i x,(i,x)∈parts→RdD C m (e x) (ρ x))→zjX pl e cs parts=some cs'→arr.size=cs.length→(∀ (j:Nat) d c,cs[j]? = some d→arr[j]? = some c→RdS C m d c) →
  ∃ arr',Instr.fill pl arr (parts.map fun(i,x)=>(i,ρ x))=some arr'∧arr'.size=cs'.length∧∀ (j:Nat) d c,cs'[j]? = some d→arr'[j]? = some c→RdS C m d c
 | [],cs,cs',arr,_,h,hl,hr=>by
  simp only[zjX,Option.some.injEq]at h
  subst h
  exact⟨arr,rfl,hl,hr⟩
 | (i, x)::r,cs,cs',arr,hx,h,hl,hr=>by
  simp only[zjX]at h
  cases hp:pl i with
  | none=>simp[hp]at h
  | some p =>
   obtain⟨off,size⟩:=p
   cases hc:(e x).cells with
   | none=>simp[hp,hc]at h
   | some ds =>
    simp only[hp,hc]at h
    cases hb:(Nat.beq ds.length size && Nat.ble (off+ds.length) cs.length)with
    | false=>simp[hb]at h
    | true =>
     simp only[hb,cond_true]at h
     simp only[Bool.and_eq_true]at hb
     have hsz:=Nat.eq_of_beq_eq_true hb.1
     have hle:=Nat.le_of_ble_eq_true hb.2
     obtain⟨h1,h2⟩:=cells_ok (hx i x (by simp)) hc
     obtain⟨f1,f2⟩:=zhZ (ρ x).cells.toList 0 off arr (by simp;omega)
     have hz:(ρ x).cells.zipIdx.foldl (fun cs (c,j)=>cs.setIfInBounds (off+j) c) arr=((ρ x).cells.toList.zipIdx 0).foldl (fun cs (p:Value×Nat)=>cs.setIfInBounds (off+p.2) p.1) arr:=by
      rw[←Array.foldl_toList,Array.toList_zipIdx]
     obtain ⟨arr',g1,g2,g3⟩:=zlm r (splice cs off ds) cs' (((ρ x).cells.toList.zipIdx 0).foldl (fun cs (p:Value×Nat)=>cs.setIfInBounds (off+p.2) p.1) arr)
      (fun i' x' hm=>hx i' x' (List.mem_cons_of_mem _ hm)) h (by rw[f1,ze2 (by omega)];exact hl) (fun j d c hd hcv=>by
       rw[zfp (by omega)]at hd
       rw[f2 j]at hcv
       simp only[Nat.add_zero,Array.length_toList,h1]at hcv
       by_cases hj:off≤j∧j<off+ds.length
       ·rw[if_pos hj]at hd hcv
        exact h2 _ _ _ hd (by simpa using hcv)
       ·rw[if_neg hj]at hd hcv
        exact hr j d c hd hcv)
     refine⟨arr',?_,g2,g3⟩
     simp only[List.map_cons,Instr.fill,hp]
     rw[if_neg (by simp;omega),hz]
     exact g1
def elsV (m:Mem) (e:Operand→D) (s:Nat):Nat→List (Nat×Operand)→Option (Bool×List (List V))
 | _,[]=>some (true,[])
 | k,(i,x)::r=>match D.vcells m (e x),elsV m e s (k+1) r with
  | some (n,vs),some (n',els)=>bif Nat.beq i k && Nat.beq vs.length s && vs.all V.one then some (n && n',vs::els)else none
  | _,_=>none
section
variable {P : Program} {e : Operand → D} {m : Mem} {dst : Option Tmp} {ty : TypeId} {pos : String} {af : Array Edge} {gd : Option (Nat × Bool)} {x y z : Operand} {t : TypeId} {yt : TypeId}
theorem zsz {s by_:Nat} {zs:List V} {pl:List (Nat×Nat)} {cs:List D} {parts:Array (Nat×Operand)} [ht:TyI P t true s by_ zs] [hp:StructI P t pl] (h:zjX (pl[·]?) e (zs.map V.zD) parts.toList=some cs) :
  SStep P ⟨dst,.build t parts,ty,pos,af,gd⟩ e m [] (.aggd cs) [] :=
 .pure fun C m' ac _ hh hx=>by
  obtain⟨fs,hu,hpl⟩:=hp.out
  have hmem:∀ i y,(i,y)∈parts.toList→RdD C m' (e y) (ac.eval y):=fun i y hy=>hx y (by
   simp only[Op.operands,List.mem_toArray,List.mem_map]
   exact⟨(i,y),hy,rfl⟩)
  obtain⟨arr',g1,g2,g3⟩:=zlm (ρ:=ac.eval) parts.toList _ cs (zs.map V.val).toArray hmem h (by simp) (fun j d c h1 h2=>zgA ht j d c h1 h2)
  refine⟨.agg arr',?_,⟨arr',rfl,g2,g3⟩⟩
  have hplaces:∀ w:World,(fs.mapM fun f=>do pure (f.offset,←sizeOf f.type):Sem (Array (Nat×Nat))).run P w = .ok pl.toArray w:=by
   intro w
   have gen:∀ (l:List Field) (pl:List (Nat×Nat)),(l.map fun f=>(f.offset,(P.info? f.type).map (·.size)))=(pl.map fun p=>(p.1,some p.2)) →
     (l.mapM fun f=>do pure (f.offset,←sizeOf f.type):Sem (List (Nat×Nat))).run P w = .ok pl w:=by
    intro l
    induction l with
    | nil=>intro pl h;cases pl<;>simp at h ⊢
    | cons f l ih =>
     intro pl h
     cases pl with
     | nil=>simp at h
     | cons p pl =>
      simp only[List.map_cons,List.cons.injEq,Prod.mk.injEq]at h
      obtain⟨⟨h1,h2⟩,h3⟩:=h
      have hsz:(sizeOf f.type).run P w = .ok p.2 w:=by
       obtain⟨i,hi,his⟩:=Option.map_eq_some_iff.1 h2
       simp[sizeOf,typeInfo,program,Sem.run,hi,his]
      have:=ih pl h3
      simp only[List.mapM_cons,Sem.run_bind,hsz,Result.andThen_ok,Sem.run_pure,this,h1]
   have he:(fs.mapM fun f=>do pure (f.offset,←sizeOf f.type):Sem (Array (Nat×Nat)))=List.toArray <$> (fs.toList.mapM fun f=>do pure (f.offset,←sizeOf f.type):Sem (List (Nat×Nat))):=by
    cases fs;simp
   rw[he,Sem.run_map,gen _ _ hpl]
   rfl
  have hget:(fun i:Nat=>pl.toArray[i]?)=fun i:Nat=>pl[i]? := funext fun i=>List.getElem?_toArray
  show(do pure (Next.value (←Instr.build t (parts.map fun(i,x)=>(i,ac.eval x)))):Sem Next).run P C.w=_
  simp only[Instr.build,Sem.run_bind,zef ht,Result.andThen_ok,zao hu,hplaces,zcells ht,hget,Array.toList_map,g1,Sem.run_pure]
theorem zqC {s by_ es eb len el:Nat} {eagg:Bool} {zs ez:List V} {cs:List D} {parts:Array (Nat×Operand)} [ht:TyI P t true s by_ zs] [hu:ArrI P t len el] [he:TyI P el eagg es eb ez] (h:zjX (fun i=>some (i*es,es)) e (zs.map V.zD) parts.toList=some cs) :
  SStep P ⟨dst,.build t parts,ty,pos,af,gd⟩ e m [] (.aggd cs) [] :=
 .pure fun C m' ac _ hh hx=>by
  have hmem:∀ i y,(i,y)∈parts.toList→RdD C m' (e y) (ac.eval y):=fun i y hy=>hx y (by
   simp only[Op.operands,List.mem_toArray,List.mem_map]
   exact⟨(i,y),hy,rfl⟩)
  obtain⟨arr',g1,g2,g3⟩:=zlm (ρ:=ac.eval) parts.toList _ cs (zs.map V.val).toArray hmem h (by simp) (fun j d c h1 h2=>zgA ht j d c h1 h2)
  refine⟨.agg arr',?_,⟨arr',rfl,g2,g3⟩⟩
  show(do pure (Next.value (←Instr.build t (parts.map fun(i,x)=>(i,ac.eval x)))):Sem Next).run P C.w=_
  simp only[Instr.build,Sem.run_bind,zef ht,Result.andThen_ok,zao hu.out,zaS he,zcells ht,Array.toList_map,g1,Sem.run_pure]
theorem zoq {C:Cf} {m':Mem} {ρ:Operand→Value} {s:Nat} (hm:HoldsM C m'):∀ (parts:List (Nat×Operand)) (k:Nat) (n:Bool) (els:List (List V)) (arr:Array Value),
  (∀ i x,(i,x)∈parts→RdD C m' (e x) (ρ x))→(∀ i x g,(i,x)∈parts→g∈refs m (e x)→m'.at g=m.at g)→elsV m e s k parts=some (n,els)→(k+parts.length)*s≤arr.size →
  ∃ arr',Instr.fill (fun i=>some (i*s,s)) arr (parts.map fun(i,x)=>(i,ρ x))=some arr'∧arr'.size=arr.size∧els.length=parts.length∧(∀ (i:Nat) (el:List V),els[i]? = some el→el.length=s∧∀ (j:Nat) d,el[j]? = some d→d.one=true) ∧
   (∀ j,j<k*s→arr'[j]? = arr[j]?)∧∀ (i j:Nat) el d c,els[i]? = some el→el[j]? = some d→arr'[(k+i)*s+j]? = some c→RdF C n d c
 | [],k,n,els,arr,_,_,h,_=>by
  simp only[elsV,Option.some.injEq,Prod.mk.injEq]at h
  obtain⟨rfl,rfl⟩:=h
  exact⟨arr,rfl,rfl,rfl,by simp,fun _ _=>rfl,by simp⟩
 | (i, x)::r,k,n,els,arr,hx,hrf,h,hsz=>by
  simp only[elsV]at h
  cases h1:D.vcells m (e x)with
  | none=>simp[h1]at h
  | some p =>
   obtain⟨n1,vs⟩:=p
   cases h2:elsV m e s (k+1) r with
   | none=>simp[h1,h2]at h
   | some q =>
    obtain⟨n2,els2⟩:=q
    simp only[h1,h2]at h
    cases hb:(Nat.beq i k && Nat.beq vs.length s && vs.all V.one)with
    | false=>simp[hb]at h
    | true =>
     simp only[hb,cond_true,Option.some.injEq,Prod.mk.injEq]at h
     obtain⟨rfl,rfl⟩:=h
     simp only[Bool.and_eq_true]at hb
     obtain⟨⟨b1,b2⟩,b3⟩:=hb
     have hik:=Nat.eq_of_beq_eq_true b1
     have hvs:=Nat.eq_of_beq_eq_true b2
     subst hik
     rw[List.all_eq_true]at b3
     obtain ⟨c1,c2⟩:=zjO hm (fun g hg=>hrf i x g (by simp) (by
      rcases hg with hg|⟨cs,hcs,hg⟩
      ·cases hex:e x with
       | aggd cs=>rw[hex]at hg;simp[refs0]at hg
       | fnd f cs=>rw[hex]at hg;simp[refs0]at hg
       | ptr g' off=>rw[hex]at hg;simp only[refs0]at hg;simp only[refs];exact List.mem_cons.2 (.inl (by simpa using hg))
       | _=>rw[hex]at hg;exact hg
      ·rw[hcs];exact hg)) h1 (hx i x (by simp))
     have hsz':i*s+s≤arr.size:=by
      have:(i+1)*s≤(i+((i,x)::r).length)*s:=Nat.mul_le_mul_right _ (by simp)
      rw[Nat.add_mul,Nat.one_mul]at this
      omega
     obtain⟨f1,f2⟩:=zhZ (ρ x).cells.toList 0 (i*s) arr (by simp;omega)
     have hz:(ρ x).cells.zipIdx.foldl (fun cs (c,j)=>cs.setIfInBounds (i*s+j) c) arr=((ρ x).cells.toList.zipIdx 0).foldl (fun cs (p:Value×Nat)=>cs.setIfInBounds (i*s+p.2) p.1) arr:=by
      rw[←Array.foldl_toList,Array.toList_zipIdx]
     obtain ⟨arr',g1,g2,g3,g4,g5,g6⟩:=zoq hm r (i+1) n2 els2 (((ρ x).cells.toList.zipIdx 0).foldl (fun cs (p:Value×Nat)=>cs.setIfInBounds (i*s+p.2) p.1) arr)
      (fun i' x' hm'=>hx i' x' (List.mem_cons_of_mem _ hm')) (fun i' x' g hm'=>hrf i' x' g (List.mem_cons_of_mem _ hm')) h2 (by
       rw[f1]
       simp only[List.length_cons]at hsz
       rw[show i+1+r.length=i+(r.length+1) by omega]
       exact hsz)
     refine⟨arr',?_,by rw[g2,f1],by simp[g3],fun k' el hk'=>?_,fun j hj=>?_,fun k' j el d c hk' hd hcv=>?_⟩
     ·simp only[List.map_cons,Instr.fill]
      rw[if_neg (by simp;omega),hz]
      exact g1
     ·cases k' with
      | zero =>
       simp only[List.getElem?_cons_zero,Option.some.injEq]at hk'
       subst hk'
       exact⟨hvs,fun j d hd=>b3 d (List.mem_of_getElem? hd)⟩
      | succ k'=>exact g4 k' el (by simpa using hk')
     ·rw[g5 j (by rw[Nat.add_mul];omega),f2 j,if_neg (by omega)]
     ·cases k' with
      | zero =>
       simp only[List.getElem?_cons_zero,Option.some.injEq]at hk'
       subst hk'
       have hj:j<s:=by have:=(List.getElem?_eq_some_iff.1 hd).1;omega
       rw[Nat.add_zero,g5 _ (by rw[Nat.add_mul,Nat.one_mul];omega),f2 _,if_pos (by simp;omega)]at hcv
       simp only[Nat.add_zero,Nat.add_sub_cancel_left,Array.getElem?_toList]at hcv
       exact(c2 j d c hd hcv).and hm
      | succ k' =>
       refine(g6 k' j el d c (by simpa using hk') hd ?_).and' hm
       rw[show i+1+k'=i+(k'+1) by omega]
       exact hcv
theorem ztV {el s by_ len:Nat} {agg n:Bool} {zs:List V} {els:List (List V)} {parts:Array (Nat×Operand)} [hu:SlcI P t el] [ht:TyI P el agg s by_ zs] (h:elsV m e s 0 parts.toList=some (n,els)) (hl:Nat.beq parts.size len=true) (hb:Nat.ble (len*s) 16777216=true) (hb2:Nat.ble len 16777216=true) :
  SStep P ⟨dst,.buildSlice t len parts,ty,pos,af,gd⟩ e m (parts.toList.flatMap fun p=>refs m (e p.2)) (.dat n (.slice els)) []:=by
 intro C m' a next Q ha hm hx hn
 have hl:=Nat.eq_of_beq_eq_true hl
 have hb:=Nat.le_of_ble_eq_true hb
 have hmem:∀ i y,(i,y)∈parts.toList→RdD C m' (e y) (a.eval y):=fun i y hy=>hx y (by
  simp only[Op.operands,List.mem_toArray,List.mem_map]
  exact⟨(i,y),hy,rfl⟩)
 obtain⟨arr',g1,g2,g3,g4,_,g6⟩:=zoq (ρ:=a.eval) hm parts.toList 0 n els ((Array.range (len*s)).map ((zs.map V.val).toArray[· % (zs.map V.val).toArray.size]!)) hmem
  (fun i y g hy hg=>ha g (.inl (List.mem_flatMap.2 ⟨(i,y),hy,hg⟩))) h (by simp[←hl])
 have hlen:els.length=len:=by rw[g3];simpa using hl
 have hrun:(execOp a.eval ⟨dst,.buildSlice t len parts,ty,pos,af,gd⟩).run P C.w = .ok (.value (.slice (some ⟨C.w.heap.size,0,none⟩) len len)) (C.w.alloc (.cells arr' el)):=by
  show(do pure (Next.value (←Instr.buildSlice t len (parts.map fun(i,x)=>(i,a.eval x)))):Sem Next).run P C.w=_
  simp only[Instr.buildSlice,Sem.run_bind,zao hu.out,Result.andThen_ok,zaS ht,Array.toList_map]
  have hno:¬(len*s>2 ^ 24):=by omega
  simp only[hno,if_false]
  have g1':∀ zz:Array Value,(len*s=0∨zz=(zs.map V.val).toArray)→Instr.fill (fun i=>some (i*s,s)) ((Array.range (len*s)).map (zz[· % zz.size]!)) (parts.toList.map fun(i,x)=>(i,a.eval x))=some arr':=by
   intro zz hz
   rcases hz with hz|hz
   ·have e0:∀ f:Nat→Value,(Array.range (len*s)).map f = #[]:=fun f=>by rw[hz];simp
    rw[←g1,e0,e0]
   ·rw[hz];exact g1
  by_cases h0:len*s=0
  ·simp only[h0,if_true,Sem.run_bind,Sem.run_pure,Result.andThen_ok]
   have:=g1' #[] (.inl h0)
   rw[h0]at this
   simp only[this]
   simp[newRow,newObj,Sem.run]
  ·simp only[h0,if_false,Sem.run_bind,zef ht,Result.andThen_ok,zcells ht,Sem.run_pure]
   simp only[g1' _ (.inr rfl)]
   simp[newRow,newObj,Sem.run]
 have hsz0:arr'.size=len*s:=by rw[g2];simp
 have hst:=zc9 (w:=C.w.alloc (.cells arr' el)) (fun k=>k=C.w.heap.size) hm (Grew.alloc _ _) (fun k hk=>by subst hk;simp)
 refine zaC hrun (hn _ _ hst ?_)
 have hblk:(C.w.alloc (.cells arr' el)).heap[C.w.heap.size]? = some (.cells arr' el (0,0)):=heap_alloc_new C.w _
 have hcell:∀ (i j:Nat) (e':List V) (d:V),els[i]? = some e'→e'[j]? = some d→arr'[0+i*s+j]? = some (arr'.getD (i*s+j) undef)∧arr'[i*s+j]? = some (arr'.getD (i*s+j) undef):=by
  intro i j e' d hi hj
  have h1:i<els.length:=(List.getElem?_eq_some_iff.1 hi).1
  have h2:j<s:=by have:=(List.getElem?_eq_some_iff.1 hj).1;have:=(g4 i e' hi).1;omega
  have:i*s+j<arr'.size:=by rw[hsz0,←hlen];exact zdr h1 h2
  simp[Array.getElem?_eq_getElem this]
 have hsl:=Rd.slice (S:=(C.put (fun k=>k=C.w.heap.size) (C.w.alloc (.cells arr' el))).D n) (w:=C.w.alloc (.cells arr' el)) els C.w.heap.size 0 len s (fun i j=>arr'.getD (i*s+j) undef) (by omega)
  (by unfold maxLen;have:=Nat.le_of_ble_eq_true hb2;omega)
  (fun i e' hi=>(g4 i e' hi).1) (fun i j e' d hi hj=>(g4 i e' hi).2 j d hj) (fun _=>by cases n<;>exact .inr rfl)
  (fun i j e' d hi hj=>by rw[zaz hblk];exact(hcell i j e' d hi hj).1)
  (fun i j e' d hi hj=>by
   have hr:=g6 i j e' d _ hi hj (by rw[Nat.zero_add];exact(hcell i j e' d hi hj).2)
   exact RdF.mono hr hm hst.ext)
 rw[hlen]at hsl
 exact hsl
end
end Go.Proofs.YtcdhlofhhcgohaaGreat
namespace Go.Proofs.YtcdhlofhhcgohaaGreat
open Go.RowKit
def InK : IntKind→Int→Prop
 | .i8,a => -128≤a∧a≤127
 | .i16,a => -32768≤a∧a≤32767
 | .i32,a => -2147483648≤a∧a≤2147483647
 | .i64,a => -9223372036854775808≤a∧a≤9223372036854775807
 | .u8,a=>0≤a∧a≤255
 | .u16,a=>0≤a∧a≤65535
 | .u32,a=>0≤a∧a≤4294967295
 | .u64,a=>0≤a∧a≤18446744073709551615
theorem wrap_in {k:IntKind} {a:Int} (h:InK k a):k.wrap a=a:=by
 cases k<;>simp only[InK]at h<;>simp only[IntKind.wrap,IntKind.bits,IntKind.signed]<;>simp<;>omega
section
variable {P : Program} {e : Operand → D} {m : Mem} {dst : Option Tmp} {ty : TypeId} {pos : String} {af : Array Edge} {gd : Option (Nat × Bool)} {x y z : Operand} {t : TypeId} {yt : TypeId}
theorem zsA {n1 n2:Bool} {k:IntKind} {a b:Int} (h1:e x = .dat n1 (.int k a)) (h2:e y = .dat n2 (.int k b)) (hr:InK k (a+b)) :
  SStep P ⟨dst,.binOp .add t x y yt,ty,pos,af,gd⟩ e m [] (.dat true (.int k (a+b))) []:=by have:=zn8 (P:=P) (m:=m) (dst:=dst) (ty:=ty) (pos:=pos) (af:=af) (gd:=gd) (t:=t) (yt:=yt) h1 h2;rwa[wrap_in hr]at this
theorem ztz {n1 n2:Bool} {k:IntKind} {a b:Int} (h1:e x = .dat n1 (.int k a)) (h2:e y = .dat n2 (.int k b)) (hr:InK k (a*b)) :
  SStep P ⟨dst,.binOp .mul t x y yt,ty,pos,af,gd⟩ e m [] (.dat true (.int k (a*b))) []:=by have:=zqt (P:=P) (m:=m) (dst:=dst) (ty:=ty) (pos:=pos) (af:=af) (gd:=gd) (t:=t) (yt:=yt) h1 h2;rwa[wrap_in hr]at this
theorem ziS {n:Bool} {k k':IntKind} {s:TypeId} {a:Int} [hs:IntI P s k] [ht:IntI P t k'] (h:e x = .dat n (.int k a)) (hr:InK k' a) :
  SStep P ⟨dst,.convert s t x,ty,pos,af,gd⟩ e m [] (.dat true (.int k' a)) []:=by
 have:=zlf (P:=P) (m:=m) (dst:=dst) (ty:=ty) (pos:=pos) (af:=af) (gd:=gd) hs.out ht.out h
 rwa[wrap_in hr]at this
theorem zsB {n:Bool} {k k':IntKind} {s:TypeId} {a:Int} [hs:IntI P s k] [ht:IntI P t k'] (h:e x = .dat n (.int k a)) :
  SStep P ⟨dst,.convert s t x,ty,pos,af,gd⟩ e m [] (.dat true (.int k' (k'.wrap a))) []:=zlf hs.out ht.out h
theorem zaH {n:Bool} {k k':IntKind} {s:TypeId} {a b:Int} [hs:IntI P s k] [ht:IntI P t k'] (h:e x = .dat n (.int k a)) (hb:k'.wrap a=b) :
  SStep P ⟨dst,.convert s t x,ty,pos,af,gd⟩ e m [] (.dat true (.int k' b)) []:=by
 subst hb;exact zlf hs.out ht.out h
theorem zaw {op:Op} {rd:List Nat} {k:IntKind} {a b:Int} (h:SStep P ⟨dst,op,ty,pos,af,gd⟩ e m rd (.dat true (.int k a)) []) (hb:a=b):SStep P ⟨dst,op,ty,pos,af,gd⟩ e m rd (.dat true (.int k b)) []:=by
 subst hb;exact h
end
def V.flat0 : V→Bool
 | .bool _ | .int _ _ | .str _ | .undef=>true
 | .slice []=>true
 | _=>false
def V.flatB : V→Bool
 | .agg cs=>cs.all V.flat0
 | .tuple cs=>cs.all fun c=>match c with
  | .agg ds=>ds.all V.flat0
  | c=>c.flat0
 | x=>x.flat0
theorem zgi {x:V} (h:x.flat0=true):Flat x:=by
 cases x with
 | bool b=>exact .bool b
 | int k n=>exact .int k n
 | str s=>exact .str s
 | undef=>exact .undef
 | slice xs=>cases xs with
  | nil=>exact .nil
  | cons a l=>simp[V.flat0]at h
 | _=>simp[V.flat0]at h
theorem zor {x:V} (h:x.flatB=true):Flat x:=by
 cases x with
 | agg cs =>
  simp only[V.flatB,List.all_eq_true]at h
  exact .agg cs (fun j d hd=>zgi (h d (List.mem_of_getElem? hd)))
 | tuple cs =>
  simp only[V.flatB,List.all_eq_true]at h
  refine .tuple cs (fun j d hd=>?_)
  have:=h d (List.mem_of_getElem? hd)
  cases d with
  | agg ds =>
   simp only[List.all_eq_true]at this
   exact .agg ds (fun j d hd=>zgi (this d (List.mem_of_getElem? hd)))
  | _=>exact zgi this
 | _=>exact zgi h
section
variable {P : Program} {ops : Array Oper} {r : List Oper} {env : Env} {mem : Mem} {nt : Nat} {acc : List (List Nat × List Nat)} {K : List (List Nat × List Nat) → St → Prop} {rd : List Nat} {val : D} {wr : Mem}
 {t:Nat} {op:Op} {ty:TypeId} {pos:String} {af:Array Edge}
theorem dt {bx:Box} (hd:Nat.blt t nt=true) (h:SStep P ⟨some t,op,ty,pos,af,none⟩ (ev ⟨env,mem,nt⟩) mem rd val [(t,bx)]) (k:DOps P ops r ⟨(t,val)::env,(t,bx)::mem,nt⟩ ((rd,[t])::acc) K) :
  DOps P ops (⟨some t,op,ty,pos,af,none⟩::r) ⟨env,mem,nt⟩ acc K:=dstep hd (.plain rfl h) k
end
section
variable {P : Program} {ops : Array Oper} {r : List Oper} {env : Env} {mem : Mem} {nt : Nat} {acc : List (List Nat × List Nat)} {K : List (List Nat × List Nat) → St → Prop} {rd : List Nat} {val : D} {wr : Mem}
 {t:Nat} {c:Call} {ty:TypeId} {pos:String} {af:Array Edge}
end
theorem Wd {P:Program} {Q:Exit→St→Prop} {s:St} {l:List Oper} {acc:List (List Nat×List Nat)} (hc:chk l acc=true) (h:Q .normal s):DOps P l.toArray [] s acc (fun acc s'=>chk l acc=true∧Q .normal s'):=dnil ⟨hc,h⟩
theorem ztW {P:Program} {ops:Array Oper} {Q:Exit→St→Prop} {s:St} {acc:List (List Nat×List Nat)} (h:Q .normal s):DOps P ops [] s acc (fun _ s'=>Q .normal s'):=dnil h
end Go.Proofs.YtcdhlofhhcgohaaGreat
namespace Go.Proofs.YtcdhlofhhcgohaaGreat
open Go.RowKit
def zbK (m:Mem):D→Option (Nat×Nat×Nat×Bool×Bool×Nat×List (List V))
 | .own g ver lo len=>match m.at g with
  | .row ver' frz nw sz xs=>bif Nat.beq ver ver' then some (g,lo,len,frz,nw,sz,xs)else none
  | _=>none
 | _=>none
theorem zds {m:Mem} {d:D} {g lo len sz:Nat} {frz nw:Bool} {xs:List (List V)} (h:zbK m d=some (g,lo,len,frz,nw,sz,xs)):∃ ver,d = .own g ver lo len∧m.at g = .row ver frz nw sz xs:=by
 cases d with
 | own g' ver lo' len' =>
  simp only[zbK]at h
  cases hm:m.at g' with
  | row ver' frz' nw' sz' xs' =>
   simp only[hm]at h
   cases hb:Nat.beq ver ver' with
   | false=>simp[hb]at h
   | true =>
    simp only[hb,cond_true,Option.some.injEq,Prod.mk.injEq]at h
    obtain⟨rfl,rfl,rfl,rfl,rfl,rfl,rfl⟩:=h
    have:=Nat.eq_of_beq_eq_true hb
    subst this
    exact⟨ver,rfl,hm⟩
  | _=>simp[hm]at h
 | _=>simp[zbK]at h
def zqD (e:Mem) (ρ:Nat→Option Nat):D→D→Prop
 | d,.ptr g off=>∃ g0 frz nw cs,ρ g=some g0∧d = .ptr g0 off∧e.at g = .cells frz nw cs
 | _,_=>False
def zjY (e:Mem) (ρ:Nat→Option Nat):List D→List D→Prop
 | [],[]=>True
 | a::r,b::r'=>zqD e ρ a b∧zjY e ρ r r'
 | _,_=>False
theorem zh0 {e:Mem} {ρ:Nat→Option Nat}:∀ {l l':List D},zjY e ρ l l'→l.length=l'.length∧∀ (j:Nat) d d',l[j]? = some d→l'[j]? = some d'→zqD e ρ d d'
 | [],[],_=>⟨rfl,by simp⟩
 | a::r,b::r',h=>by
  obtain⟨h1,h2⟩:=zh0 h.2
  refine⟨by simp[h1],fun j d d' q q'=>?_⟩
  cases j with
  | zero=>simp only[List.getElem?_cons_zero,Option.some.injEq]at q q';subst q q';exact h.1
  | succ j=>exact h2 j d d' (by simpa using q) (by simpa using q')
 | [],_::_,h=>h.elim
 | _::_,[],h=>h.elim
def zbX (s e:Mem) (ρ:Nat→Option Nat) (d:D):D→Prop
 | .any=>True
 | .nil=>d = .nil
 | .dat n x=>∃ n',asV s d=some (n',x)∧(n'=n∨n=false∨x.flatB=true)
 | .own g ver lo len=>match ρ g with
  | some g0=>∃ r,zbK s d=some (g0,r)∧zbK e (.own g ver lo len)=some (g,r)
  | none=>d = .nil∧∃ nw sz,zbK e (.own g ver lo len)=some (g,0,0,false,nw,sz,[])
 | .ptr g off=>∃ g0 frz nw cs,ρ g=some g0∧d = .ptr g0 off∧e.at g = .cells frz nw cs
 | .rptr g ver i off=>∃ g0 frz nw sz xs ver0,ρ g=some g0∧d = .rptr g0 ver0 i off∧s.at g0 = .row ver0 frz nw sz xs∧e.at g = .row ver frz nw sz xs
 | .mp g=>∃ g0 kt et es,ρ g=some g0∧d = .mp g0∧e.at g = .mapb kt et es
 | .sl g n=>∃ g0 frz nw cs,ρ g=some g0∧d = .sl g0 n∧e.at g = .cells frz nw cs
 | .grd _ _=>False
 | .aggd _=>False
 | .fnd f cs=>∃ cs0,d = .fnd f cs0∧zjY e ρ cs0 cs
def zdt (s e:Mem) (ρ:Nat→Option Nat):List D→List D→Prop
 | [],[]=>True
 | d::r,d'::r'=>zbX s e ρ d d'∧zdt s e ρ r r'
 | _,_=>False
def zdP (s e:Mem) (ρ:Nat→Option Nat) (g:Nat):Box→Prop
 | .gone=>True
 | .row _ frz nw sz xs=>match ρ g with
  | some g0=>∃ ver0,s.at g0 = .row ver0 frz nw sz xs
  | none=>xs=[]∧frz=false
 | .cells frz nw cs'=>∃ g0 cs,ρ g=some g0∧s.at g0 = .cells frz nw cs∧zdt s e ρ cs cs'
 | .mapb kt et es=>∃ g0,ρ g=some g0∧s.at g0 = .mapb kt et es
def zeH (s:St) (e:St) (ρ:Nat→Option Nat):Env→Prop
 | []=>True
 | (t,d')::r=>zbX s.mem e.mem ρ (s.env.at t) d'∧zeH s e ρ r
def zeI (s:St) (e:St) (ρ:Nat→Option Nat):Mem→Prop
 | []=>True
 | (g,b)::r=>zdP s.mem e.mem ρ g b∧zeI s e ρ r
def zev (ρ:Nat→Option Nat):List Nat→Bool
 | []=>true
 | g::r=>r.all (fun g'=>Nat.beq g g' || (match ρ g,ρ g' with|some a,some b => !Nat.beq a b|_,_=>true)) && zev ρ r
theorem zeg {s e:St} {ρ:Nat→Option Nat}:∀ {l:Env},zeH s e ρ l→∀ t,zbX s.mem e.mem ρ (s.env.at t) (Env.at l t)
 | [],_,t=>trivial
 | (u,d)::r,h,t=>by
  unfold Env.at
  rw[zai]
  by_cases hu:u=t
  ·subst hu;rw[if_pos rfl];exact h.1
  ·rw[if_neg hu];exact zeg h.2 t
theorem zeh {s e:St} {ρ:Nat→Option Nat}:∀ {l:Mem},zeI s e ρ l→∀ g,zdP s.mem e.mem ρ g (Mem.at l g)
 | [],_,g=>trivial
 | (u,d)::r,h,g=>by
  unfold Mem.at
  rw[zai]
  by_cases hu:u=g
  ·subst hu;rw[if_pos rfl];exact h.1
  ·rw[if_neg hu];exact zeh h.2 g
theorem zdz {l:Mem} {g:Nat} (h:l.at g ≠ .gone):g∈l.map (·.1):=by
 induction l with
 | nil=>exact absurd rfl h
 | cons p r ih =>
  obtain⟨u,b⟩:=p
  unfold Mem.at at *
  rw[zai]at h
  by_cases hu:u=g
  ·simp[hu]
  ·rw[if_neg hu]at h
   simp only[List.map_cons,List.mem_cons]
   exact .inr (ih h)
theorem zgj {ρ:Nat→Option Nat}:∀ {l:List Nat},zev ρ l=true→∀ {g g' a:Nat},g∈l→g'∈l→ρ g=some a→ρ g'=some a→g=g'
 | [],_,g,_,_,h,_,_,_=>by cases h
 | u::r,h,g,g',a,h1,h2,e1,e2=>by
  simp only[zev,Bool.and_eq_true,List.all_eq_true]at h
  have key:∀ {k k':Nat},k=u→k'∈r→ρ k=some a→ρ k'=some a→k=k':=by
   intro k k' hk hk' q1 q2
   subst hk
   have:=h.1 k' hk'
   rw[q1,q2]at this
   simp only[Bool.or_eq_true,Bool.not_eq_true']at this
   rcases this with this|this
   ·exact Nat.eq_of_beq_eq_true this
   ·simp at this
  rcases List.mem_cons.1 h1 with h1|h1<;>rcases List.mem_cons.1 h2 with h2|h2
  ·rw[h1,h2]
  ·exact key h1 h2 e1 e2
  ·exact(key h2 h1 e2 e1).symm
  ·exact zgj h.2 h1 h2 e1 e2
theorem zgG {C:Cf} {s e:Mem} {ρ:Nat→Option Nat} {d d':D} {v:Value} (hm:HoldsM C s) (h:zbX s e ρ d d') (hd:RdD C s d v) :
  RdD { C with ι:=fun g=>(ρ g).bind C.ι } e d' v:=by
 cases d' with
 | any=>trivial
 | nil =>
  have h:d = .nil:=h
  subst h
  exact hd
 | dat n x =>
  obtain⟨n',h,hn⟩:=h
  have:=zcF hm (fun _ _=>rfl) h hd
  rcases hn with rfl|rfl|hf
  ·exact this
  ·exact RdF.weak (C:=C) this hm
  ·exact RdF.flat (C:=C) this (zor hf)
 | own g ver lo len =>
  simp only[zbX]at h
  cases hρ:ρ g with
  | some g0 =>
   rw[hρ]at h
   obtain⟨⟨lo',len',frz,nw,sz,xs⟩,h1,h2⟩:=h
   obtain⟨ver0,rfl,hs⟩:=zds h1
   obtain⟨ver1,he1,he2⟩:=zds h2
   injection he1 with e1 e2 e3 e4
   subst e2;subst e3;subst e4
   obtain⟨ver',frz',nw',sz',xs',hat,hle,hsl,ho⟩:=hd
   rw[hs]at hat
   injection hat with q1 q2 q3 q4 q5
   subst q1;subst q2;subst q3;subst q4;subst q5
   obtain⟨hl,ho⟩:=ho rfl
   exact⟨ver,frz,nw,sz,xs,he2,Nat.le_refl _,hsl,fun _=>⟨hl,by simpa[hρ]using ho⟩⟩
  | none =>
   rw[hρ]at h
   obtain⟨rfl,nw,sz,h2⟩:=h
   obtain⟨ver1,he1,he2⟩:=zds h2
   injection he1 with e1 e2 e3 e4
   subst e2;subst e3;subst e4
   have hv:v = .slice none 0 0:=hd
   subst hv
   exact⟨ver,false,nw,sz,[],he2,Nat.le_refl _,⟨_,_,_,rfl⟩,fun _=>⟨by simp,by simp[OwnV,hρ]⟩⟩
 | ptr g off =>
  obtain⟨g0,frz,nw,cs,h1,rfl,h3⟩:=h
  obtain⟨_,_,_,b,_,hi,hv⟩:=hd
  exact⟨frz,nw,cs,b,h3,by simp[h1,hi],hv⟩
 | rptr g ver i off =>
  obtain⟨g0,frz,nw,sz,xs,ver0,h1,rfl,h3,h4⟩:=h
  obtain⟨ver',frz',nw',sz',xs',hat,hle,hsl,ho⟩:=hd
  rw[h3]at hat
  injection hat with q1 q2 q3 q4 q5
  subst q1;subst q2;subst q3;subst q4;subst q5
  obtain⟨hl,b,hi,hv⟩:=ho rfl
  exact⟨ver,frz,nw,sz,xs,h4,Nat.le_refl _,hsl,fun _=>⟨hl,b,by simp[h1,hi],hv⟩⟩
 | mp g =>
  obtain⟨g0,kt,et,es,h1,rfl,h3⟩:=h
  obtain⟨_,_,_,b,_,hi,hv⟩:=hd
  exact⟨kt,et,es,b,h3,by simp[h1,hi],hv⟩
 | sl g n =>
  obtain⟨g0,frz,nw,cs,h1,rfl,h3⟩:=h
  obtain⟨_,_,_,b,cap,_,hi,hv⟩:=hd
  exact⟨frz,nw,cs,b,cap,h3,by simp[h1,hi],hv⟩
 | grd _ _=>exact h.elim
 | aggd _=>exact h.elim
 | fnd f cs =>
  obtain⟨cs0,rfl,hc⟩:=h
  obtain⟨vs,hv,hl,hall⟩:=hd
  obtain⟨hle,hget⟩:=zh0 hc
  refine⟨vs,hv,by omega,fun j d' c h1 h2=>?_⟩
  have hj:j<cs0.length:=by have:=(List.getElem?_eq_some_iff.1 h1).1;omega
  have hq:=hget j _ d' (List.getElem?_eq_getElem hj) h1
  have hr:=hall j _ c (List.getElem?_eq_getElem hj) h2
  cases d' with
  | ptr g off =>
   obtain⟨g0,frz,nw,cs,h1,h2,h3⟩:=hq
   rw[h2]at hr
   obtain⟨_,_,_,b,_,hi,hv⟩:=hr
   exact⟨frz,nw,cs,b,h3,by simp[h1,hi],hv⟩
  | _=>exact hq.elim
theorem zmq {C:Cf} {s e:Mem} {ρ:Nat→Option Nat} {d d':D} {v:Value} (hm:HoldsM C s) (h:zbX s e ρ d d') (hd:RdS C s d v) :
  RdS { C with ι:=fun g=>(ρ g).bind C.ι } e d' v:=by
 have:=zgG hm h hd.rd
 cases d' with
 | grd _ _=>exact h.elim
 | aggd _=>exact h.elim
 | fnd f cs =>
  obtain⟨cs0,rfl,_⟩:=h
  exact hd.elim
 | _=>exact this
theorem zdu {s e:Mem} {ρ:Nat→Option Nat}:∀ {l l':List D},zdt s e ρ l l'→l.length=l'.length∧∀ (j:Nat) d d',l[j]? = some d→l'[j]? = some d'→zbX s e ρ d d'
 | [],[],_=>⟨rfl,by simp⟩
 | d::r,d'::r',h=>by
  obtain⟨h1,h2⟩:=zdu h.2
  refine⟨by simp[h1],fun j x x' hx hx'=>?_⟩
  cases j with
  | zero=>simp at hx hx';subst hx;subst hx';exact h.1
  | succ j=>exact h2 j x x' (by simpa using hx) (by simpa using hx')
 | [],_::_,h=>h.elim
 | _::_,[],h=>h.elim
theorem zfR {s e:St} (ρ:Nat→Option Nat) (hn:s.n=e.n) (hinj:zev ρ (e.mem.map (·.1))=true) (hm:zeI s e ρ e.mem) (he:zeH s e ρ e.env):Wk s e:=by
 intro C a hh
 have hbox:∀ g,zdP s.mem e.mem ρ g (e.mem.at g):=zeh hm
 have hlive:∀ g b,e.mem.at g ≠ .gone→(ρ g).bind C.ι=some b→∃ g0,ρ g=some g0∧C.ι g0=some b∧s.mem.at g0 ≠ .gone∧(s.mem.at g0).mut=(e.mem.at g).mut:=by
  intro g b hg hi
  have hb:=hbox g
  cases hbx:e.mem.at g with
  | gone=>exact absurd hbx hg
  | row ver frz nw sz xs =>
   rw[hbx]at hb
   simp only[zdP]at hb
   cases hρ:ρ g with
   | none=>simp[hρ]at hi
   | some g0 =>
    rw[hρ]at hb hi
    obtain⟨ver0,hs⟩:=hb
    exact⟨g0,rfl,hi,by rw[hs];simp,by rw[hs];rfl⟩
  | cells frz nw cs =>
   rw[hbx]at hb
   obtain⟨g0,cs0,hρ,hs,_⟩:=hb
   rw[hρ]at hi
   exact⟨g0,hρ,hi,by rw[hs];simp,by rw[hs];rfl⟩
  | mapb kt et es =>
   rw[hbx]at hb
   obtain⟨g0,hρ,hs⟩:=hb
   rw[hρ]at hi
   exact⟨g0,hρ,hi,by rw[hs];simp,by rw[hs]⟩
 refine⟨{ C with ι:=fun g=>(ρ g).bind C.ι },rfl,⟨⟨fun g=>?_,?_,?_,hh.mem.sdom,hh.mem.ns⟩,hh.defers,hh.size.trans hn,fun t=>zgG hh.mem (zeg he t) (hh.env t)⟩,?_⟩
 ·have hb:=hbox g
  show BoxOK _ _ ((ρ g).bind C.ι) _
  cases hbx:e.mem.at g with
  | gone=>trivial
  | row ver frz nw sz xs =>
   rw[hbx]at hb
   simp only[zdP]at hb
   cases hρ:ρ g with
   | none =>
    rw[hρ]at hb
    exact hb.1
   | some g0 =>
    rw[hρ]at hb
    obtain⟨ver0,hs⟩:=hb
    have h0:=hh.mem.box g0
    rw[hs]at h0
    simp only[Option.bind_some]
    cases hi:C.ι g0 with
    | none=>rw[hi]at h0;exact h0
    | some b=>rw[hi]at h0;exact h0
  | cells frz nw cs =>
   rw[hbx]at hb
   obtain⟨g0,cs0,hρ,hs,hl⟩:=hb
   have h0:=hh.mem.box g0
   rw[hs]at h0
   obtain⟨b,hi,arr,T,fz,h1,h2,h3,h4,h5⟩:=h0
   obtain⟨hlen,hget⟩:=zdu hl
   refine⟨b,by simp[hρ,hi],arr,T,fz,h1,h2,by omega,fun j d c hd hc=>?_,h5⟩
   have hj:j<cs0.length:=by have:=(List.getElem?_eq_some_iff.1 hd).1;omega
   have hcs:cs0[j]? = some cs0[j]:=List.getElem?_eq_getElem hj
   exact zmq hh.mem (hget j cs0[j] d hcs hd) (h4 j cs0[j] c hcs hc)
  | mapb kt et es =>
   rw[hbx]at hb
   obtain⟨g0,hρ,hs⟩:=hb
   have h0:=hh.mem.box g0
   rw[hs]at h0
   obtain⟨b,hi,h0⟩:=h0
   exact⟨b,by simp[hρ,hi],h0⟩
 ·intro g g' b h1 h2 i1 i2
  obtain⟨g0,q1,q2,q3,_⟩:=hlive g b h1 i1
  obtain⟨g1,r1,r2,r3,_⟩:=hlive g' b h2 i2
  have:=hh.mem.inj g0 g1 b q3 r3 q2 r2
  subst this
  exact zgj hinj (zdz h1) (zdz h2) q1 r1
 ·intro g b h1 h2
  have hg:e.mem.at g ≠ .gone:=by intro h;rw[h]at h1;cases h1
  obtain⟨g0,q1,q2,q3,q4⟩:=hlive g b hg h2
  exact hh.mem.sep g0 b (by rw[q4];exact h1) q2
 ·refine⟨rfl,rfl,rfl,Nat.le_refl _,fun _ _ _=>rfl,fun g b h1 h2=>?_,fun _ h=>h,fun _ h=>h,fun _ h=>.inl h,fun _ h=>.inl h⟩
  have hg:e.mem.at g ≠ .gone:=by intro h;rw[h]at h1;cases h1
  obtain⟨g0,q1,q2,q3,q4⟩:=hlive g b hg h2
  exact .inr ⟨g0,by rw[q4];exact h1,q2⟩
def zbb : Box→Box
 | .cells _ nw cs=>.cells true nw cs
 | .row ver _ nw sz xs=>.row ver true nw sz xs
 | b=>b
theorem zjZ {env:Env} {mem:Mem} {n:Nat} (g:Nat) (hk:∀ kt et es,mem.at g ≠ .mapb kt et es):Wk ⟨env,mem,n⟩ ⟨env,(g,zbb (mem.at g))::mem,n⟩:=by
 intro C a hh
 let X:Nat→Prop:=fun b=>(mem.at g).mut=true∧C.ι g=some b
 let C':Cf := { C with S:=fun b=>C.S b∨X b,N:=fun b=>C.N b∨X b }
 have hD:∀ nw b,C.D nw b→C'.D nw b:=fun nw b h=>by cases nw<;>exact .inl h
 have hd:∀ n x v,RdF C n x v→RdF C' n x v:=fun n x v h=>Rd.mono h (hD n) (fun _ _=>rfl)
 have hat:∀ g',Mem.at ((g,zbb (mem.at g))::mem) g'=if g=g' then zbb (mem.at g)else mem.at g':=fun g'=>zai _ _ _ _ _
 have hs:∀ d v,RdS C mem d v→RdS C' ((g,zbb (mem.at g))::mem) d v:=by
  intro d v h
  cases d with
  | any=>trivial
  | nil=>exact h
  | dat n x=>exact hd n x v h
  | own g' ver lo len =>
   obtain⟨ver',frz,nw,sz,xs,h1,h2,h3,h4⟩:=h
   by_cases hg:g=g'
   ·subst hg
    exact⟨ver',true,nw,sz,xs,by rw[hat,if_pos rfl,h1];rfl,h2,h3,h4⟩
   ·exact⟨ver',frz,nw,sz,xs,by rw[hat,if_neg hg];exact h1,h2,h3,h4⟩
  | ptr g' off =>
   obtain⟨frz,nw,cs,b,h1,h2,h3⟩:=h
   by_cases hg:g=g'
   ·subst hg
    exact⟨true,nw,cs,b,by rw[hat,if_pos rfl,h1];rfl,h2,h3⟩
   ·exact⟨frz,nw,cs,b,by rw[hat,if_neg hg];exact h1,h2,h3⟩
  | rptr g' ver i off =>
   obtain⟨ver',frz,nw,sz,xs,h1,h2,h3,h4⟩:=h
   by_cases hg:g=g'
   ·subst hg
    exact⟨ver',true,nw,sz,xs,by rw[hat,if_pos rfl,h1];rfl,h2,h3,h4⟩
   ·exact⟨ver',frz,nw,sz,xs,by rw[hat,if_neg hg];exact h1,h2,h3,h4⟩
  | mp g' =>
   obtain⟨kt,et,es,b,h1,h2,h3⟩:=h
   have hg:g≠g':=by rintro rfl;exact hk _ _ _ h1
   exact⟨kt,et,es,b,by rw[hat,if_neg hg];exact h1,h2,h3⟩
  | sl g' n =>
   obtain⟨frz,nw,cs,b,cap,h1,h2,h3⟩:=h
   by_cases hg:g=g'
   ·subst hg
    exact⟨true,nw,cs,b,cap,by rw[hat,if_pos rfl,h1];rfl,h2,h3⟩
   ·exact⟨frz,nw,cs,b,cap,by rw[hat,if_neg hg];exact h1,h2,h3⟩
  | _=>exact h.elim
 have hmutne:∀ g',(Mem.at ((g,zbb (mem.at g))::mem) g').mut=true→g≠g'∧(mem.at g').mut=true:=by
  intro g' h
  rw[hat]at h
  by_cases hg:g=g'
  ·rw[if_pos hg]at h
   cases hb:mem.at g with
   | mapb kt et es=>exact absurd hb (hk _ _ _)
   | _=>rw[hb]at h;simp[zbb,Box.mut]at h
  ·rw[if_neg hg]at h
   exact⟨hg,h⟩
 have hgone:∀ g',Mem.at ((g,zbb (mem.at g))::mem) g' ≠ .gone→mem.at g' ≠ .gone:=by
  intro g' h
  rw[hat]at h
  by_cases hg:g=g'
  ·rw[if_pos hg]at h
   subst hg
   intro h0
   rw[h0]at h
   exact h rfl
  ·rwa[if_neg hg]at h
 refine⟨C',rfl,⟨⟨fun g'=>?_,fun g1 g2 b h1 h2=>hh.mem.inj g1 g2 b (hgone g1 h1) (hgone g2 h2),fun g' b h1 h2 h3=>?_,fun b hb=>?_,fun b hb=>hb.imp (hh.mem.ns b) id⟩,hh.defers,hh.size,fun t=>RdD.of_S hs _ _ (hh.env t)⟩,?_⟩
 ·have h0:=BoxOK.upd (hh.mem.box g') (C':=C') (fun _ _=>rfl) hd hs (fun b h=>.inl h) (fun b h=>.inl h)
  show BoxOK C' _ (C.ι g') _
  rw[hat]
  by_cases hg:g=g'
  ·subst hg
   rw[if_pos rfl]
   cases hb:mem.at g with
   | cells frz nw cs =>
    rw[show St.mem ⟨env,mem,n⟩=mem from rfl,hb]at h0
    obtain⟨b,hi,arr,T,fz,h1,h2,h3,h4,h5⟩:=h0
    refine⟨b,hi,arr,T,fz,h1,h2,h3,h4,fun _=>?_⟩
    cases frz with
    | true=>exact h5 rfl
    | false =>
     have hx:X b:=⟨by rw[hb];rfl,hi⟩
     cases nw<;>exact .inr hx
   | row ver frz nw sz xs =>
    rw[show St.mem ⟨env,mem,n⟩=mem from rfl,hb]at h0
    cases hi:C.ι g with
    | none=>rw[hi]at h0;exact h0
    | some b =>
     rw[hi]at h0
     obtain⟨arr,T,fz,h1,h2,h3,h4,h5,h6,h7⟩:=h0
     refine⟨arr,T,fz,h1,h2,h3,h4,h5,h6,fun _=>?_⟩
     cases frz with
     | true=>exact h7 rfl
     | false=>exact .inr ⟨by rw[hb];rfl,hi⟩
   | mapb kt et es=>exact absurd hb (hk _ _ _)
   | gone=>trivial
  ·rw[if_neg hg]
   exact h0
 ·obtain ⟨hg,hmt⟩:=hmutne g' h1
  rcases h3 with h3|⟨h3,h4⟩
  ·exact hh.mem.sep g' b hmt h2 h3
  ·refine hg (hh.mem.inj g g' b ?_ ?_ h4 h2)
   ·intro h0
    have h0:mem.at g = .gone:=h0
    rw[h0]at h3;cases h3
   ·intro h0
    have h0:mem.at g' = .gone:=h0
    rw[h0]at hmt;cases hmt
 ·rcases hb with hb|⟨h1,h2⟩
  ·exact hh.mem.sdom b hb
  ·exact BoxOK.lt hh.mem (g:=g) (by intro h0;have h0:mem.at g = .gone:=h0;rw[h0]at h1;cases h1) h2
 ·refine⟨rfl,rfl,rfl,Nat.le_refl _,fun _ _ _=>rfl,fun g' b h1 h2=>.inr ⟨g',(hmutne g' h1).2,h2⟩,fun _ h=>.inl h,fun _ h=>.inl h,fun b hb=>?_,fun b hb=>?_⟩
  ·rcases hb with hb|hb
   ·exact .inl hb
   ·exact .inr (.inr hb)
  ·rcases hb with hb|⟨h1,h2⟩
   ·exact .inl hb
   ·exact .inr (.inr ⟨g,h1,h2⟩)
theorem zaD {P:Program} {c:Code} {Q:Exit→St→Prop} {env:Env} {mem:Mem} {n:Nat} (g:Nat) (hk:∀ kt et es,mem.at g ≠ .mapb kt et es) (h:DW P c Q ⟨env,(g,zbb (mem.at g))::mem,n⟩):DW P c Q ⟨env,mem,n⟩ :=
 zaZ (zjZ g hk) h
theorem zbY {P:Program} {c:Code} {Q:Exit→St→Prop} {s:St} (t:Nat) {n:Bool} {xs:List (List V)} (h:s.env.at t = .dat n (.slice xs)) (k:xs.length≤9223372036854775807→DW P c Q s):DW P c Q s:=fun C a hh=>by
 refine k ?_ C a hh
 have hr:=hh.env t
 rw[h]at hr
 generalize a.tmps.getD t undef=v at hr
 cases hr with
 | nil=>simp
 | mt=>simp
 | slice _ b off cap sz cell hc hm=>unfold maxLen at hm;omega
end Go.Proofs.YtcdhlofhhcgohaaGreat
