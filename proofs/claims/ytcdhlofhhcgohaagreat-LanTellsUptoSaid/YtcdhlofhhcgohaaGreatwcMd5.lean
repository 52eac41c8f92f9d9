/- MD5: what it is; contracts of its small parts. -/
import Derived.ChangeKeysEq
import Derived.Test.YtcdhlofhhcgohaaGreatwdPlB
import Derived.Test.YtcdhlofhhcgohaaGreatwbMap
import Derived.Test.YtcdhlofhhcgohaaGreatwTy
import Derived.Test.YtcdhlofhhcgohaaGreatwbGo
import Derived.Test.YtcdhlofhhcgohaaGreatwcRgW
namespace Go.Proofs.YtcdhlofhhcgohaaGreat
open Go.RowKit
theorem zi0 (a b:Int×Int):eqL (zbD a) (zbD b)=some (decide (a=b)):=by
 obtain⟨a1,a2⟩:=a
 obtain⟨b1,b2⟩:=b
 by_cases h:(a1,a2)=(b1,b2)
 ·rw[decide_eq_true h]
  injection h with h1 h2
  subst h1 h2
  simp[zbD,eqL,V.eq1]
 ·rw[decide_eq_false h]
  simp only[zbD,eqL,V.eq1]
  simp at h ⊢
  omega
theorem zqR (w:World) (e:Bool) (a b:Int):(Instr.checkKey e 10000 168 (.agg #[.int .i64 a,.int .i64 b])).run Tryz.prog w = .ok () w:=by
 have hu:=Tryz.underlying168
 have hi:=Tryz.underlying3
 have hp:Tryz.prog.plainKey 3=true:=by simp[Program.plainKey,hi]
 have p0:(part 3 #[.int .i64 a,.int .i64 b] 0).run Tryz.prog w = .ok (.int .i64 a) w:=run_part_plain w hp rfl
 have p1:(part 3 #[.int .i64 a,.int .i64 b] 1).run Tryz.prog w = .ok (.int .i64 b) w:=run_part_plain w hp rfl
 have c0:∀ x:Int,(Instr.checkKey e 9999 3 (.int .i64 x)).run Tryz.prog w = .ok () w:=fun x=>by
  rw[show(9999:Nat)=9998+1 from rfl,Instr.checkKey];simp[zao hi]
 rw[show(10000:Nat)=9999+1 from rfl,Instr.checkKey]
 simp only[Sem.run_bind,zao hu,Result.andThen_ok]
 simp[p0,p1,c0]
instance portKey : KeyI Tryz.prog 168 zbD [1,1] where
 q:=inferInstance
 codes:=fun _=>rfl
 eq:=zi0
 chk:=fun p S e w v h=>by
  obtain⟨a,b⟩:=p
  cases h with
  | agg _ vs hl hr =>
   obtain⟨xs⟩:=vs
   match xs,hl,hr with
   | [x,y],_,hr =>
    have h0:=hr 0 (.int .i64 a) x rfl rfl
    have h1:=hr 1 (.int .i64 b) y rfl rfl
    rw[zka h0,zka h1]
    exact zqR w e a b
 flat:=fun p=>.agg _ (fun j d h=>by
  obtain⟨a,b⟩:=p
  have:=List.mem_of_getElem? h
  simp only[zbD,List.mem_cons,List.mem_nil_iff,or_false]at this
  rcases this with rfl|rfl<;>exact .int _ _)
 now:=⟨_,Tryz.underlying168,fun _ _=>rfl⟩
def hadE (had:List (Int×Int)):List ((Int×Int)×Bool):=had.map fun p=>(p,true)
theorem zke {had:List (Int×Int)} {p:Int×Int}:zfv (hadE had) p=if p∈had then some true else none:=by
 induction had with
 | nil=>rfl
 | cons q r ih =>
  unfold zfv hadE at *
  rw[List.map_cons]
  by_cases h:p=q
  ·rw[List.find?_cons_of_pos (by simpa using h),if_pos (by simp[h])];rfl
  ·rw[List.find?_cons_of_neg (by simpa using h),ih]
   simp[h]
section
variable {P : Program} {e : Operand → D} {m : Mem} {dst : Option Tmp} {ty : TypeId} {pos : String} {af : Array Edge} {gd : Option (Nat × Bool)} {x y z : Operand} {t : TypeId}
theorem zdY {g:Nat} {kt' et':TypeId} {n:Bool} {p:Int×Int} {had:List (Int×Int)} {b:Bool} {kt et:TypeId} [hk:KeyI P kt zbD [1,1]] (hu:P.underlying t=some (.map kt et)) {by_:Nat} [hz:TyI P et false 1 by_ [.bool false]]
  (hb:decide (p∈had)=b) (h1:e x = .mp g) (hmg:m.at g = .mapb kt' et' (mapK zbD V.bool (hadE had))) (h2:asV m (e y)=some (n,.agg (zbD p))) :
  SStep P ⟨dst,.lookup t x y false,ty,pos,af,gd⟩ e m (g::refs m (e y)) (.dat true (.bool b)) []:=by
 have:=zoK (P:=P) (b0:=false) (h:=V.bool) (f:=zbD) (dst:=dst) (ty:=ty) (pos:=pos) (af:=af) (gd:=gd) hu rfl h1 hmg h2
 have e2:(zfv (hadE had) p).getD false=b:=by
  rw[zke,←hb]
  by_cases h:p∈had
  ·rw[if_pos h,decide_eq_true h];rfl
  ·rw[if_neg h,decide_eq_false h];rfl
 rw[e2]at this
 exact this
theorem zi1 {g:Nat} {n1 n2:Bool} {p:Int×Int} {had:List (Int×Int)} {kt' et' kt et:TypeId} [hk:KeyI P kt zbD [1,1]] (hu:P.underlying t=some (.map kt et)) (hb:p∉had)
  (h1:e x = .mp g) (hmg:m.at g = .mapb kt' et' (mapK zbD V.bool (hadE had))) (h2:asV m (e y)=some (n1,.agg (zbD p))) (h3:e z = .dat n2 (.bool true)) :
  SStep P ⟨none,.mapUpdate t x y z,ty,pos,af,gd⟩ e m (g::refs m (e y)) .any [(g,.mapb kt' et' (mapK zbD V.bool (hadE (had++[p]))))]:=by
 have:=ztC (P:=P) (h:=V.bool) (f:=zbD) (b:=true) (ty:=ty) (pos:=pos) (af:=af) (gd:=gd) hu h1 hmg h2 h3 (.bool _) (by rw[zke,if_neg hb])
 have e2:hadE had++[(p,true)]=hadE (had++[p]):=by simp[hadE]
 rw[e2]at this
 exact this
end
end Go.Proofs.YtcdhlofhhcgohaaGreat
namespace Go.Proofs.YtcdhlofhhcgohaaGreat
open Go.RowKit
attribute [local irreducible] SStep DW DWin DOps zaG zaE zaJ retQ zaN FnF FnG Wk IntKind.wrap IntKind.andI IntKind.orI IntKind.xorI IntKind.andNotI IntKind.shlI IntKind.shrI Region.wrong Bridge.wrong Link.wrong
set_option maxHeartbeats 4000000 in
theorem zcO (n:Net) (hw:∀ b∈n.bridges,b.region.ways.length≤9223372036854775807):FnF Tryz.prog 45 [n.v] (zb1 n.wrong):=by
 refine zal Tryz.func45 rfl rfl rfl ?_
 simp only[zap]
 have hmb:(n.bridges.map zaj).length=n.bridges.length:=by simp
 have hml:(n.links.map zar).length=n.links.length:=by simp
 repeat' (first|refine qU ?_|refine zat rfl (fun hb=>?_) (fun hb=>?_)|((first|apply dX rfl|apply Da rfl rfl|apply Db rfl rfl qN);(focus ((try intro hg);first|exact qM));constructor)|refine qP ?_)
 ·refine retN (.cellA inferInstance rfl rfl rfl rfl qF .nil) ?_
  simp only[Bool.or_eq_true,decide_eq_true_eq]at hb
  unfold Net.wrong
  rw[if_pos (by omega)]
  rfl
 simp only[Bool.or_eq_false_iff,decide_eq_false_iff_not]at hb
 have h0:¬(12<n.bridges.length∨40<n.links.length):=by omega
 refine zaD 1 (fun _ _ _ h=>by cases h) ?_
 refine zag (fun k:Nat=>⟨[(1,.ptr 1 0),(2,.ptr 2 0),(24,.dat true (.int .i64 (n.bridges.map zaj).length)),(25,.dat true (.int .i64 k))],[(1,.cells true true (n.cells.map (.dat false))),(2,.cells false true [.dat true (.int .i64 0),.dat true (.int .i64 0)])],101⟩)
  (fun k=>k≤n.bridges.length∧zbk [] 0 n.bridges=zbk (n.bridges.take k) k (n.bridges.drop k)) (fun k=>n.bridges.length-k) 0 ⟨Nat.zero_le _,rfl⟩
  (Wk_g some rfl rfl kq) (fun k hR=>?_)
 obtain⟨hk,hbr⟩:=hR
 by_cases hlt:k<n.bridges.length
 ·have hx:n.bridges[(k:Int).toNat]? = some n.bridges[k]:=by simp[hlt]
  have hx':n.bridges[k]? = some n.bridges[k]:=by simp[hlt]
  have hn:n.bridges.drop k=n.bridges[k]::n.bridges.drop (k+1):=List.drop_eq_getElem_cons hlt
  have hwb:=hw n.bridges[k] (List.getElem_mem hlt)
  generalize n.bridges[k]=b at hx hx' hn hwb
  have ht:n.bridges.take (k+1)=n.bridges.take k++[b]:=by rw[List.take_add_one,hx'];rfl
  rw[hn,zbk]at hbr
  by_cases h1:b.wrong=0
  ·rw[if_neg (by simpa using h1)]at hbr
   cases ha:(n.bridges.take k).any (fun o=>decide (o.addr=b.addr))with
   | true =>
    rw[if_pos ha]at hbr
    have hc:=zdX (n.bridges.take k) 87 [.rp n.cells,.rp [.int .i64 k]] (fun o=>decide (o.addr=b.addr)) (fun o=>zmy n k b o hx')
    rw[ha]at hc
    repeat' (first|refine qU ?_|((first|apply dX rfl|apply Da rfl rfl|apply Db rfl rfl qN);(focus ((try intro hg);first|exact zab (zam rfl rfl) (decide_eq_true (by omega:(k:Int)<((n.bridges.map zaj).length:Int)))|exact zaf rfl rfl (by omega) hx|exact zac (zeM b hwb) rfl|exact zab (zdp rfl rfl) (decide_eq_true h1)|exact zoE (n.bridges.take k) rfl (.none _) (.some _ _ _ _ k rfl) (by omega) (by omega) (by simp)|exact zcI 3 rfl rfl (zbv rfl)|exact zac hc rfl|exact qM));constructor)|refine qP ?_)
    refine retN (.cellA inferInstance rfl rfl rfl rfl qF .nil) ?_
    unfold Net.wrong
    rw[if_neg h0,hbr]
    rfl
   | false =>
    rw[if_neg (by rw[ha];simp)]at hbr
    have hc:=zdX (n.bridges.take k) 87 [.rp n.cells,.rp [.int .i64 k]] (fun o=>decide (o.addr=b.addr)) (fun o=>zmy n k b o hx')
    rw[ha]at hc
    repeat' (first|refine qU ?_|((first|apply dX rfl|apply Da rfl rfl|apply Db rfl rfl qN);(focus ((try intro hg);first|exact zab (zam rfl rfl) (decide_eq_true (by omega:(k:Int)<((n.bridges.map zaj).length:Int)))|exact zaf rfl rfl (by omega) hx|exact zac (zeM b hwb) rfl|exact zab (zdp rfl rfl) (decide_eq_true h1)|exact zab (b:=false) (za1 rfl rfl) (by simp[h1])|exact zoE (n.bridges.take k) rfl (.none _) (.some _ _ _ _ k rfl) (by omega) (by omega) (by simp)|exact zcI 3 rfl rfl (zbv rfl)|exact zac hc rfl|exact qM));constructor)|refine qP ?_)
    exact zaa (k+1) ⟨hlt,by rw[hbr,ht]⟩ (by omega) (Wk_g some rfl rfl kq)
  ·rw[if_pos h1]at hbr
   repeat' (first|refine qU ?_|((first|apply dX rfl|apply Da rfl rfl|apply Db rfl rfl qN);(focus ((try intro hg);first|exact zab (zam rfl rfl) (decide_eq_true (by omega:(k:Int)<((n.bridges.map zaj).length:Int)))|exact zaf rfl rfl (by omega) hx|exact zac (zeM b hwb) rfl|exact zab (zdp rfl rfl) (decide_eq_false h1)|exact zab (b:=true) (za1 rfl rfl) (by simp[h1])|exact qM));constructor)|refine qP ?_)
   refine retN (.cellA inferInstance rfl rfl rfl rfl qF .nil) ?_
   unfold Net.wrong
   rw[if_neg h0,hbr]
   rfl
 ·rw [List.drop_eq_nil_of_le (by omega),zbk]at hbr
  have hnw:n.wrong=(za0 n.bridges.length [] 0 n.links).getD (0,0):=by unfold Net.wrong;rw[if_neg h0,hbr]
  repeat' (first|refine qU ?_|(apply dt rfl;case h=>first|exact zmx (kt:=0) (et:=0) zbD V.bool _ rfl)|((first|apply dX rfl|apply Da rfl rfl|apply Db rfl rfl qN);(focus ((try intro hg);first|exact zab (zam rfl rfl) (decide_eq_false (by omega:¬(k:Int)<((n.bridges.map zaj).length:Int)))|exact zmx (kt:=0) (et:=0) zbD V.bool _ rfl|exact qM));constructor)|refine qP ?_)
  refine zag (fun p:Nat×List (Int×Int)=>⟨[(1,.ptr 1 0),(2,.ptr 2 0),(5,.mp 49),(52,.dat true (.int .i64 (n.links.map zar).length)),(53,.dat true (.int .i64 p.1))],[(1,.cells true true (n.cells.map (.dat false))),(2,.cells false true [.dat true (.int .i64 0),.dat true (.int .i64 0)]),(49,.mapb 0 0 (mapK zbD V.bool (hadE p.2)))],101⟩)
   (fun p=>p.1≤n.links.length∧za0 n.bridges.length [] 0 n.links=za0 n.bridges.length p.2 p.1 (n.links.drop p.1)) (fun p=>n.links.length-p.1) (0,[]) ⟨Nat.zero_le _,rfl⟩
   (Wk_g some rfl rfl kq) (fun p hR=>?_)
  obtain⟨i,had⟩:=p
  obtain⟨hi,hlk⟩:=hR
  simp only at hi hlk
  dsimp only
  by_cases hli:i<n.links.length
  ·have hy:n.links[(i:Int).toNat]? = some n.links[i]:=by simp[hli]
   have hm:n.links.drop i=n.links[i]::n.links.drop (i+1):=List.drop_eq_getElem_cons hli
   generalize n.links[i]=l at hy hm
   rw[hm,za0]at hlk
   by_cases h1:l.wrong n.bridges.length=0
   ·rw [if_neg (by simpa using h1)]at hlk
    by_cases h2:(l.a,l.pa)∈had
    ·rw[if_pos h2]at hlk
     repeat' (first|refine zdB ?_|refine zcS ?_|refine qU ?_|((first|apply dX rfl|apply Da rfl rfl|apply Db rfl rfl qN);(focus ((try intro hg);first|exact zab (zam rfl rfl) (decide_eq_true (by omega:(i:Int)<((n.links.map zar).length:Int)))|exact zaf rfl rfl (by omega) hy|exact zac (ze7 n l) rfl|exact zab (b:=false) (za1 rfl rfl) (by simp[h1])|exact zdY (p:=(l.a,l.pa)) Tryz.underlying164 (decide_eq_true h2) rfl rfl rfl|exact S_al rfl|exact S_bx rfl rfl|exact zbg rfl rfl rfl rfl rfl rfl|exact zaF 2001 rfl|exact zaF 2002 rfl|exact zaF 2003 rfl|exact zaF 2004 rfl|exact zaF 2005 rfl|(apply Pu.ok;repeat' (first|rfl|exact .inK (by simp only[InK];omega)|exact .wr|constructor|decide|omega))));constructor)|refine qP ?_)
     refine retN (.cellA inferInstance rfl rfl rfl rfl qF .nil) ?_
     rw[hnw,hlk]
     rfl
    ·rw[if_neg h2]at hlk
     by_cases h3:(l.b,l.pb)∈had++[(l.a,l.pa)]
     ·rw[if_pos h3]at hlk
      repeat' (first|refine zdB ?_|refine zcS ?_|refine qU ?_|((first|apply dX rfl|apply Da rfl rfl|apply Db rfl rfl qN);(focus ((try intro hg);first|exact zab (zam rfl rfl) (decide_eq_true (by omega:(i:Int)<((n.links.map zar).length:Int)))|exact zaf rfl rfl (by omega) hy|exact zac (ze7 n l) rfl|exact zab (b:=false) (za1 rfl rfl) (by simp[h1])|exact zdY (p:=(l.a,l.pa)) Tryz.underlying164 (decide_eq_false h2) rfl rfl rfl|exact zi1 (p:=(l.a,l.pa)) Tryz.underlying164 h2 rfl rfl rfl rfl|exact zdY (p:=(l.b,l.pb)) Tryz.underlying164 (decide_eq_true h3) rfl rfl rfl|exact S_al rfl|exact S_bx rfl rfl|exact zbg rfl rfl rfl rfl rfl rfl|exact zaF 2001 rfl|exact zaF 2002 rfl|exact zaF 2003 rfl|exact zaF 2004 rfl|exact zaF 2005 rfl|(apply Pu.ok;repeat' (first|rfl|exact .inK (by simp only[InK];omega)|exact .wr|constructor|decide|omega))));constructor)|refine qP ?_)
      refine retN (.cellA inferInstance rfl rfl rfl rfl qF .nil) ?_
      rw[hnw,hlk]
      rfl
     ·rw[if_neg h3]at hlk
      repeat' (first|refine zdB ?_|refine zcS ?_|refine qU ?_|((first|apply dX rfl|apply Da rfl rfl|apply Db rfl rfl qN);(focus ((try intro hg);first|exact zab (zam rfl rfl) (decide_eq_true (by omega:(i:Int)<((n.links.map zar).length:Int)))|exact zaf rfl rfl (by omega) hy|exact zac (ze7 n l) rfl|exact zab (b:=false) (za1 rfl rfl) (by simp[h1])|exact zdY (p:=(l.a,l.pa)) Tryz.underlying164 (decide_eq_false h2) rfl rfl rfl|exact zi1 (p:=(l.a,l.pa)) Tryz.underlying164 h2 rfl rfl rfl rfl|exact zdY (p:=(l.b,l.pb)) Tryz.underlying164 (decide_eq_false h3) rfl rfl rfl|exact zi1 (p:=(l.b,l.pb)) Tryz.underlying164 h3 rfl rfl rfl rfl|exact S_al rfl|exact S_bx rfl rfl|exact zbg rfl rfl rfl rfl rfl rfl|exact zaF 2001 rfl|exact zaF 2002 rfl|exact zaF 2003 rfl|exact zaF 2004 rfl|exact zaF 2005 rfl|(apply Pu.ok;repeat' (first|rfl|exact .inK (by simp only[InK];omega)|exact .wr|constructor|decide|omega))));constructor)|refine qP ?_)
      exact zaa (i+1,had++[(l.a,l.pa)]++[(l.b,l.pb)]) ⟨hli,hlk⟩ (by simp only;omega) (Wk_g some rfl rfl kq)
   ·rw[if_pos h1]at hlk
    repeat' (first|refine qU ?_|((first|apply dX rfl|apply Da rfl rfl|apply Db rfl rfl qN);(focus ((try intro hg);first|exact zab (zam rfl rfl) (decide_eq_true (by omega:(i:Int)<((n.links.map zar).length:Int)))|exact zaf rfl rfl (by omega) hy|exact zac (ze7 n l) rfl|exact zab (b:=true) (za1 rfl rfl) (by simp[h1])|exact qM));constructor)|refine qP ?_)
    refine retN (.cellA inferInstance rfl rfl rfl rfl qF .nil) ?_
    rw[hnw,hlk]
    rfl
  ·rw[List.drop_eq_nil_of_le (by omega),za0]at hlk
   repeat' (first|refine qU ?_|((first|apply dX rfl|apply Da rfl rfl|apply Db rfl rfl qN);(focus ((try intro hg);first|exact zab (zam rfl rfl) (decide_eq_false (by omega:¬(i:Int)<((n.links.map zar).length:Int)))|exact qM));constructor)|refine qP ?_)
   refine retN (.cellA inferInstance rfl rfl rfl rfl qF .nil) ?_
   rw[hnw,hlk]
   rfl
end Go.Proofs.YtcdhlofhhcgohaaGreat
namespace Go.Proofs.YtcdhlofhhcgohaaGreat
open Go.RowKit
def zkf : Way:=⟨0,0⟩
def cmpW (w:Way) (v:Int):Int:=IntKind.i64.wrap (w.vid-v)
def bsGo (ws:List Way) (v:Int):Nat→Nat→Nat→Nat
 | 0,i,_=>i
 | f+1,i,j=>if i<j then(if cmpW (ws.getD ((i+j) / 2) zkf) v<0 then bsGo ws v f ((i+j) / 2+1) j else bsGo ws v f i ((i+j) / 2))else i
def bsI (ws:List Way) (v:Int):Nat:=bsGo ws v ws.length 0 ws.length
def bsB (ws:List Way) (v:Int):Bool:=decide (bsI ws v<ws.length) && decide (cmpW (ws.getD (bsI ws v) zkf) v=0)
theorem wrap_i64 (a:Int):IntKind.i64.wrap a=if 9223372036854775808≤a % 18446744073709551616 then a % 18446744073709551616-18446744073709551616 else a % 18446744073709551616:=by
 simp[IntKind.wrap,IntKind.bits,IntKind.signed]
theorem zmz {ws:List Way} {v:Int} {f i j:Nat} (h:¬i<j):bsGo ws v f i j=i:=by
 cases f with
 | zero=>rfl
 | succ f=>rw[bsGo,if_neg h]
theorem zgO {ws:List Way} {v:Int} (h0:∀ w∈ws,¬w.bad) (hs:ws.Pairwise (fun a b=>a.vid<b.vid)) {p:Nat} {w:Way} (hp:ws[p]? = some w) (hv:w.vid=v) :
  ∀ (f i j:Nat),j≤ws.length→j-i≤f→i≤p→p≤j→bsGo ws v f i j=p
 | 0,i,j,hj,hf,h1,h2=>by rw[bsGo];omega
 | f + 1,i,j,hj,hf,h1,h2=>by
  by_cases hlt:i<j
  ·have hh:(i+j) / 2<ws.length:=by omega
   have hg:ws.getD ((i+j) / 2) zkf=ws[(i+j) / 2]:=by rw[List.getD_eq_getElem?_getD,List.getElem?_eq_getElem hh];rfl
   have hplt:p<ws.length:=(List.getElem?_eq_some_iff.1 hp).1
   have hwp:ws[p]=w:=(List.getElem?_eq_some_iff.1 hp).2
   have hmono:=List.pairwise_iff_getElem.1 hs
   have b1:=h0 _ (List.getElem_mem hh)
   have b2:=h0 _ (List.mem_of_getElem? hp)
   unfold Way.bad at b1 b2
   have hc:cmpW (ws[(i+j) / 2]) v=(ws[(i+j) / 2]).vid-v:=by unfold cmpW;rw[wrap_in];simp only[InK];omega
   rw[bsGo,if_pos hlt,hg,hc]
   by_cases hm:(i+j) / 2<p
   ·have:=hmono _ _ hh hplt hm
    rw[hwp]at this
    rw[if_pos (by omega)]
    exact zgO h0 hs hp hv f _ j hj (by omega) (by omega) h2
   ·have:v≤(ws[(i+j) / 2]).vid:=by
     by_cases he:p=(i+j) / 2
     ·subst he;rw[hwp];omega
     ·have:=hmono _ _ hplt hh (by omega)
      rw[hwp]at this;omega
    rw[if_neg (by omega)]
    exact zgO h0 hs hp hv f i _ (by omega) (by omega) h1 (by omega)
  ·rw[zmz hlt];omega
theorem zsK {ws:List Way} {v:Int} (h0:∀ w∈ws,¬w.bad) (hs:ws.Pairwise (fun a b=>a.vid<b.vid)) (hv : -9223372036854775808≤v∧v≤9223372036854775807) :
  (bsB ws v=true→∃ w,ws[bsI ws v]? = some w∧w.tree=za2 ws v)∧(bsB ws v=false→za2 ws v=0):=by
 constructor
 ·intro hb
  unfold bsB at hb
  simp only[Bool.and_eq_true,decide_eq_true_eq]at hb
  have hx:ws[bsI ws v]? = some ws[bsI ws v]:=List.getElem?_eq_getElem hb.1
  refine⟨_,hx,?_⟩
  have hg:ws.getD (bsI ws v) zkf=ws[bsI ws v]:=by rw[List.getD_eq_getElem?_getD,hx];rfl
  have hc:=hb.2
  rw[hg]at hc
  have b1:=h0 _ (List.getElem_mem hb.1)
  unfold Way.bad at b1
  unfold cmpW at hc
  rw[wrap_i64]at hc
  have:(ws[bsI ws v]).vid=v:=by split at hc<;>omega
  exact(zoF hs hx this).symm
 ·intro hb
  refine zlt (fun w hw he=>?_)
  obtain⟨p,hp⟩:=List.getElem?_of_mem hw
  have hplt:p<ws.length:=(List.getElem?_eq_some_iff.1 hp).1
  have hi:bsI ws v=p:=zgO h0 hs hp he _ 0 ws.length (Nat.le_refl _) (by omega) (Nat.zero_le _) (by omega)
  unfold bsB at hb
  rw[hi]at hb
  have hg:ws.getD p zkf=w:=by rw[List.getD_eq_getElem?_getD,hp];rfl
  rw[hg]at hb
  have hz:cmpW w v=0:=by unfold cmpW;rw[he,Int.sub_self];rfl
  simp[hplt,hz]at hb
attribute [local irreducible] SStep DW DWin DOps zaG zaE zaJ retQ zaN FnF FnG Wk IntKind.wrap IntKind.andI IntKind.orI IntKind.xorI IntKind.andNotI IntKind.shlI IntKind.shrI cmpW bsGo
theorem zfw (w:Way) (v:Int):FnF Tryz.prog 109 [.agg (wayV w),.int .i64 v] (.int .i64 (cmpW w v)):=by
 refine zal Tryz.func109 rfl rfl rfl ?_
 simp only[zap]
 have hc:IntKind.i64.wrap (w.vid-v)=cmpW w v:=by with_unfolding_all rfl
 repeat' (first|refine qU ?_|((first|apply dX rfl|apply Da rfl rfl|apply Db rfl rfl qN);(focus ((try intro hg);first|exact zaw (ztw rfl rfl) hc|exact qM));constructor)|refine qP ?_)
 exact ret1 rfl (.inl rfl) rfl
theorem shr1 (a:Nat) (_h:a<9223372036854775808):IntKind.u64.shrI (a:Int) 1=((a / 2:Nat):Int):=by
 have e:(2:Int) ^ (min (1:Int).toNat IntKind.u64.bits)=2:=by decide
 unfold IntKind.shrI
 rw[e,Int.fdiv_eq_ediv_of_nonneg _ (by decide)];omega
set_option maxHeartbeats 1000000 in
theorem ztD (ws:List Way) (v:Int) (hl:ws.length≤1048576):FnF Tryz.prog 108 [.slice (ws.map wayV),.int .i64 v,.fn 109 []] (.tuple [.int .i64 (bsI ws v),.bool (bsB ws v)]):=by
 refine zal Tryz.func108 rfl rfl rfl ?_
 simp only[zap]
 have hml:(ws.map wayV).length=ws.length:=by simp
 repeat' (first|refine qU ?_|((first|apply dX rfl|apply Da rfl rfl|apply Db rfl rfl qN);(focus ((try intro hg);first|exact qM));constructor)|refine qP ?_)
 refine zag (fun p:Nat×Nat=>⟨[(0,.dat false (.slice (ws.map wayV))),(1,.dat false (.int .i64 v)),(2,.dat false (.fn 109 [])),(8,.dat true (.int .i64 (ws.map wayV).length)),(9,.dat true (.int .i64 p.1)),(10,.dat true (.int .i64 p.2))],[],49⟩)
  (fun p=>p.1≤p.2∧p.2≤ws.length∧∃ f,p.2-p.1≤f∧bsGo ws v f p.1 p.2=bsI ws v) (fun p=>p.2-p.1) (0,(ws.map wayV).length) ⟨Nat.zero_le _,by simp,ws.length,by simp,by rw[hml];rfl⟩
  (Wk_g some rfl rfl kq) (fun p hR=>?_)
 obtain⟨i,j⟩:=p
 obtain⟨h1,h2,f,hf,hgo⟩:=hR
 simp only at h1 h2 hf hgo
 dsimp only
 by_cases hlt:i<j
 ·obtain⟨f,rfl⟩:∃ g,f=g+1:=⟨f-1,by omega⟩
  have hh:(i+j) / 2<ws.length:=by omega
  have hx:ws[(((i+j) / 2:Nat):Int).toNat]? = some ws[(i+j) / 2]:=by rw[Int.toNat_natCast];exact List.getElem?_eq_getElem hh
  have hg:ws.getD ((i+j) / 2) zkf=ws[(i+j) / 2]:=by rw[List.getD_eq_getElem?_getD,List.getElem?_eq_getElem hh];rfl
  have hs:IntKind.u64.shrI ((i:Int)+(j:Int)) 1=(((i+j) / 2:Nat):Int):=by rw[←shr1 (i+j) (by omega)];rfl
  have hgo':(if cmpW (ws[(i+j) / 2]) v<0 then bsGo ws v f ((i+j) / 2+1) j else bsGo ws v f i ((i+j) / 2))=bsI ws v:=by
   rw[←hgo,←hg]
   with_unfolding_all (rw[bsGo,if_pos hlt])
  generalize ws[(i+j) / 2]=w at hx hgo'
  have hhb:(i+j) / 2<j∧i≤(i+j) / 2:=by omega
  generalize (i+j) / 2=h at hx hs hgo' hhb hh
  by_cases hc:cmpW w v<0
  ·rw[if_pos hc]at hgo'
   repeat' (first|refine qU ?_|((first|apply dX rfl|apply Da rfl rfl|apply Db rfl rfl qN);(focus ((try intro hg);first|exact zab (zam rfl rfl) (decide_eq_true (by omega:(i:Int)<(j:Int)))|exact zaw (zeD rfl rfl (by decide)) hs|exact zaf rfl rfl (by omega) hx|exact zaq rfl rfl (zfw w v)|exact zab (zam rfl rfl) (decide_eq_true hc)|exact qM));constructor)|refine qP ?_)
   exact zaa (h+1,j) ⟨by simp only;omega,h2,f,by simp only;omega,hgo'⟩ (by simp only;omega) (Wk_g some rfl rfl kq)
  ·rw[if_neg hc]at hgo'
   repeat' (first|refine qU ?_|((first|apply dX rfl|apply Da rfl rfl|apply Db rfl rfl qN);(focus ((try intro hg);first|exact zab (zam rfl rfl) (decide_eq_true (by omega:(i:Int)<(j:Int)))|exact zaw (zeD rfl rfl (by decide)) hs|exact zaf rfl rfl (by omega) hx|exact zaq rfl rfl (zfw w v)|exact zab (zam rfl rfl) (decide_eq_false hc)|exact qM));constructor)|refine qP ?_)
   exact zaa (i,h) ⟨by simp only;omega,by simp only;omega,f,by simp only;omega,hgo'⟩ (by simp only;omega) (Wk_g some rfl rfl kq)
 ·rw[zmz hlt]at hgo
  have hB:bsB ws v=(decide (i<ws.length) && decide (cmpW (ws.getD i zkf) v=0)):=by unfold bsB;rw[←hgo]
  rw[hB,←hgo]
  by_cases hin:i<ws.length
  ·have hx:ws[(i:Int).toNat]? = some ws[i]:=by simp[hin]
   have hg:ws.getD i zkf=ws[i]:=by rw[List.getD_eq_getElem?_getD,List.getElem?_eq_getElem hin];rfl
   rw[hg,decide_eq_true hin,Bool.true_and]
   generalize ws[i]=w at hx
   repeat' (first|refine qU ?_|((first|apply dX rfl|apply Da rfl rfl|apply Db rfl rfl qN);(focus ((try intro hg);first|exact zab (zam rfl rfl) (decide_eq_false (by omega:¬(i:Int)<(j:Int)))|exact zab (zam rfl rfl) (decide_eq_true (by omega:(i:Int)<((ws.map wayV).length:Int)))|exact zaf rfl rfl (by omega) hx|exact zaq rfl rfl (zfw w v)|exact qM));constructor)|refine qP ?_)
   exact retN (.tmp rfl (.inr (.int _ _)) (.tmp rfl (.inl rfl) .nil)) rfl
  ·rw[decide_eq_false hin,Bool.false_and]
   repeat' (first|refine qU ?_|((first|apply dX rfl|apply Da rfl rfl|apply Db rfl rfl qN);(focus ((try intro hg);first|exact zab (zam rfl rfl) (decide_eq_false (by omega:¬(i:Int)<(j:Int)))|exact zab (zam rfl rfl) (decide_eq_false (by omega:¬(i:Int)<((ws.map wayV).length:Int)))|exact qM));constructor)|refine qP ?_)
   exact retN (.tmp rfl (.inr (.int _ _)) (.tmp rfl (.inl rfl) .nil)) rfl
theorem zgP (r:Region) (v:Int) (hr:r.right) (hv : -9223372036854775808≤v∧v≤9223372036854775807):FnF Tryz.prog 63 [r.v,.int .i64 v] (.int .i64 (za2 r.ways v)):=by
 refine zal Tryz.func63 rfl rfl rfl ?_
 simp only[zap]
 obtain⟨t1,t2⟩:=zsK hr.w hr.s hv
 have hb:=ztD r.ways v (by have:=hr.l;omega)
 cases hB:bsB r.ways v with
 | true =>
  obtain⟨w,hw,ht⟩:=t1 hB
  rw[hB]at hb
  have hx:r.ways[((bsI r.ways v:Nat):Int).toNat]? = some w:=by rw[Int.toNat_natCast];exact hw
  generalize bsI r.ways v=i at hb hx
  repeat' (first|refine qU ?_|((first|apply dX rfl|apply Da rfl rfl|apply Db rfl rfl qN);(focus ((try intro hg);first|exact zac hb rfl|exact zaf rfl rfl (by omega) hx|exact qM));constructor)|refine qP ?_)
  refine ret1 rfl (.inr (.int _ _)) ?_
  rw[ht]
 | false =>
  rw[hB]at hb
  rw[t2 hB]
  repeat' (first|refine qU ?_|((first|apply dX rfl|apply Da rfl rfl|apply Db rfl rfl qN);(focus ((try intro hg);first|exact zac hb rfl|exact qM));constructor)|refine qP ?_)
  exact ret1 rfl (.inl rfl) rfl
theorem zkg (r:Region) (v:Int) (hl:r.ways.length≤9223372036854775807):FnF Tryz.prog 70 [r.v,.int .i64 v] (.int .i64 (za2 r.ways v)):=by
 refine zal Tryz.func70 rfl rfl rfl ?_
 simp only[zap]
 have hml:(r.ways.map wayV).length=r.ways.length:=by simp
 repeat' (first|refine qU ?_|((first|apply dX rfl|apply Da rfl rfl|apply Db rfl rfl qN);(focus ((try intro hg);first|exact qM));constructor)|refine qP ?_)
 refine zag (fun k:Nat=>⟨[(1,.dat false (.int .i64 v)),(8,.dat false (.slice (r.ways.map wayV))),(9,.dat true (.int .i64 (r.ways.map wayV).length)),(10,.dat true (.int .i64 k))],[],21⟩)
  (fun k=>k≤r.ways.length∧za2 r.ways v=za2 (r.ways.drop k) v) (fun k=>r.ways.length-k) 0 ⟨Nat.zero_le _,rfl⟩
  (Wk_g some rfl rfl kq) (fun k hR=>?_)
 obtain⟨hk,ht⟩:=hR
 rw[ht]
 by_cases hlt:k<r.ways.length
 ·have hx:r.ways[(k:Int).toNat]? = some r.ways[k]:=by simp[hlt]
  have hn:r.ways.drop k=r.ways[k]::r.ways.drop (k+1):=List.drop_eq_getElem_cons hlt
  generalize r.ways[k]=w at hx hn
  rw[hn,za2]at ht ⊢
  by_cases hw:w.vid=v
  ·rw[if_pos hw]
   repeat' (first|refine qU ?_|((first|apply dX rfl|apply Da rfl rfl|apply Db rfl rfl qN);(focus ((try intro hg);first|exact zab (zam rfl rfl) (decide_eq_true (by omega:(k:Int)<((r.ways.map wayV).length:Int)))|exact zaf rfl rfl (by omega) hx|exact zab (zdp rfl rfl) (decide_eq_true hw)|exact qM));constructor)|refine qP ?_)
   exact ret1 rfl (.inr (.int _ _)) rfl
  ·rw[if_neg hw]at ht ⊢
   repeat' (first|refine qU ?_|((first|apply dX rfl|apply Da rfl rfl|apply Db rfl rfl qN);(focus ((try intro hg);first|exact zab (zam rfl rfl) (decide_eq_true (by omega:(k:Int)<((r.ways.map wayV).length:Int)))|exact zaf rfl rfl (by omega) hx|exact zab (zdp rfl rfl) (decide_eq_false hw)|exact qM));constructor)|refine qP ?_)
   rw[←ht]
   exact zaa (k+1) ⟨hlt,ht⟩ (by omega) (Wk_g some rfl rfl kq)
 ·rw[List.drop_eq_nil_of_le (by omega),za2]
  repeat' (first|refine qU ?_|((first|apply dX rfl|apply Da rfl rfl|apply Db rfl rfl qN);(focus ((try intro hg);first|exact zab (zam rfl rfl) (decide_eq_false (by omega:¬(k:Int)<((r.ways.map wayV).length:Int)))|exact qM));constructor)|refine qP ?_)
  exact ret1 rfl (.inl rfl) rfl
end Go.Proofs.YtcdhlofhhcgohaaGreat
namespace Go.Proofs.YtcdhlofhhcgohaaGreat
open Go.RowKit
def zay (n:Int) (k:Nat):UInt8:=UInt8.ofNat ((n / 2 ^ (8*k)).toNat % 256)
theorem ze8 {n:Int} (h0:0≤n) (k:Nat):((zay n k).toNat:Int)=(n / 2 ^ (8*k)) % 256:=by
 unfold zay
 have h1:0≤n / 2 ^ (8*k):=Int.ediv_nonneg h0 (Int.pow_nonneg (by decide))
 simp
 omega
theorem wrap_u8 (a:Int):IntKind.u8.wrap a=a % 256:=by
 simp[IntKind.wrap,IntKind.bits,IntKind.signed]
theorem wrap_u64 (a:Int):IntKind.u64.wrap a=a % 18446744073709551616:=by
 simp[IntKind.wrap,IntKind.bits,IntKind.signed]
theorem ze9 {a:Int} (h:0≤a) (h2:a<18446744073709551616):(BitVec.ofInt 64 a).toNat=a.toNat:=by
 simp[BitVec.toNat_ofInt];omega
theorem zi2 (n:Int) (_:0≤n) (j:Nat):zay (n / 256 ^ j) 0=zay n j:=by
 unfold zay
 have:(256:Int) ^ j=2 ^ (8*j):=by rw[Int.pow_mul];rfl
 rw[this]
 simp
attribute [local irreducible] SStep DW DOps zaG zaE zaJ retQ zaN FnF FnG Wk IntKind.wrap IntKind.andI IntKind.orI IntKind.xorI IntKind.andNotI IntKind.shlI IntKind.shrI
theorem zeN (l:List UInt8) (hl:l.length≤1099511627776):FnG Tryz.prog 80 [.dat false (.slice (l.map zak))] [] (.own 1000 0 0 l.length) [(1000,.row 0 false true 1 (l.map zak))]:=by
 refine zbj Tryz.func80 rfl rfl rfl ?_
 simp only[envD]
 repeat' (first|refine zct rfl rfl rfl (fun h=>?_) ?_|(apply dt rfl;case h=>exact zb8 (els := []) _ rfl rfl rfl rfl rfl)|refine qU ?_|((first|apply dX rfl|apply Da rfl rfl|apply Db rfl rfl qN);(focus ((try intro hg);first|exact zan (f:=zak) (us := []) (bs:=l) rfl rfl (.dat _ _) rfl rfl (.inr ⟨rfl,inferInstance⟩) rfl (by simp;omega)|exact qM));constructor)|refine qP ?_)
 ·have:l=[]:=by simpa using h
  subst this
  exact gOwn (Wk_g (fun _=>none) rfl rfl kq)
 ·exact gOwn (Wk_g (fun g=>if g=1000 then some 5 else none) rfl rfl kq)
end Go.Proofs.YtcdhlofhhcgohaaGreat
namespace Go.Proofs.YtcdhlofhhcgohaaGreat
open Go.RowKit
def u32V (n:Int):List V := [.int .u32 n]
def intV (n:Int):List V := [.int .i64 n]
instance : CellsI u32V 1:=⟨fun _=>rfl,fun _ d h=>by simp[u32V]at h;subst h;rfl⟩
instance : FlatI u32V:=⟨fun _ d h=>by simp[u32V]at h;subst h;exact .int _ _⟩
instance : CellsI intV 1:=⟨fun _=>rfl,fun _ d h=>by simp[intV]at h;subst h;rfl⟩
def u32C (n:Int):V := .int .u32 n
def u32D (n:Int):D := .dat true (.int .u32 n)
def intD (n:Int):D := .dat true (.int .i64 n)
instance : DatI u32D:=⟨fun _=>⟨_,_,rfl⟩⟩
instance : DatI intD:=⟨fun _=>⟨_,_,rfl⟩⟩
def md5T : List Int := [3614090360,3905402710,606105819,3250441966,4118548399,1200080426,2821735955,4249261313,
 1770035416,2336552879,4294925233,2304563134,1804603682,4254626195,2792965006,1236535329,
 4129170786,3225465664,643717713,3921069994,3593408605,38016083,3634488961,3889429448,
 568446438,3275163606,4107603335,1163531501,2850285829,4243563512,1735328473,2368359562,
 4294588738,2272392833,1839030562,4259657740,2763975236,1272893353,4139469664,3200236656,
 681279174,3936430074,3572445317,76029189,3654602809,3873151461,530742520,3299628645,
 4096336452,1126891415,2878612391,4237533241,1700485571,2399980690,4293915773,2240044497,
 1873313359,4264355552,2734768916,1309151649,4149444226,3174756917,718787259,3951481745]
def md5R : List Int := [7,12,17,22,5,9,14,20,4,11,16,23,6,10,15,21]
def rot (x n:Int):Int:=IntKind.u32.orI (IntKind.u32.shlI x n) (IntKind.u32.shrI x (32-n))
def n32 (a:Int):Int:=IntKind.u32.xorI 4294967295 a
def md5F (r:Nat) (x y z:Int):Int:=match r with
 | 0=>IntKind.u32.orI (IntKind.u32.andI x y) (IntKind.u32.andI (n32 x) z)
 | 1=>IntKind.u32.orI (IntKind.u32.andI x z) (IntKind.u32.andNotI y z)
 | 2=>IntKind.u32.xorI (IntKind.u32.xorI x y) z
 | _=>IntKind.u32.xorI y (IntKind.u32.orI x (n32 z))
def md5G (r k:Nat):Nat:=match r with
 | 0=>k % 16
 | 1=>(5*k+1) % 16
 | 2=>(3*k+5) % 16
 | _=>(7*k) % 16
theorem zfx (r k:Nat):md5G r k<16:=by unfold md5G;split<;>omega
def zi3 (l:List UInt8) (p:Nat):Nat:=(l.getD p 0).toNat
def zca (l:List UInt8) (p:Nat):Int:=zi3 l p+zi3 l (p+1)*256+zi3 l (p+2)*65536+zi3 l (p+3)*16777216
abbrev St4 := Int×Int×Int×Int
def zdZ (l:List UInt8) (p:Nat) (i:Nat) (v:St4):St4 :=
 (v.2.2.2,IntKind.u32.wrap (v.2.1+rot (IntKind.u32.wrap (IntKind.u32.wrap (IntKind.u32.wrap (v.1+md5F (i / 16) v.2.1 v.2.2.1 v.2.2.2)+md5T.getD i 0)+zca l (p+4*md5G (i / 16) i))) (md5R.getD (4*(i / 16)+i % 4) 0)),v.2.1,v.2.2.1)
def zby (l:List UInt8) (p:Nat):Nat→St4→St4
 | 0,v=>v
 | i+1,v=>zdZ l p i (zby l p i v)
def add4 (v w:St4):St4:=(IntKind.u32.wrap (v.1+w.1),IntKind.u32.wrap (v.2.1+w.2.1),IntKind.u32.wrap (v.2.2.1+w.2.2.1),IntKind.u32.wrap (v.2.2.2+w.2.2.2))
def zbG (l:List UInt8) (p:Nat) (v:St4):St4:=add4 v (zby l p 64 v)
def zbs (l:List UInt8):Nat→St4→St4
 | 0,v=>v
 | k+1,v=>zbG l (64*k) (zbs l k v)
def leBytes (n:Int):Nat→List UInt8
 | 0=>[]
 | s+1=>leBytes n s++[zay n s]
def zdb (b:List UInt8):List UInt8:=b++[128]++List.replicate ((119-b.length % 64) % 64) 0++leBytes (8*b.length) 8
def zi4 : St4:=(1732584193,4023233417,2562383102,271733878)
def zmA (v:St4):List UInt8:=leBytes v.1 4++leBytes v.2.1 4++leBytes v.2.2.1 4++leBytes v.2.2.2 4
def md5S (b:List UInt8):List UInt8:=zmA (zbs (zdb b) ((zdb b).length / 64) zi4)
theorem zcU (n:Int):∀ s,(leBytes n s).length=s
 | 0=>rfl
 | s+1=>by simp[leBytes,zcU n s]
theorem zdC (b:List UInt8):(md5S b).length=16:=by simp[md5S,zmA,zcU]
attribute [local irreducible] SStep DW DWin DOps zaG zaE zaJ retQ zaN FnF FnG Wk IntKind.wrap IntKind.andI IntKind.orI IntKind.xorI IntKind.andNotI IntKind.shlI IntKind.shrI
theorem zoL (x n:Int) (h0:0≤n) (h1:n≤32):FnF Tryz.prog 185 [.int .u32 x,.int .i64 n] (.int .u32 (rot x n)):=by
 refine zal Tryz.func185 rfl rfl rfl ?_
 simp only[zap]
 repeat' (first|refine qU ?_|((first|apply dX rfl|apply Da rfl rfl|apply Db rfl rfl qN);(focus ((try intro hg);first|exact ziH rfl rfl (by omega)|exact zeD rfl rfl (by omega)|exact qM));constructor)|refine qP ?_)
 exact ret1 rfl (.inl rfl) rfl
theorem ztE : ∀ n:Nat,n<32→IntKind.u64.andI (n:Int) 31=n:=by decide +kernel
theorem zqS (x:Int) (n:Nat) (h:n<32):FnF Tryz.prog 188 [.int .u32 x,.int .i64 (n:Int)] (.int .u32 (rot x n)):=by
 refine zal Tryz.func188 rfl rfl rfl ?_
 simp only[zap]
 have ha:=ztE n h
 repeat' (first|refine qU ?_|((first|apply dX rfl|apply Da rfl rfl|apply Db rfl rfl qN);(focus ((try intro hg);first|exact zaw (zsl rfl rfl) ha|exact ziH rfl rfl (by omega)|exact zeD rfl rfl (by omega)|exact qM));constructor)|refine qP ?_)
 exact ret1 rfl (.inl rfl) rfl
theorem zfa (x n:Int) (h0:0≤n) (h1:n<32):FnF Tryz.prog 188 [.int .u32 x,.int .i64 n] (.int .u32 (rot x n)):=by
 obtain⟨k,rfl⟩:=Int.eq_ofNat_of_zero_le h0
 exact zqS x k (by omega)
theorem zoM : FnF Tryz.prog 187 [] (.agg (md5R.map fun n=>.int .i64 n)):=by
 refine zal Tryz.func187 rfl rfl rfl ?_
 simp only[zap]
 repeat' (first|refine qU ?_|((first|apply dX rfl|apply Da rfl rfl|apply Db rfl rfl qN);(focus ((try intro hg);first|exact qM));constructor)|refine qP ?_)
 exact retN (.cellA inferInstance rfl rfl rfl rfl (.inl rfl) .nil) rfl
set_option maxRecDepth 10000 in
theorem zoN : FnF Tryz.prog 186 [] (.agg (md5T.map fun n=>.int .u32 n)):=by
 refine zal Tryz.func186 rfl rfl rfl ?_
 simp only[zap]
 repeat' (first|refine qU ?_|((first|apply dX rfl|apply Da rfl rfl|apply Db rfl rfl qN);(focus ((try intro hg);first|exact qM));constructor)|refine qP ?_)
 exact retN (.cellA inferInstance rfl rfl rfl rfl (.inl rfl) .nil) rfl
set_option maxRecDepth 10000 in
theorem znf : FnF Tryz.prog 183 [] (.slice (md5T.map u32V)):=by
 refine zal Tryz.func183 rfl rfl rfl ?_
 simp only[zap]
 repeat' (first|refine qU ?_|((first|apply dX rfl|apply Da rfl rfl|apply Db rfl rfl qN);(focus ((try intro hg);first|exact qM));constructor)|refine qP ?_)
 exact ret1 rfl (.inl rfl) rfl
end Go.Proofs.YtcdhlofhhcgohaaGreat
