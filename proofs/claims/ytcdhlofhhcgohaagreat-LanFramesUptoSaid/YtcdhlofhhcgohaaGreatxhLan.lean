/- The shapes of books of many bridges, and of frames. -/
import Derived.Test.YtcdhlofhhcgohaaGreatxbFz
import Derived.Test.YtcdhlofhhcgohaaGreatxhTlk
import Derived.Test.YtcdhlofhhcgohaaGreatxbKep
namespace Go.Proofs.YtcdhlofhhcgohaaGreat
open Go.RowKit
theorem byte_of_sh {vs:List V} (h:ListSh vs [.int .u8]):∃ x:UInt8,vs=byteV x∧True:=by
 obtain⟨n,rfl,hw⟩:=par_int h
 have h2:0≤n∧n≤255:=by simpa[Lit.wf,IntKind.min,IntKind.max,IntKind.signed,IntKind.bits]using hw
 refine⟨UInt8.ofNat n.toNat,?_,trivial⟩
 unfold byteV
 congr 2
 simp
 omega
theorem sh_bytes {a:V} (h:HasSh a (.slice [.int .u8])):∃ l:List UInt8,a = .slice (l.map byteV)∧l.length≤maxLen:=by
 obtain⟨l,h1,_,h3⟩:=sh_slice (fun _=>byte_of_sh) h
 exact⟨l,h1,h3⟩
theorem sh_bool {a:V} (h:HasSh a .bool):∃ b,a = .bool b:=by cases h with|bool b=>exact⟨b,rfl⟩
end Go.Proofs.YtcdhlofhhcgohaaGreat
namespace Go.Proofs.YtcdhlofhhcgohaaGreat
open Go.RowKit
theorem ent_of_shL {vs:List V} (h:ListSh vs [.int .i64,.int .u64,.int .i64,.int .i64]):∃ e:Ent,vs=entV e∧True:=by
 obtain⟨hl,h⟩:=h
 match vs,hl with
 | [a,b,c,d],_ =>
  obtain⟨x0,rfl,_⟩:=sh_int (h 0 _ _ rfl rfl)
  obtain⟨x1,rfl,_⟩:=sh_int (h 1 _ _ rfl rfl)
  obtain⟨x2,rfl,_⟩:=sh_int (h 2 _ _ rfl rfl)
  obtain⟨x3,rfl,_⟩:=sh_int (h 3 _ _ rfl rfl)
  exact⟨⟨x0,x1,x2,x3⟩,rfl,trivial⟩
theorem bulk_mem : ∀ {xs:List (List V)} {e:List V},e∈xs→bulkL e≤bulkLL xs
 | x::r,e,h=>by
  simp only[bulkLL]
  rcases List.mem_cons.1 h with rfl|h
  ·omega
  ·have:=bulk_mem h;omega
theorem par_books {vs:List V} (h:ListSh vs [.slice [.slice [.int .i64,.int .u64,.int .i64,.int .i64]]]) (hb:bulkL vs≤1048576):∃ bs:List (List Ent),vs=[.slice (bs.map bookR)]∧bs.length≤1048576∧∀ l∈bs,l.length≤1048576:=by
 obtain⟨bs,rfl,_⟩:=par_slice (f:=bookR) (ok:=fun _=>True) (fun e he=>by
  obtain⟨l,rfl,_⟩:=par_slice (fun e=>ent_of_shL) he
  exact⟨l,rfl,trivial⟩) h
 have h1:=bulk_len (bs.map bookR) (by simp[bookR])
 simp only[bulkL,V.bulk,List.length_map]at hb h1
 refine⟨bs,rfl,by omega,fun l hl=>?_⟩
 have h2:=bulk_mem (List.mem_map.2 ⟨l,hl,rfl⟩:bookR l∈bs.map bookR)
 have h3:=bulk_len (l.map entV) (by simp[entV])
 simp only[bookR,bulkL,V.bulk,List.length_map]at h2 h3
 omega
theorem frame_of_shL {vs:List V} (h:ListSh vs [.int .u64,.int .u64,.bool,.int .i64,.bool,.int .i64,.int .i64,.slice [.int .u8]]):∃ f:Frame,vs=f.cells∧f.ok:=by
 obtain⟨hl,h⟩:=h
 match vs,hl with
 | [a,b,c,d,e,g,i,j],_ =>
  obtain⟨x0,rfl,h0⟩:=sh_int (h 0 _ _ rfl rfl)
  obtain⟨x1,rfl,h1⟩:=sh_int (h 1 _ _ rfl rfl)
  obtain⟨x2,rfl⟩:=sh_bool (h 2 _ _ rfl rfl)
  obtain⟨x3,rfl,h3⟩:=sh_int (h 3 _ _ rfl rfl)
  obtain⟨x4,rfl⟩:=sh_bool (h 4 _ _ rfl rfl)
  obtain⟨x5,rfl,h5⟩:=sh_int (h 5 _ _ rfl rfl)
  obtain⟨x6,rfl,h6⟩:=sh_int (h 6 _ _ rfl rfl)
  obtain⟨x7,rfl,h7⟩:=sh_bytes (h 7 _ _ rfl rfl)
  have k0:=wf_u64 h0
  have k1:=wf_u64 h1
  have k3:=wf_i64 h3
  have k5:=wf_i64 h5
  have k6:=wf_i64 h6
  exact⟨⟨x0,x1,x2,x3,x4,x5,x6,x7⟩,rfl,⟨k0.1,k0.2,k1.1,k1.2,k3.1,k3.2,k5.1,k5.2,k6.1,k6.2,by simp only[maxLen]at h7;exact h7⟩⟩
end Go.Proofs.YtcdhlofhhcgohaaGreat
