/- The shapes of vectors and offers. -/
import Derived.Test.YtcdeielnkmjfhaahSh
import Derived.Test.YtcdeielnkmjfhaaeChoose
namespace Go.Proofs.Ytcdeielnkmjfhaa
open Go.RowKit

def shVec : List Sh := [.int .u64, .int .i64, .int .u64, .int .i64]
def Vec.ok (v : Vec) : Prop := U64 v.root ∧ I64 v.cost ∧ U64 v.bridge ∧ I64 v.port
theorem vec_of_sh {vs : List V} (h : ListSh vs [.int .u64, .int .i64, .int .u64, .int .i64]) : ∃ v : Vec, vs = v.cells ∧ v.ok := by
  obtain ⟨hl, h⟩ := h
  match vs, hl with
  | [a, b, c, d], _ =>
    obtain ⟨x0, rfl, h0⟩ := sh_int (h 0 _ _ rfl rfl)
    obtain ⟨x1, rfl, h1⟩ := sh_int (h 1 _ _ rfl rfl)
    obtain ⟨x2, rfl, h2⟩ := sh_int (h 2 _ _ rfl rfl)
    obtain ⟨x3, rfl, h3⟩ := sh_int (h 3 _ _ rfl rfl)
    exact ⟨⟨x0, x1, x2, x3⟩, rfl, wf_u64 h0, wf_i64 h1, wf_u64 h2, wf_i64 h3⟩
def Offer.ok (o : Offer) : Prop := I64 o.port ∧ I64 o.cost ∧ I64 o.age ∧ o.vec.ok
theorem offer_of_sh {vs : List V} (h : ListSh vs [.int .i64, .int .i64, .int .i64, .int .u64, .int .i64, .int .u64, .int .i64]) : ∃ o : Offer, vs = o.cells ∧ o.ok := by
  obtain ⟨hl, h⟩ := h
  match vs, hl with
  | [a, b, c, d, e, f, g], _ =>
    obtain ⟨x0, rfl, h0⟩ := sh_int (h 0 _ _ rfl rfl)
    obtain ⟨x1, rfl, h1⟩ := sh_int (h 1 _ _ rfl rfl)
    obtain ⟨x2, rfl, h2⟩ := sh_int (h 2 _ _ rfl rfl)
    obtain ⟨x3, rfl, h3⟩ := sh_int (h 3 _ _ rfl rfl)
    obtain ⟨x4, rfl, h4⟩ := sh_int (h 4 _ _ rfl rfl)
    obtain ⟨x5, rfl, h5⟩ := sh_int (h 5 _ _ rfl rfl)
    obtain ⟨x6, rfl, h6⟩ := sh_int (h 6 _ _ rfl rfl)
    exact ⟨⟨x0, x1, x2, ⟨x3, x4, x5, x6⟩⟩, rfl, wf_i64 h0, wf_i64 h1, wf_i64 h2, wf_u64 h3, wf_i64 h4, wf_u64 h5, wf_i64 h6⟩
end Go.Proofs.Ytcdeielnkmjfhaa
