/- Comparing two ends, nets, contacts, mappings. -/
import Derived.Test.YtafmomocmodbhaaSlMC
namespace Go.Proofs.Ytafmomocmodbhaa
open Go.RowKit

theorem EndD.eq_iff (x q : EndD) : decide (x = q) = (decide (x.addr = q.addr) && (decide (x.port = q.port))) := by
  obtain ⟨a, b⟩ := x; obtain ⟨d, e⟩ := q
  rw [Bool.eq_iff_iff]
  simp
theorem run_eql_E (x q : EndD) (W : World) : (Go.binOp .eql 42 (.agg #[.int .i64 x.addr, .int .i64 x.port]) (.agg #[.int .i64 q.addr, .int .i64 q.port])).run Try.prog W = .ok (.bool (decide (x = q))) W := by
  rw [EndD.eq_iff]
  by_cases h0 : x.addr = q.addr
  · by_cases h1 : x.port = q.port
    · go_simp
    · go_simp
  · go_simp
theorem run_neq_E (x q : EndD) (W : World) : (Go.binOp .neq 42 (.agg #[.int .i64 x.addr, .int .i64 x.port]) (.agg #[.int .i64 q.addr, .int .i64 q.port])).run Try.prog W = .ok (.bool (!decide (x = q))) W := by
  rw [EndD.eq_iff]
  by_cases h0 : x.addr = q.addr
  · by_cases h1 : x.port = q.port
    · go_simp
    · go_simp
  · go_simp
theorem NetD.eq_iff (x q : NetD) : decide (x = q) = (decide (x.base = q.base) && (decide (x.bits = q.bits))) := by
  obtain ⟨a, b⟩ := x; obtain ⟨d, e⟩ := q
  rw [Bool.eq_iff_iff]
  simp
theorem run_eql_N (x q : NetD) (W : World) : (Go.binOp .eql 36 (.agg #[.int .i64 x.base, .int .i64 x.bits]) (.agg #[.int .i64 q.base, .int .i64 q.bits])).run Try.prog W = .ok (.bool (decide (x = q))) W := by
  rw [NetD.eq_iff]
  by_cases h0 : x.base = q.base
  · by_cases h1 : x.bits = q.bits
    · go_simp
    · go_simp
  · go_simp
theorem run_neq_N (x q : NetD) (W : World) : (Go.binOp .neq 36 (.agg #[.int .i64 x.base, .int .i64 x.bits]) (.agg #[.int .i64 q.base, .int .i64 q.bits])).run Try.prog W = .ok (.bool (!decide (x = q))) W := by
  rw [NetD.eq_iff]
  by_cases h0 : x.base = q.base
  · by_cases h1 : x.bits = q.bits
    · go_simp
    · go_simp
  · go_simp
theorem ConD.eq_iff (x q : ConD) : decide (x = q) = (decide (x.port = q.port) && (decide (x.to_.addr = q.to_.addr) && (decide (x.to_.port = q.to_.port)))) := by
  obtain ⟨a, ⟨b, c⟩⟩ := x; obtain ⟨d, ⟨e, f⟩⟩ := q
  rw [Bool.eq_iff_iff]
  simp
theorem run_eql_C (x q : ConD) (W : World) : (Go.binOp .eql 115 (.agg #[.int .i64 x.port, .int .i64 x.to_.addr, .int .i64 x.to_.port]) (.agg #[.int .i64 q.port, .int .i64 q.to_.addr, .int .i64 q.to_.port])).run Try.prog W = .ok (.bool (decide (x = q))) W := by
  rw [ConD.eq_iff]
  by_cases h0 : x.port = q.port
  · by_cases h1 : x.to_.addr = q.to_.addr
    · by_cases h2 : x.to_.port = q.to_.port
      · go_simp
      · go_simp
    · go_simp
  · go_simp
theorem run_neq_C (x q : ConD) (W : World) : (Go.binOp .neq 115 (.agg #[.int .i64 x.port, .int .i64 x.to_.addr, .int .i64 x.to_.port]) (.agg #[.int .i64 q.port, .int .i64 q.to_.addr, .int .i64 q.to_.port])).run Try.prog W = .ok (.bool (!decide (x = q))) W := by
  rw [ConD.eq_iff]
  by_cases h0 : x.port = q.port
  · by_cases h1 : x.to_.addr = q.to_.addr
    · by_cases h2 : x.to_.port = q.to_.port
      · go_simp
      · go_simp
    · go_simp
  · go_simp
theorem MapD.eq_iff (x q : MapD) : decide (x = q) = (decide (x.ins.addr = q.ins.addr) && (decide (x.ins.port = q.ins.port) && (decide (x.port = q.port) && (decide (x.last = q.last))))) := by
  obtain ⟨⟨a, b⟩, c, d⟩ := x; obtain ⟨⟨e, f⟩, g, h⟩ := q
  rw [Bool.eq_iff_iff]
  simp [and_assoc]
theorem run_eql_M (x q : MapD) (W : World) : (Go.binOp .eql 102 (.agg #[.int .i64 x.ins.addr, .int .i64 x.ins.port, .int .i64 x.port, .int .i64 x.last]) (.agg #[.int .i64 q.ins.addr, .int .i64 q.ins.port, .int .i64 q.port, .int .i64 q.last])).run Try.prog W = .ok (.bool (decide (x = q))) W := by
  rw [MapD.eq_iff]
  by_cases h0 : x.ins.addr = q.ins.addr
  · by_cases h1 : x.ins.port = q.ins.port
    · by_cases h2 : x.port = q.port
      · by_cases h3 : x.last = q.last
        · go_simp
        · go_simp
      · go_simp
    · go_simp
  · go_simp
theorem run_neq_M (x q : MapD) (W : World) : (Go.binOp .neq 102 (.agg #[.int .i64 x.ins.addr, .int .i64 x.ins.port, .int .i64 x.port, .int .i64 x.last]) (.agg #[.int .i64 q.ins.addr, .int .i64 q.ins.port, .int .i64 q.port, .int .i64 q.last])).run Try.prog W = .ok (.bool (!decide (x = q))) W := by
  rw [MapD.eq_iff]
  by_cases h0 : x.ins.addr = q.ins.addr
  · by_cases h1 : x.ins.port = q.ins.port
    · by_cases h2 : x.port = q.port
      · by_cases h3 : x.last = q.last
        · go_simp
        · go_simp
      · go_simp
    · go_simp
  · go_simp
end Go.Proofs.Ytafmomocmodbhaa
