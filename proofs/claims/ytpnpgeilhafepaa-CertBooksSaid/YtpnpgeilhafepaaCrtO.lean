
/- Certificates (layer 17): a certificate, and bytes, that come in. -/
import Derived.Test.YtpnpgeilhafepaaCrtC
import Derived.Test.YtpnpgeilhafepaaOpen
namespace Go.Proofs.Ytpnpgeilhafepaa
open Go.ChangeShapes Go.WideShapes Go.ChangeAt Go.RowKit Go.Hf
open Go.ChangeMaps (open_string shut_string)
section
variable {H : Type} {enc : TypeId × Value → H} {W : World} {base : Nat} {v : Value} {d : DataW H} {p : List MemPlace}
theorem ints8 {cs : Array Value} (h : Flat [.int .i64, .int .i64, .int .i64, .int .i64, .int .i64, .int .i64, .int .i64, .int .i64] cs.toList) : ∃ c : Cert, cs = #[.int .i64 c.id, .int .i64 c.order, .int .i64 c.lot, .int .i64 c.product, .int .i64 c.units, .int .i64 c.minute, .int .i64 c.exposure, .int .i64 c.allowance] := by
  obtain ⟨v0, r0, e0, ⟨a0, rfl, _⟩, h0⟩ := h.cons
  obtain ⟨v1, r1, e1, ⟨a1, rfl, _⟩, h1⟩ := h0.cons
  obtain ⟨v2, r2, e2, ⟨a2, rfl, _⟩, h2⟩ := h1.cons
  obtain ⟨v3, r3, e3, ⟨a3, rfl, _⟩, h3⟩ := h2.cons
  obtain ⟨v4, r4, e4, ⟨a4, rfl, _⟩, h4⟩ := h3.cons
  obtain ⟨v5, r5, e5, ⟨a5, rfl, _⟩, h5⟩ := h4.cons
  obtain ⟨v6, r6, e6, ⟨a6, rfl, _⟩, h6⟩ := h5.cons
  obtain ⟨v7, r7, e7, ⟨a7, rfl, _⟩, h7⟩ := h6.cons
  obtain rfl := h7.nil
  subst e7 e6 e5 e4 e3 e2 e1
  exact ⟨⟨a0, a1, a2, a3, a4, a5, a6, a7⟩, by cases cs; simp_all⟩
set_option maxRecDepth 100000 in
theorem open_cert (hv : Value.okWide Try.prog W .any base 38 v) (hd : DataW.Trod enc Try.prog W 0 (fun _ => true) true 38 v d p) : ∃ c : Cert, v = aggC c := by
  obtain ⟨cs, rfl, hf⟩ := open_flat_arg (ks := [.int .i64, .int .i64, .int .i64, .int .i64, .int .i64, .int .i64, .int .i64, .int .i64]) (by kernel_rfl) hv hd
  obtain ⟨c, rfl⟩ := ints8 hf
  exact ⟨c, rfl⟩
end
set_option maxRecDepth 100000 in
theorem opens_cert : Opens Try.prog 38 (flat encC) := fun enc w fuel cs x h => by
  obtain ⟨_, hf⟩ := opens_flat (ks := [.int .i64, .int .i64, .int .i64, .int .i64, .int .i64, .int .i64, .int .i64, .int .i64]) (by kernel_rfl) enc w fuel cs x h
  obtain ⟨c, hc⟩ := ints8 (cs := cs.toArray) (by simpa using hf)
  exact ⟨c, by have := congrArg Array.toList hc; simpa [flat, encC] using this⟩
set_option maxRecDepth 100000 in
theorem opens_certs : Opens Try.prog 47 (slR 8 (flat encC)) := opens_slice Try.underlying47 (by kernel_rfl) (by omega) opens_cert
theorem opens_bytes : Opens Try.prog 39 (slR 1 (flat encB)) := opens_slice Try.underlying39 (by kernel_rfl) (by omega) (opens_byte Try.underlying5)
theorem opens_ints : Opens Try.prog 48 (slR 1 (flat encI)) := opens_slice Try.underlying48 (by kernel_rfl) (by omega) (opens_i64 Try.underlying3)
end Go.Proofs.Ytpnpgeilhafepaa
