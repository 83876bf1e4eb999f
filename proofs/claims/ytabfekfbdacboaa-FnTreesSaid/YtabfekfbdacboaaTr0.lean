/- The check of trees, roots 0 to 8191. -/
import Derived.Test.YtabfekfbdacboaaTrp
import Derived.KernelRfl
namespace Go.Proofs.Ytabfekfbdacboaa

theorem tr_0 : tall 10 (nat_lit 0) = true := by kernel_rfl
theorem tr_1 : tall 10 (nat_lit 1024) = true := by kernel_rfl
theorem tr_2 : tall 10 (nat_lit 2048) = true := by kernel_rfl
theorem tr_3 : tall 10 (nat_lit 3072) = true := by kernel_rfl
theorem tr_4 : tall 10 (nat_lit 4096) = true := by kernel_rfl
theorem tr_5 : tall 10 (nat_lit 5120) = true := by kernel_rfl
theorem tr_6 : tall 10 (nat_lit 6144) = true := by kernel_rfl
theorem tr_7 : tall 10 (nat_lit 7168) = true := by kernel_rfl
end Go.Proofs.Ytabfekfbdacboaa
