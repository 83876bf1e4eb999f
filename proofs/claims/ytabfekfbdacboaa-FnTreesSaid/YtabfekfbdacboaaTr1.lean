/- The check of trees, roots 8192 to 16383. -/
import Derived.Test.YtabfekfbdacboaaTrp
import Derived.KernelRfl
namespace Go.Proofs.Ytabfekfbdacboaa

theorem tr_8 : tall 10 (nat_lit 8192) = true := by kernel_rfl
theorem tr_9 : tall 10 (nat_lit 9216) = true := by kernel_rfl
theorem tr_10 : tall 10 (nat_lit 10240) = true := by kernel_rfl
theorem tr_11 : tall 10 (nat_lit 11264) = true := by kernel_rfl
theorem tr_12 : tall 10 (nat_lit 12288) = true := by kernel_rfl
theorem tr_13 : tall 10 (nat_lit 13312) = true := by kernel_rfl
theorem tr_14 : tall 10 (nat_lit 14336) = true := by kernel_rfl
theorem tr_15 : tall 10 (nat_lit 15360) = true := by kernel_rfl
end Go.Proofs.Ytabfekfbdacboaa
