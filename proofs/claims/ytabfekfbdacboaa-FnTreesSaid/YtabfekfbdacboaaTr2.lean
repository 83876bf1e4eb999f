/- The check of trees, roots 16384 to 24575. -/
import Derived.Test.YtabfekfbdacboaaTrp
import Derived.KernelRfl
namespace Go.Proofs.Ytabfekfbdacboaa

theorem tr_16 : tall 10 (nat_lit 16384) = true := by kernel_rfl
theorem tr_17 : tall 10 (nat_lit 17408) = true := by kernel_rfl
theorem tr_18 : tall 10 (nat_lit 18432) = true := by kernel_rfl
theorem tr_19 : tall 10 (nat_lit 19456) = true := by kernel_rfl
theorem tr_20 : tall 10 (nat_lit 20480) = true := by kernel_rfl
theorem tr_21 : tall 10 (nat_lit 21504) = true := by kernel_rfl
theorem tr_22 : tall 10 (nat_lit 22528) = true := by kernel_rfl
theorem tr_23 : tall 10 (nat_lit 23552) = true := by kernel_rfl
end Go.Proofs.Ytabfekfbdacboaa
