/- The check of trees, roots 24576 to 32767. -/
import Derived.Test.YtabfekfbdacboaaTrp
import Derived.KernelRfl
namespace Go.Proofs.Ytabfekfbdacboaa

theorem tr_24 : tall 10 (nat_lit 24576) = true := by kernel_rfl
theorem tr_25 : tall 10 (nat_lit 25600) = true := by kernel_rfl
theorem tr_26 : tall 10 (nat_lit 26624) = true := by kernel_rfl
theorem tr_27 : tall 10 (nat_lit 27648) = true := by kernel_rfl
theorem tr_28 : tall 10 (nat_lit 28672) = true := by kernel_rfl
theorem tr_29 : tall 10 (nat_lit 29696) = true := by kernel_rfl
theorem tr_30 : tall 10 (nat_lit 30720) = true := by kernel_rfl
theorem tr_31 : tall 10 (nat_lit 31744) = true := by kernel_rfl
end Go.Proofs.Ytabfekfbdacboaa
