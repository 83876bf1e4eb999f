/- The check of trees, roots 32768 to 40959. -/
import Derived.Test.YtabfekfbdacboaaTrp
import Derived.KernelRfl
namespace Go.Proofs.Ytabfekfbdacboaa

theorem tr_32 : tall 10 (nat_lit 32768) = true := by kernel_rfl
theorem tr_33 : tall 10 (nat_lit 33792) = true := by kernel_rfl
theorem tr_34 : tall 10 (nat_lit 34816) = true := by kernel_rfl
theorem tr_35 : tall 10 (nat_lit 35840) = true := by kernel_rfl
theorem tr_36 : tall 10 (nat_lit 36864) = true := by kernel_rfl
theorem tr_37 : tall 10 (nat_lit 37888) = true := by kernel_rfl
theorem tr_38 : tall 10 (nat_lit 38912) = true := by kernel_rfl
theorem tr_39 : tall 10 (nat_lit 39936) = true := by kernel_rfl
end Go.Proofs.Ytabfekfbdacboaa
