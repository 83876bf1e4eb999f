/- The check of trees, roots 49152 to 57343. -/
import Derived.Test.YtabfekfbdacboaaTrp
import Derived.KernelRfl
namespace Go.Proofs.Ytabfekfbdacboaa

theorem tr_48 : tall 10 (nat_lit 49152) = true := by kernel_rfl
theorem tr_49 : tall 10 (nat_lit 50176) = true := by kernel_rfl
theorem tr_50 : tall 10 (nat_lit 51200) = true := by kernel_rfl
theorem tr_51 : tall 10 (nat_lit 52224) = true := by kernel_rfl
theorem tr_52 : tall 10 (nat_lit 53248) = true := by kernel_rfl
theorem tr_53 : tall 10 (nat_lit 54272) = true := by kernel_rfl
theorem tr_54 : tall 10 (nat_lit 55296) = true := by kernel_rfl
theorem tr_55 : tall 10 (nat_lit 56320) = true := by kernel_rfl
end Go.Proofs.Ytabfekfbdacboaa
