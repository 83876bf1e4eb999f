/- The check of trees, roots 57344 to 65535. -/
import Derived.Test.YtabfekfbdacboaaTrp
import Derived.KernelRfl
namespace Go.Proofs.Ytabfekfbdacboaa

theorem tr_56 : tall 10 (nat_lit 57344) = true := by kernel_rfl
theorem tr_57 : tall 10 (nat_lit 58368) = true := by kernel_rfl
theorem tr_58 : tall 10 (nat_lit 59392) = true := by kernel_rfl
theorem tr_59 : tall 10 (nat_lit 60416) = true := by kernel_rfl
theorem tr_60 : tall 10 (nat_lit 61440) = true := by kernel_rfl
theorem tr_61 : tall 10 (nat_lit 62464) = true := by kernel_rfl
theorem tr_62 : tall 10 (nat_lit 63488) = true := by kernel_rfl
theorem tr_63 : tall 10 (nat_lit 64512) = true := by kernel_rfl
end Go.Proofs.Ytabfekfbdacboaa
