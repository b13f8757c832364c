/- The reference's sequence of choices behind the end of its bytes: sooner or later bit 40 is 0. Plain. No condition. -/
import Derived.Test.YtnjfhpgmogopnaaBase
namespace Go.Proofs.Ytnjfhpgmogopnaa
def lcgF (x : Nat) : Nat := (x * 6364136223846793005 + 1442695040888963407) % 18446744073709551616
def itF (f : Nat → Nat) : Nat → Nat → Nat
  | 0, x => x
  | n + 1, x => itF f n (f x)
theorem itF_add (f : Nat → Nat) : ∀ m n x, itF f (m + n) x = itF f n (itF f m x)
  | 0, n, x => by rw [Nat.zero_add]; rfl
  | m + 1, n, x => by rw [Nat.add_right_comm]; exact itF_add f m n (f x)
theorem itF_s (f : Nat → Nat) (n x : Nat) : itF f (n + 1) x = itF f n (f x) := rfl
theorem itF_z (f : Nat → Nat) (x : Nat) : itF f 0 x = x := rfl
theorem itF_1 (f : Nat → Nat) (x : Nat) : itF f 1 x = f x := rfl
theorem lcgF_eq (x : Nat) : lcgF x = (x * 6364136223846793005 + 1442695040888963407) % 18446744073709551616 := by unfold lcgF; rfl
theorem lcg_0 (x : Nat) : itF lcgF 1 x = (x * 6364136223846793005 + 1442695040888963407) % 18446744073709551616 := by rw [itF_1, lcgF_eq]
theorem lcg_1 (x : Nat) : itF lcgF 2 x = (x * 7520897724310334953 + 1876011003808476466) % 18446744073709551616 := by
  rw [show 2 = 1 + 1 from rfl, itF_add, lcg_0, lcg_0]
  omega
theorem lcg_2 (x : Nat) : itF lcgF 4 x = (x * 18108194425815612945 + 7401132627792533940) % 18446744073709551616 := by
  rw [show 4 = 2 + 2 from rfl, itF_add, lcg_1, lcg_1]
  omega
theorem lcg_3 (x : Nat) : itF lcgF 8 x = (x * 13086856194709077281 + 6566661184467396264) % 18446744073709551616 := by
  rw [show 8 = 4 + 4 from rfl, itF_add, lcg_2, lcg_2]
  omega
theorem lcg_4 (x : Nat) : itF lcgF 16 x = (x * 10186629832379121217 + 3646985772805368400) % 18446744073709551616 := by
  rw [show 16 = 8 + 8 from rfl, itF_add, lcg_3, lcg_3]
  omega
theorem lcg_5 (x : Nat) : itF lcgF 32 x = (x * 10828933358287359105 + 982119659650238624) % 18446744073709551616 := by
  rw [show 32 = 16 + 16 from rfl, itF_add, lcg_4, lcg_4]
  omega
theorem lcg_6 (x : Nat) : itF lcgF 64 x = (x * 4910590176156014849 + 10607473198416945472) % 18446744073709551616 := by
  rw [show 64 = 32 + 32 from rfl, itF_add, lcg_5, lcg_5]
  omega
theorem lcg_7 (x : Nat) : itF lcgF 128 x = (x * 9908147928152388097 + 6914523672464851584) % 18446744073709551616 := by
  rw [show 128 = 64 + 64 from rfl, itF_add, lcg_6, lcg_6]
  omega
theorem lcg_8 (x : Nat) : itF lcgF 256 x = (x * 146241703003251713 + 4689171378020353280) % 18446744073709551616 := by
  rw [show 256 = 128 + 128 from rfl, itF_add, lcg_7, lcg_7]
  omega
theorem lcg_9 (x : Nat) : itF lcgF 512 x = (x * 7321387688379467777 + 8103286608563669504) % 18446744073709551616 := by
  rw [show 512 = 256 + 256 from rfl, itF_add, lcg_8, lcg_8]
  omega
theorem lcg_10 (x : Nat) : itF lcgF 1024 x = (x * 12255457568021647361 + 7710372194127975424) % 18446744073709551616 := by
  rw [show 1024 = 512 + 512 from rfl, itF_add, lcg_9, lcg_9]
  omega
theorem lcg_11 (x : Nat) : itF lcgF 2048 x = (x * 9867978473775767553 + 16043993925053589504) % 18446744073709551616 := by
  rw [show 2048 = 1024 + 1024 from rfl, itF_add, lcg_10, lcg_10]
  omega
theorem lcg_12 (x : Nat) : itF lcgF 4096 x = (x * 5088048636545613825 + 1993901509916512256) % 18446744073709551616 := by
  rw [show 4096 = 2048 + 2048 from rfl, itF_add, lcg_11, lcg_11]
  omega
theorem lcg_13 (x : Nat) : itF lcgF 8192 x = (x * 2150478223927705601 + 13175896319671181312) % 18446744073709551616 := by
  rw [show 8192 = 4096 + 4096 from rfl, itF_add, lcg_12, lcg_12]
  omega
theorem lcg_14 (x : Nat) : itF lcgF 16384 x = (x * 9196835419631190017 + 1993366741509554176) % 18446744073709551616 := by
  rw [show 16384 = 8192 + 8192 from rfl, itF_add, lcg_13, lcg_13]
  omega
theorem lcg_15 (x : Nat) : itF lcgF 32768 x = (x * 5957860013156466689 + 7241871532530761728) % 18446744073709551616 := by
  rw [show 32768 = 16384 + 16384 from rfl, itF_add, lcg_14, lcg_14]
  omega
theorem lcg_16 (x : Nat) : itF lcgF 65536 x = (x * 10389140232424652801 + 9829074100562493440) % 18446744073709551616 := by
  rw [show 65536 = 32768 + 32768 from rfl, itF_add, lcg_15, lcg_15]
  omega
theorem lcg_17 (x : Nat) : itF lcgF 131072 x = (x * 13023643825678581761 + 7211655632440131584) % 18446744073709551616 := by
  rw [show 131072 = 65536 + 65536 from rfl, itF_add, lcg_16, lcg_16]
  omega
theorem lcg_18 (x : Nat) : itF lcgF 262144 x = (x * 288945459443007489 + 14014807304630960128) % 18446744073709551616 := by
  rw [show 262144 = 131072 + 131072 from rfl, itF_add, lcg_17, lcg_17]
  omega
theorem lcg_19 (x : Nat) : itF lcgF 524288 x = (x * 13413133364217511937 + 15586959662575517696) % 18446744073709551616 := by
  rw [show 524288 = 262144 + 262144 from rfl, itF_add, lcg_18, lcg_18]
  omega
theorem lcg_20 (x : Nat) : itF lcgF 1048576 x = (x * 8991946233350193153 + 5614651135149211648) % 18446744073709551616 := by
  rw [show 1048576 = 524288 + 524288 from rfl, itF_add, lcg_19, lcg_19]
  omega
theorem lcg_21 (x : Nat) : itF lcgF 2097152 x = (x * 1986842707489718273 + 10449321915693662208) % 18446744073709551616 := by
  rw [show 2097152 = 1048576 + 1048576 from rfl, itF_add, lcg_20, lcg_20]
  omega
theorem lcg_22 (x : Nat) : itF lcgF 4194304 x = (x * 13772462672974970881 + 17778722412968280064) % 18446744073709551616 := by
  rw [show 4194304 = 2097152 + 2097152 from rfl, itF_add, lcg_21, lcg_21]
  omega
theorem lcg_23 (x : Nat) : itF lcgF 8388608 x = (x * 11399802156803424257 + 4631015078550831104) % 18446744073709551616 := by
  rw [show 8388608 = 4194304 + 4194304 from rfl, itF_add, lcg_22, lcg_22]
  omega
theorem lcg_24 (x : Nat) : itF lcgF 16777216 x = (x * 13559343778149433345 + 14683519683525607424) % 18446744073709551616 := by
  rw [show 16777216 = 8388608 + 8388608 from rfl, itF_add, lcg_23, lcg_23]
  omega
theorem lcg_25 (x : Nat) : itF lcgF 33554432 x = (x * 8604389488178757633 + 14159509325327892480) % 18446744073709551616 := by
  rw [show 33554432 = 16777216 + 16777216 from rfl, itF_add, lcg_24, lcg_24]
  omega
theorem lcg_26 (x : Nat) : itF lcgF 67108864 x = (x * 16938562998715285505 + 4382386631181598720) % 18446744073709551616 := by
  rw [show 67108864 = 33554432 + 33554432 from rfl, itF_add, lcg_25, lcg_25]
  omega
theorem lcg_27 (x : Nat) : itF lcgF 134217728 x = (x * 14349518013152100353 + 5251965553014210560) % 18446744073709551616 := by
  rw [show 134217728 = 67108864 + 67108864 from rfl, itF_add, lcg_26, lcg_26]
  omega
theorem lcg_28 (x : Nat) : itF lcgF 268435456 x = (x * 5928836310318972929 + 14899444342342025216) % 18446744073709551616 := by
  rw [show 268435456 = 134217728 + 134217728 from rfl, itF_add, lcg_27, lcg_27]
  omega
theorem lcg_29 (x : Nat) : itF lcgF 536870912 x = (x * 13010594125244792833 + 10487453482519363584) % 18446744073709551616 := by
  rw [show 536870912 = 268435456 + 268435456 from rfl, itF_add, lcg_28, lcg_28]
  omega
theorem lcg_30 (x : Nat) : itF lcgF 1073741824 x = (x * 12186130195207421953 + 17516142451218186240) % 18446744073709551616 := by
  rw [show 1073741824 = 536870912 + 536870912 from rfl, itF_add, lcg_29, lcg_29]
  omega
theorem lcg_31 (x : Nat) : itF lcgF 2147483648 x = (x * 5925516316705292289 + 2750482773444657152) % 18446744073709551616 := by
  rw [show 2147483648 = 1073741824 + 1073741824 from rfl, itF_add, lcg_30, lcg_30]
  omega
theorem lcg_32 (x : Nat) : itF lcgF 4294967296 x = (x * 11851032633410584577 + 5500965546889314304) % 18446744073709551616 := by
  rw [show 4294967296 = 2147483648 + 2147483648 from rfl, itF_add, lcg_31, lcg_31]
  omega
theorem lcg_33 (x : Nat) : itF lcgF 8589934592 x = (x * 5255321193111617537 + 11001931093778628608) % 18446744073709551616 := by
  rw [show 8589934592 = 4294967296 + 4294967296 from rfl, itF_add, lcg_32, lcg_32]
  omega
theorem lcg_34 (x : Nat) : itF lcgF 17179869184 x = (x * 10510642386223235073 + 3557118113847705600) % 18446744073709551616 := by
  rw [show 17179869184 = 8589934592 + 8589934592 from rfl, itF_add, lcg_33, lcg_33]
  omega
theorem lcg_35 (x : Nat) : itF lcgF 34359738368 x = (x * 2574540698736918529 + 7114236227695411200) % 18446744073709551616 := by
  rw [show 34359738368 = 17179869184 + 17179869184 from rfl, itF_add, lcg_34, lcg_34]
  omega
theorem lcg_36 (x : Nat) : itF lcgF 68719476736 x = (x * 5149081397473837057 + 14228472455390822400) % 18446744073709551616 := by
  rw [show 68719476736 = 34359738368 + 34359738368 from rfl, itF_add, lcg_35, lcg_35]
  omega
theorem lcg_37 (x : Nat) : itF lcgF 137438953472 x = (x * 10298162794947674113 + 10010200837072093184) % 18446744073709551616 := by
  rw [show 137438953472 = 68719476736 + 68719476736 from rfl, itF_add, lcg_36, lcg_36]
  omega
theorem lcg_38 (x : Nat) : itF lcgF 274877906944 x = (x * 2149581516185796609 + 1573657600434634752) % 18446744073709551616 := by
  rw [show 274877906944 = 137438953472 + 137438953472 from rfl, itF_add, lcg_37, lcg_37]
  omega
theorem lcg_39 (x : Nat) : itF lcgF 549755813888 x = (x * 4299163032371593217 + 3147315200869269504) % 18446744073709551616 := by
  rw [show 549755813888 = 274877906944 + 274877906944 from rfl, itF_add, lcg_38, lcg_38]
  omega
theorem lcg_40 (x : Nat) : itF lcgF 1099511627776 x = (x * 8598326064743186433 + 6294630401738539008) % 18446744073709551616 := by
  rw [show 1099511627776 = 549755813888 + 549755813888 from rfl, itF_add, lcg_39, lcg_39]
  omega
def bitL (x : Nat) : Nat := x / 1099511627776 % 2
theorem bitL_mod (y : Nat) : bitL y = y % 2199023255552 / 1099511627776 := by unfold bitL; omega
theorem lcg_turn (x : Nat) : bitL (itF lcgF 1099511627776 x) ≠ bitL x := by
  rw [lcg_40]
  have h : (x * 8598326064743186433 + 6294630401738539008) % 18446744073709551616 % 2199023255552 = (x + 1099511627776) % 2199023255552 := by
    rw [Nat.mod_mod_of_dvd _ (show 2199023255552 ∣ 18446744073709551616 from ⟨8388608, by decide⟩)]
    rw [show x * 8598326064743186433 + 6294630401738539008 = (x + 1099511627776) + 2199023255552 * (x * 3910066 + 2862466) by omega, Nat.add_mul_mod_self_left]
  rw [bitL_mod, bitL_mod, h]
  omega
/-- sooner or later the next number's bit is 0 -/
theorem lcg_soon (x : Nat) : ∃ m, m ≤ 1099511627776 ∧ bitL (itF lcgF (m + 1) x) = 0 := by
  by_cases h : bitL (lcgF x) = 0
  · exact ⟨0, by omega, by rw [itF_1]; exact h⟩
  · refine ⟨1099511627776, Nat.le_refl _, ?_⟩
    have h1 := lcg_turn (lcgF x)
    rw [itF_s]
    unfold bitL at *
    omega
theorem least_of {P : Nat → Prop} (h : ∃ m, P m) : ∃ m, P m ∧ ∀ k, k < m → ¬ P k := by
  obtain ⟨m, hm⟩ := h
  induction m using Nat.strongRecOn with
  | ind m ih =>
    by_cases hk : ∃ k, k < m ∧ P k
    · obtain ⟨k, h1, h2⟩ := hk
      exact ih k h1 h2
    · exact ⟨m, hm, fun k h1 h2 => hk ⟨k, h1, h2⟩⟩
theorem lcg_least (x : Nat) : ∃ m, bitL (itF lcgF (m + 1) x) = 0 ∧ ∀ k, k < m → ¬ bitL (itF lcgF (k + 1) x) = 0 :=
  least_of (P := fun m => bitL (itF lcgF (m + 1) x) = 0) (let ⟨m, _, h⟩ := lcg_soon x; ⟨m, h⟩)
/-- how many numbers come ahead of it -/
theorem lcg_fn : ∃ g : Nat → Nat, (∀ x, g x ≤ 1099511627776) ∧ ∀ x, bitL (lcgF x) = 1 → g (lcgF x) + 1 = g x := by
  refine ⟨fun x => Classical.choose (lcg_least x), fun x => ?_, fun x h => ?_⟩
  · obtain ⟨m, h1, h2⟩ := lcg_soon x
    have h3 := (Classical.choose_spec (lcg_least x)).2
    by_cases h : Classical.choose (lcg_least x) ≤ m
    · exact Nat.le_trans h h1
    · exact absurd h2 (h3 m (by omega))
  · have h1 := Classical.choose_spec (lcg_least x)
    have h2 := Classical.choose_spec (lcg_least (lcgF x))
    show Classical.choose (lcg_least (lcgF x)) + 1 = Classical.choose (lcg_least x)
    generalize Classical.choose (lcg_least x) = n at h1 ⊢
    generalize Classical.choose (lcg_least (lcgF x)) = p at h2 ⊢
    cases n with
    | zero =>
      have h4 : bitL (lcgF x) = 0 := by have h5 := h1.1; rw [itF_1] at h5; exact h5
      omega
    | succ m =>
      by_cases ha : p < m
      · have h5 := h1.2 (p + 1) (by omega)
        rw [itF_s] at h5
        exact absurd h2.1 h5
      · by_cases hb : m < p
        · have h5 := h1.1
          rw [itF_s] at h5
          exact absurd h5 (h2.2 m hb)
        · omega
end Go.Proofs.Ytnjfhpgmogopnaa
