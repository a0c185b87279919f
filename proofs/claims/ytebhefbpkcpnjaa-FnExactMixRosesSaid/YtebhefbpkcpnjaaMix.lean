/-
  CONTRACT: mixes of roses.
-/
import Derived.Test.YtebhefbpkcpnjaaMixH
namespace Go.Proofs.Ytebhefbpkcpnjaa
open Go.RowKit Go.Flt
set_option linter.unusedVariables false
set_option maxRecDepth 100000
set_option linter.unusedSimpArgs false

theorem c_implMixRoses (A C A' C' : Option Addr) (n cA m cC n' cA' m' cC' K : Nat) (xs ys xs' ys' : List Nat) (s : Nat) (w : World) (hx : Fl w K A n xs) (hy : Fl w K C m ys) (hx' : Fl w K A' n' xs') (hy' : Fl w K C' m' ys') (hK : K ≤ w.heap.size) (hn : n ≤ maxLen) (hm : m ≤ maxLen) (hn' : n' ≤ maxLen) (hm' : m' ≤ maxLen)  :
    Calls Try.prog 19 #[.agg #[.slice A n cA, .slice C m cC], .agg #[.slice A' n' cA', .slice C' m' cC'], .float .f32 s] w (RetR (if isMix xs ys xs' ys' s then mixL xs xs' s xs.length else []) (if isMix xs ys xs' ys' s then mixL ys ys' s xs.length else []) (isMix xs ys xs' ys' s) w) := by
  cases k1 : vRose xs ys
  · exact c_mixBad1 A C A' C' n cA m cC n' cA' m' cC' K xs ys xs' ys' s w hx hy hx' hy' hK hn hm hn' hm' k1
  cases k2 : vRose xs' ys'
  · exact c_mixBad2 A C A' C' n cA m cC n' cA' m' cC' K xs ys xs' ys' s w hx hy hx' hy' hK hn hm hn' hm' k1 k2
  cases k3 : ((xs.length : Int) != (xs'.length : Int))
  case true => exact c_mixBad3 A C A' C' n cA m cC n' cA' m' cC' K xs ys xs' ys' s w hx hy hx' hy' hK hn hm hn' hm' k1 k2 k3
  cases k4 : fromTo (cl .f32 s) (cl .f32 0) (cl .f32 1065353216)
  · exact c_mixBad4 A C A' C' n cA m cC n' cA' m' cC' K xs ys xs' ys' s w hx hy hx' hy' hK hn hm hn' hm' k1 k2 k3 k4
  exact c_mixGood A C A' C' n cA m cC n' cA' m' cC' K xs ys xs' ys' s w hx hy hx' hy' hK hn hm hn' hm' k1 k2 k3 k4

theorem c_specMixRoses (A C A' C' : Option Addr) (n cA m cC n' cA' m' cC' K : Nat) (xs ys xs' ys' : List Nat) (s : Nat) (w : World) (hx : Fl w K A n xs) (hy : Fl w K C m ys) (hx' : Fl w K A' n' xs') (hy' : Fl w K C' m' ys') (hK : K ≤ w.heap.size) :
    Calls Try.prog 17 #[.agg #[.slice A n cA, .slice C m cC], .agg #[.slice A' n' cA', .slice C' m' cC'], .float .f32 s] w (RetR (if isMix xs ys xs' ys' s then mixL xs xs' s xs.length else []) (if isMix xs ys xs' ys' s then mixL ys ys' s xs.length else []) (isMix xs ys xs' ys' s) w) := by
  cases k1 : vRose xs ys
  · exact c_smixBad1 A C A' C' n cA m cC n' cA' m' cC' K xs ys xs' ys' s w hx hy hx' hy' hK k1
  cases k2 : vRose xs' ys'
  · exact c_smixBad2 A C A' C' n cA m cC n' cA' m' cC' K xs ys xs' ys' s w hx hy hx' hy' hK k1 k2
  cases k3 : ((xs.length : Int) != (xs'.length : Int))
  case true => exact c_smixBad3 A C A' C' n cA m cC n' cA' m' cC' K xs ys xs' ys' s w hx hy hx' hy' hK k1 k2 k3
  cases k4 : fromTo (cl .f32 s) (cl .f32 0) (cl .f32 1065353216)
  · exact c_smixBad4 A C A' C' n cA m cC n' cA' m' cC' K xs ys xs' ys' s w hx hy hx' hy' hK k1 k2 k3 k4
  exact c_smixGood A C A' C' n cA m cC n' cA' m' cC' K xs ys xs' ys' s w hx hy hx' hy' hK k1 k2 k3 k4

end Go.Proofs.Ytebhefbpkcpnjaa
