/-
  do: in one word.
-/
import Derived.Test.YteghkajegdcbjaaDoorT4
namespace Go.Proofs.YteghkajegdcbjaaDoor
open Go.RowKit

theorem did_eq {b : Nat} {l l' : List Nd} {w : World} {f : Nat} {args : Array Value} (h : Calls Tryd.prog f args w (Did b l w)) (e : l = l') : Calls Tryd.prog f args w (Did b l' w) := e ▸ h

theorem do_any (w : World) (b : Nat) (l : List Nd) (k at_ au nt nu pt pu : Int) (nm vl : ByteArray) (h : NodesL w b l) (hrt : Rooted l) :
    Calls Tryd.prog 43 #[.map (some b), .agg #[.int .i64 k, .int .i64 at_, .int .i64 au, .int .i64 nt, .int .i64 nu, .int .i64 pt, .int .i64 pu, .string nm, .string vl]] w
      (Did b (doN l ⟨k, ⟨at_, au⟩, ⟨nt, nu⟩, ⟨pt, pu⟩, nm, vl⟩) w) := by
  cases hn : findN l ⟨nt, nu⟩ with
  | none =>
    by_cases h1 : k = 1
    · subst h1
      cases hp : hasN l ⟨pt, pu⟩
      · exact did_eq (do_create_no w b l at_ au nt nu pt pu nm vl h hn hp) (by simp [doN, hn, hp])
      · exact did_eq (do_create_yes w b l at_ au nt nu pt pu nm vl h hn hp) (by simp [doN, hn, hp])
    · by_cases h5 : k = 5
      · subst h5
        exact did_eq (do_none5 w b l at_ au nt nu pt pu nm vl h hn) (by simp [doN, hn])
      · exact did_eq (do_none w b l k at_ au nt nu pt pu nm vl h hn h1 h5) (by simp [doN, hn, h1, h5])
  | some x =>
    obtain ⟨⟨it, iu⟩, ⟨xt, xu⟩, xn, xv⟩ := x
    obtain ⟨rfl, rfl⟩ := St.mk.inj (findN_id hn)
    by_cases h1 : k = 1
    · subst h1
      exact did_eq (do_create_there w b l at_ au it iu pt pu nm vl h xt xu xn xv hn) (by simp [doN, hn])
    by_cases h5 : k = 5
    · subst h5
      cases hp : hasN l ⟨0, 1⟩
      · exact did_eq (do_trash_no w b l at_ au it iu pt pu nm vl h xt xu xn xv hn hp) (by simp [doN, hn, hp])
      · cases hu : underN l ⟨0, 1⟩ ⟨it, iu⟩
        · exact did_eq (do_trash_yes w b l at_ au it iu pt pu nm vl h xt xu xn xv hn hrt hp hu) (by simp [doN, hn, hp, hu])
        · exact did_eq (do_trash_under w b l at_ au it iu pt pu nm vl h xt xu xn xv hn hrt hp hu) (by simp [doN, hn, hp, hu])
    by_cases h2 : k = 2
    · subst h2
      cases hp : hasN l ⟨pt, pu⟩
      · exact did_eq (do_move_no w b l at_ au it iu pt pu nm vl h xt xu xn xv hn hp) (by simp [doN, hn, hp])
      · cases hu : underN l ⟨pt, pu⟩ ⟨it, iu⟩
        · exact did_eq (do_move_yes w b l at_ au it iu pt pu nm vl h xt xu xn xv hn hrt hp hu) (by simp [doN, hn, hp, hu])
        · exact did_eq (do_move_under w b l at_ au it iu pt pu nm vl h xt xu xn xv hn hrt hp hu) (by simp [doN, hn, hp, hu])
    by_cases h3 : k = 3
    · subst h3
      exact did_eq (do_rename w b l at_ au it iu pt pu nm vl h xt xu xn xv hn) (by simp [doN, hn])
    by_cases h4 : k = 4
    · subst h4
      exact did_eq (do_set w b l at_ au it iu pt pu nm vl h xt xu xn xv hn) (by simp [doN, hn])
    · exact did_eq (do_other w b l k at_ au it iu pt pu nm vl h xt xu xn xv hn h1 h2 h3 h4 h5) (by simp [doN, hn, h1, h2, h3, h4, h5]; exact putN_self h.2 (findN_mem hn))
end Go.Proofs.YteghkajegdcbjaaDoor
