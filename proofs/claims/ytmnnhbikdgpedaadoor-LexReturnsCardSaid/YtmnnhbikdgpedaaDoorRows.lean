/-
  NARROWER THAN 'FOR EVERY INPUT', by the rows' own cells (each row's printed sentence says how): LexTokens: laid · LexNames: laid · LexJoins: laid · LexReturns: laid · LexPlaces: laid.
  DERIVED. THE GIVEN ROWS OF THIS SEAT. 5 by the template 'for every input the law returns true; each argument reads behind the call as it read before'; 0 by the template 'total and deterministic' (their statements: YtmnnhbikdgpedaaDoorTotals.lean).
  GIVEN WITH THE SEED: the statements are not yours to turn. If you find one false, say at which input.
  Laid BY PROGRAM, IN A SANDBOX (cutbox-rows.mjs): the forced cells as the released guide's own fill.sh prints them over the translation e8eee355fe1cd5a9… (all of the seat's roots in one cut). By AI agents, Wed Nov 11 2026. No macro, syntax, notation, axiom, sorry.
-/
import Derived.Test.YtmnnhbikdgpedaaDoorChecked
import GoSem.PinnedTables
import GoSem.Claim
import GoSem.ClaimJoined
import GoSem.ClaimMapViews
import Derived.JoinedTies
import Derived.KernelRfl
namespace Go.Proofs.YtmnnhbikdgpedaaDoor
/- THE CELL 'sum', in the pinned program and in every row, IS THE sha256 OF THE DUMP (.gsa) THAT YtmnnhbikdgpedaaDoorProg.lean LOADS. Nothing in Lean hashes anything: it is a label: what it is worth is what the hold of that sum in a sandbox is worth. -/
noncomputable def Tryd.pinned : Pinned := { name := "ytmnnhbikdgpedaadoor", sum := "e8eee355fe1cd5a91da30aad8ac390104d3bb39a08fc3c25645e2411c997b373", checked := Tryd.checked }
namespace Rows
def none {H : Type} : Left H := { results := [], args := [] }

/- WHAT THE LISTED PACKAGE-LEVEL VARIABLES READ AS WHEN THE CALL BEGINS. Each datum BY PROGRAM (the guide's laid-datum.mjs) off the statement by which the dump's own 'gosem.cut.vars' lays the variable. In a bare row this is a premise. The card (YtmnnhbikdgpedaaDoorCards.lean) ties it to the program's text. -/
def laid_entail_lex_keywords {H : Type} : DataW H := .slice [.lit (.string [97, 114, 114, 97, 121]), .lit (.string [97, 115]), .lit (.string [97, 115, 115, 101, 114, 116]), .lit (.string [97, 115, 115, 117, 109, 101]), .lit (.string [98, 111, 111, 108]), .lit (.string [98, 121]), .lit (.string [99, 97, 108, 99]), .lit (.string [99, 97, 108, 108]), .lit (.string [99, 97, 115, 101]), .lit (.string [99, 108, 97, 115, 115]), .lit (.string [99, 111, 110, 115, 116]), .lit (.string [100, 97, 116, 97, 116, 121, 112, 101]), .lit (.string [100, 101, 99, 114, 101, 97, 115, 101, 115]), .lit (.string [101, 108, 115, 101]), .lit (.string [101, 110, 115, 117, 114, 101, 115]), .lit (.string [101, 120, 105, 115, 116, 115]), .lit (.string [101, 120, 112, 111, 114, 116]), .lit (.string [102, 97, 108, 115, 101]), .lit (.string [102, 111, 114, 97, 108, 108]), .lit (.string [102, 114, 101, 115, 104]), .lit (.string [102, 117, 101, 108]), .lit (.string [102, 117, 110, 99, 116, 105, 111, 110]), .lit (.string [103, 104, 111, 115, 116]), .lit (.string [103, 114, 101, 97, 116, 101, 115, 116]), .lit (.string [104, 105, 100, 100, 101, 110]), .lit (.string [105, 102]), .lit (.string [105, 109, 112, 111, 114, 116]), .lit (.string [105, 110]), .lit (.string [105, 110, 116]), .lit (.string [105, 110, 118, 97, 114, 105, 97, 110, 116]), .lit (.string [108, 101, 97, 115, 116]), .lit (.string [108, 101, 109, 109, 97]), .lit (.string [109, 97, 112]), .lit (.string [109, 97, 116, 99, 104]), .lit (.string [109, 101, 116, 104, 111, 100]), .lit (.string [109, 111, 100, 105, 102, 105, 101, 115]), .lit (.string [109, 111, 100, 117, 108, 101]), .lit (.string [109, 117, 108, 116, 105, 115, 101, 116]), .lit (.string [110, 101, 119]), .lit (.string [111, 108, 100]), .lit (.string [111, 112, 97, 113, 117, 101]), .lit (.string [112, 114, 105, 110, 116]), .lit (.string [114, 101, 97, 100, 115]), .lit (.string [114, 101, 97, 108]), .lit (.string [114, 101, 102, 105, 110, 101, 115]), .lit (.string [114, 101, 113, 117, 105, 114, 101, 115]), .lit (.string [114, 101, 116, 117, 114, 110]), .lit (.string [114, 101, 116, 117, 114, 110, 115]), .lit (.string [114, 101, 118, 101, 97, 108]), .lit (.string [115, 101, 113]), .lit (.string [115, 101, 116]), .lit (.string [116, 104, 101, 110]), .lit (.string [116, 114, 117, 101]), .lit (.string [116, 121, 112, 101]), .lit (.string [118, 97, 114]), .lit (.string [119, 104, 105, 108, 101]), .lit (.string [119, 105, 116, 110, 101, 115, 115])] []
def laid_entail_lex_signs {H : Type} : DataW H := .slice [.lit (.string [33]), .lit (.string [33, 61]), .lit (.string [35]), .lit (.string [37]), .lit (.string [38]), .lit (.string [38, 38]), .lit (.string [40]), .lit (.string [41]), .lit (.string [42]), .lit (.string [43]), .lit (.string [44]), .lit (.string [45]), .lit (.string [46]), .lit (.string [46, 46]), .lit (.string [47]), .lit (.string [58]), .lit (.string [58, 58]), .lit (.string [58, 61]), .lit (.string [58, 124]), .lit (.string [59]), .lit (.string [60]), .lit (.string [60, 60]), .lit (.string [60, 61]), .lit (.string [60, 61, 61, 62]), .lit (.string [61]), .lit (.string [61, 61]), .lit (.string [61, 61, 62]), .lit (.string [61, 62]), .lit (.string [62]), .lit (.string [62, 61]), .lit (.string [62, 62]), .lit (.string [63]), .lit (.string [91]), .lit (.string [93]), .lit (.string [94]), .lit (.string [123]), .lit (.string [124]), .lit (.string [124, 124]), .lit (.string [125])] []
def laid_unicode_utf8_acceptRanges {H : Type} : DataW H := .agg [.agg [.lit (.int .u8 128), .lit (.int .u8 191)], .agg [.lit (.int .u8 160), .lit (.int .u8 191)], .agg [.lit (.int .u8 128), .lit (.int .u8 159)], .agg [.lit (.int .u8 144), .lit (.int .u8 191)], .agg [.lit (.int .u8 128), .lit (.int .u8 143)], .agg [.lit (.int .u8 0), .lit (.int .u8 0)], .agg [.lit (.int .u8 0), .lit (.int .u8 0)], .agg [.lit (.int .u8 0), .lit (.int .u8 0)], .agg [.lit (.int .u8 0), .lit (.int .u8 0)], .agg [.lit (.int .u8 0), .lit (.int .u8 0)], .agg [.lit (.int .u8 0), .lit (.int .u8 0)], .agg [.lit (.int .u8 0), .lit (.int .u8 0)], .agg [.lit (.int .u8 0), .lit (.int .u8 0)], .agg [.lit (.int .u8 0), .lit (.int .u8 0)], .agg [.lit (.int .u8 0), .lit (.int .u8 0)], .agg [.lit (.int .u8 0), .lit (.int .u8 0)]]
/-- One of Go's own tables, pinned by name: the form's constant. -/
def laid_unicode_utf8_first : DataW Unit := Go.Pinned.utf8First

/-- 'entaillaw03.LexTokens': WHATEVER THE INPUT: true; the input reads as it did. -/
def lexTokensSpec : ChangeSpec := { name := "lexTokens", fn := fun _ => fun
  | [d] => { results := [.lit (.bool true)], args := [d] }
  | _ => none }
def lexTokensRow : OpenClaim := { program := "ytmnnhbikdgpedaadoor", sum := "e8eee355fe1cd5a91da30aad8ac390104d3bb39a08fc3c25645e2411c997b373", func := "entail/entaillaw03.LexTokens", spec := "lexTokens", inPlace := ["internal/bytealg.IndexByteString", "internal/bytealg.IndexString"], unfollowed := true, recurses := true, named := ["internal/bytealg.MaxLen", "entail/lex.keywords", "entail/lex.signs"], apart := false, laid := [("entail/lex.keywords", laid_entail_lex_keywords), ("entail/lex.signs", laid_entail_lex_signs)] }
def LexTokensSaid : Prop := lexTokensRow.holds Tryd.pinned (OpenSpec.ofChange lexTokensSpec)

/-- ITS FALSE NEIGHBOUR: 'it returns false'. Refute it at one input. -/
def lexTokensWrong : ChangeSpec := { name := "lexTokens", fn := fun _ => fun
  | [d] => { results := [.lit (.bool false)], args := [d] }
  | _ => none }
def LexTokensWrongFalsely : Prop := lexTokensRow.holds Tryd.pinned (OpenSpec.ofChange lexTokensWrong)

/-- 'entaillaw03.LexNames': WHATEVER THE INPUT: true; the input reads as it did. -/
def lexNamesSpec : ChangeSpec := { name := "lexNames", fn := fun _ => fun
  | [d1, d2] => { results := [.lit (.bool true)], args := [d1, d2] }
  | _ => none }
def lexNamesRow : OpenClaim := { program := "ytmnnhbikdgpedaadoor", sum := "e8eee355fe1cd5a91da30aad8ac390104d3bb39a08fc3c25645e2411c997b373", func := "entail/entaillaw03.LexNames", spec := "lexNames", inPlace := ["internal/bytealg.IndexByteString", "internal/bytealg.IndexString"], unfollowed := true, recurses := true, named := ["internal/bytealg.MaxLen", "entail/lex.keywords", "entail/lex.signs"], apart := false, laid := [("entail/lex.keywords", laid_entail_lex_keywords), ("entail/lex.signs", laid_entail_lex_signs)] }
def LexNamesSaid : Prop := lexNamesRow.holds Tryd.pinned (OpenSpec.ofChange lexNamesSpec)

/-- ITS FALSE NEIGHBOUR: 'it returns false'. Refute it at one input. -/
def lexNamesWrong : ChangeSpec := { name := "lexNames", fn := fun _ => fun
  | [d1, d2] => { results := [.lit (.bool false)], args := [d1, d2] }
  | _ => none }
def LexNamesWrongFalsely : Prop := lexNamesRow.holds Tryd.pinned (OpenSpec.ofChange lexNamesWrong)

/-- 'entaillaw03.LexJoins': WHATEVER THE INPUT: true; the input reads as it did. -/
def lexJoinsSpec : ChangeSpec := { name := "lexJoins", fn := fun _ => fun
  | [d] => { results := [.lit (.bool true)], args := [d] }
  | _ => none }
def lexJoinsRow : OpenClaim := { program := "ytmnnhbikdgpedaadoor", sum := "e8eee355fe1cd5a91da30aad8ac390104d3bb39a08fc3c25645e2411c997b373", func := "entail/entaillaw03.LexJoins", spec := "lexJoins", inPlace := ["internal/bytealg.IndexByteString", "internal/bytealg.IndexString", "internal/abi.NoEscape"], unfollowed := true, recurses := true, named := ["internal/bytealg.MaxLen", "entail/lex.keywords", "entail/lex.signs"], apart := false, laid := [("entail/lex.keywords", laid_entail_lex_keywords), ("entail/lex.signs", laid_entail_lex_signs)] }
def LexJoinsSaid : Prop := lexJoinsRow.holds Tryd.pinned (OpenSpec.ofChange lexJoinsSpec)

/-- ITS FALSE NEIGHBOUR: 'it returns false'. Refute it at one input. -/
def lexJoinsWrong : ChangeSpec := { name := "lexJoins", fn := fun _ => fun
  | [d] => { results := [.lit (.bool false)], args := [d] }
  | _ => none }
def LexJoinsWrongFalsely : Prop := lexJoinsRow.holds Tryd.pinned (OpenSpec.ofChange lexJoinsWrong)

/-- 'entaillaw03.LexReturns': WHATEVER THE INPUT: true; the input reads as it did. -/
def lexReturnsSpec : ChangeSpec := { name := "lexReturns", fn := fun _ => fun
  | [d] => { results := [.lit (.bool true)], args := [d] }
  | _ => none }
def lexReturnsRow : OpenClaim := { program := "ytmnnhbikdgpedaadoor", sum := "e8eee355fe1cd5a91da30aad8ac390104d3bb39a08fc3c25645e2411c997b373", func := "entail/entaillaw03.LexReturns", spec := "lexReturns", inPlace := ["internal/bytealg.IndexByteString", "internal/bytealg.IndexString", "internal/abi.NoEscape"], unfollowed := true, recurses := true, named := ["internal/bytealg.MaxLen", "entail/lex.keywords", "entail/lex.signs"], apart := false, laid := [("entail/lex.keywords", laid_entail_lex_keywords), ("entail/lex.signs", laid_entail_lex_signs)] }
def LexReturnsSaid : Prop := lexReturnsRow.holds Tryd.pinned (OpenSpec.ofChange lexReturnsSpec)

/-- ITS FALSE NEIGHBOUR: 'it returns false'. Refute it at one input. -/
def lexReturnsWrong : ChangeSpec := { name := "lexReturns", fn := fun _ => fun
  | [d] => { results := [.lit (.bool false)], args := [d] }
  | _ => none }
def LexReturnsWrongFalsely : Prop := lexReturnsRow.holds Tryd.pinned (OpenSpec.ofChange lexReturnsWrong)

/-- 'entaillaw03.LexPlaces': WHATEVER THE INPUT: true; the input reads as it did. -/
def lexPlacesSpec : ChangeSpec := { name := "lexPlaces", fn := fun _ => fun
  | [d1, d2, d3] => { results := [.lit (.bool true)], args := [d1, d2, d3] }
  | _ => none }
def lexPlacesRow : OpenClaim := { program := "ytmnnhbikdgpedaadoor", sum := "e8eee355fe1cd5a91da30aad8ac390104d3bb39a08fc3c25645e2411c997b373", func := "entail/entaillaw03.LexPlaces", spec := "lexPlaces", inPlace := ["internal/bytealg.IndexByteString", "internal/bytealg.IndexString", "internal/bytealg.CountString"], unfollowed := true, recurses := true, named := ["internal/bytealg.MaxLen", "entail/lex.keywords", "entail/lex.signs", "unicode/utf8.first", "unicode/utf8.acceptRanges"], apart := false, laid := [("unicode/utf8.acceptRanges", laid_unicode_utf8_acceptRanges), ("entail/lex.keywords", laid_entail_lex_keywords), ("entail/lex.signs", laid_entail_lex_signs), ("unicode/utf8.first", laid_unicode_utf8_first)] }
def LexPlacesSaid : Prop := lexPlacesRow.holds Tryd.pinned (OpenSpec.ofChange lexPlacesSpec)

/-- ITS FALSE NEIGHBOUR: 'it returns false'. Refute it at one input. -/
def lexPlacesWrong : ChangeSpec := { name := "lexPlaces", fn := fun _ => fun
  | [d1, d2, d3] => { results := [.lit (.bool false)], args := [d1, d2, d3] }
  | _ => none }
def LexPlacesWrongFalsely : Prop := lexPlacesRow.holds Tryd.pinned (OpenSpec.ofChange lexPlacesWrong)

/- THE SECOND FORM. 'bulk': how many values and letters a reading holds, each counted each time it is reached (what is shared counts as often as it is met; a slice's spare places count too). A statement '..UptoSaid' is the law's where the arguments, and the package variables that the reading takes, are together of bulk at most 1048576: NARROWER than '..Said'. Prove '..Said' where nothing that the law and all that it calls make is longer than what came in: it says more and counts as full. Else prove '..UptoSaid'. A law counts once. -/
mutual
def uptoBulk {H : Type} : DataW H → Nat
  | .lit (.string bytes) => bytes.length + 1
  | .lit _ => 1
  | .nil => 1
  | .ptr d => uptoBulk d + 1
  | .slice elems spare => uptoBulkAll elems + uptoBulkAll spare + 1
  | .agg parts => uptoBulkAll parts + 1
  | .iface _ d => uptoBulk d + 1
  | .map entries => uptoBulkEntries entries + 1
  | .held _ => 1
def uptoBulkAll {H : Type} : List (DataW H) → Nat
  | [] => 0
  | d :: r => uptoBulk d + uptoBulkAll r
def uptoBulkEntries {H : Type} : List (Lit × DataW H) → Nat
  | [] => 0
  | x :: r => uptoBulkEntry x + uptoBulkEntries r
def uptoBulkEntry {H : Type} : Lit × DataW H → Nat
  | (.string bytes, d) => bytes.length + uptoBulk d + 1
  | (_, d) => uptoBulk d + 1
 end
def uptoSmall : (H : Type) → List (DataW H) → Bool := fun _ ds => decide (uptoBulkAll ds ≤ 1048576)
def OpenSpec.upto (s : _root_.Go.ChangeSpec) : _root_.Go.OpenSpec := { _root_.Go.OpenSpec.ofChange s with cond := some uptoSmall }

/-- 'entaillaw03.LexTokens', WHERE WHAT IT READS IS OF BULK AT MOST 1048576: true; the input reads as it did. -/
def lexTokensUptoRow : OpenClaim := { program := "ytmnnhbikdgpedaadoor", sum := "e8eee355fe1cd5a91da30aad8ac390104d3bb39a08fc3c25645e2411c997b373", func := "entail/entaillaw03.LexTokens", spec := "lexTokens", inPlace := ["internal/bytealg.IndexByteString", "internal/bytealg.IndexString"], unfollowed := true, recurses := true, named := ["internal/bytealg.MaxLen", "entail/lex.keywords", "entail/lex.signs"], apart := false, laid := [("entail/lex.keywords", laid_entail_lex_keywords), ("entail/lex.signs", laid_entail_lex_signs)], narrowed := true }
def LexTokensUptoSaid : Prop := lexTokensUptoRow.holds Tryd.pinned (OpenSpec.upto lexTokensSpec)

/-- 'entaillaw03.LexNames', WHERE WHAT IT READS IS OF BULK AT MOST 1048576: true; the input reads as it did. -/
def lexNamesUptoRow : OpenClaim := { program := "ytmnnhbikdgpedaadoor", sum := "e8eee355fe1cd5a91da30aad8ac390104d3bb39a08fc3c25645e2411c997b373", func := "entail/entaillaw03.LexNames", spec := "lexNames", inPlace := ["internal/bytealg.IndexByteString", "internal/bytealg.IndexString"], unfollowed := true, recurses := true, named := ["internal/bytealg.MaxLen", "entail/lex.keywords", "entail/lex.signs"], apart := false, laid := [("entail/lex.keywords", laid_entail_lex_keywords), ("entail/lex.signs", laid_entail_lex_signs)], narrowed := true }
def LexNamesUptoSaid : Prop := lexNamesUptoRow.holds Tryd.pinned (OpenSpec.upto lexNamesSpec)

/-- 'entaillaw03.LexJoins', WHERE WHAT IT READS IS OF BULK AT MOST 1048576: true; the input reads as it did. -/
def lexJoinsUptoRow : OpenClaim := { program := "ytmnnhbikdgpedaadoor", sum := "e8eee355fe1cd5a91da30aad8ac390104d3bb39a08fc3c25645e2411c997b373", func := "entail/entaillaw03.LexJoins", spec := "lexJoins", inPlace := ["internal/bytealg.IndexByteString", "internal/bytealg.IndexString", "internal/abi.NoEscape"], unfollowed := true, recurses := true, named := ["internal/bytealg.MaxLen", "entail/lex.keywords", "entail/lex.signs"], apart := false, laid := [("entail/lex.keywords", laid_entail_lex_keywords), ("entail/lex.signs", laid_entail_lex_signs)], narrowed := true }
def LexJoinsUptoSaid : Prop := lexJoinsUptoRow.holds Tryd.pinned (OpenSpec.upto lexJoinsSpec)

/-- 'entaillaw03.LexReturns', WHERE WHAT IT READS IS OF BULK AT MOST 1048576: true; the input reads as it did. -/
def lexReturnsUptoRow : OpenClaim := { program := "ytmnnhbikdgpedaadoor", sum := "e8eee355fe1cd5a91da30aad8ac390104d3bb39a08fc3c25645e2411c997b373", func := "entail/entaillaw03.LexReturns", spec := "lexReturns", inPlace := ["internal/bytealg.IndexByteString", "internal/bytealg.IndexString", "internal/abi.NoEscape"], unfollowed := true, recurses := true, named := ["internal/bytealg.MaxLen", "entail/lex.keywords", "entail/lex.signs"], apart := false, laid := [("entail/lex.keywords", laid_entail_lex_keywords), ("entail/lex.signs", laid_entail_lex_signs)], narrowed := true }
def LexReturnsUptoSaid : Prop := lexReturnsUptoRow.holds Tryd.pinned (OpenSpec.upto lexReturnsSpec)

/-- 'entaillaw03.LexPlaces', WHERE WHAT IT READS IS OF BULK AT MOST 1048576: true; the input reads as it did. -/
def lexPlacesUptoRow : OpenClaim := { program := "ytmnnhbikdgpedaadoor", sum := "e8eee355fe1cd5a91da30aad8ac390104d3bb39a08fc3c25645e2411c997b373", func := "entail/entaillaw03.LexPlaces", spec := "lexPlaces", inPlace := ["internal/bytealg.IndexByteString", "internal/bytealg.IndexString", "internal/bytealg.CountString"], unfollowed := true, recurses := true, named := ["internal/bytealg.MaxLen", "entail/lex.keywords", "entail/lex.signs", "unicode/utf8.first", "unicode/utf8.acceptRanges"], apart := false, laid := [("unicode/utf8.acceptRanges", laid_unicode_utf8_acceptRanges), ("entail/lex.keywords", laid_entail_lex_keywords), ("entail/lex.signs", laid_entail_lex_signs), ("unicode/utf8.first", laid_unicode_utf8_first)], narrowed := true }
def LexPlacesUptoSaid : Prop := lexPlacesUptoRow.holds Tryd.pinned (OpenSpec.upto lexPlacesSpec)

end Rows
end Go.Proofs.YtmnnhbikdgpedaaDoor
